/- Package tally, by the evaluation. -/
import Derived.Test.YtbmgclpgompjmaaSxz
import Derived.Test.YtbmgclpgompjmaaAff
set_option linter.unusedSimpArgs false
set_option linter.unusedVariables false
namespace Go.Proofs.Ytbmgclpgompjmaa.Tal
open Go.RowKit Sx Num Aff
set_option maxRecDepth 100000
structure Pl where
  w : Int
  h : Int
  n : Nat
  px : Nat → Int
def plL (g : Pl) : List SV := [.int .i64 g.w, .int .i64 g.h, .sl g.n 1 (fun i _ => .int .u8 (g.px i))]
def plS (g : Pl) : SV := .agg 3 (lst (plL g))
def plD (g : Nat → SV) : Pl := ⟨intOf (g 0), intOf (g 1), slLen (g 2), slCell 0 (g 2)⟩
def Pl.chk (g : Pl) : Int := if g.w < 1 ∨ 1024 < g.w ∨ g.h < 1 ∨ 1024 < g.h then 3 else if (g.n : Int) ≠ g.w * g.h then 4 else 0
def spCheckP : FSpec := mkSpec 21 (γ := Pl) (fun | [.agg _ g] => some (plD g) | _ => none) (fun g => [plS g]) (fun _ => True) (fun g => .int .i64 g.chk)
theorem ok_checkP : SpecOK Try.prog spCheckP := by
  refine spec_sound (specs := []) (all_ok trivial) (eqs := []) (fun _ _ h => (List.not_mem_nil h).elim) Aff.mixed Try.func21 rfl (by kernel_rfl) (fun _ _ => by kernel_rfl) (fun g => A0) (fun g => Nat.le_of_ble_eq_true (by kernel_rfl)) ?_
  rintro g _
  have hp : (1 ≤ g.w ∧ g.w ≤ 1024) → (1 ≤ g.h ∧ g.h ≤ 1024) → 0 ≤ g.w * g.h ∧ g.w * g.h ≤ 1024 * 1024 := fun h1 h2 => ⟨Int.mul_nonneg (by omega) (by omega), Int.mul_le_mul h1.2 h2.2 (by omega) (by omega)⟩
  refine vc_of (B := True ∧ True ∧ True ∧ True ∧ True ∧ True ∧ Sx.Br (decide (g.w < (1 : Int))) (True ∧ True ∧ True ∧ True ∧ True ∧ True ∧ True ∧ Sx.Ask (IntKind.i64 = IntKind.i64) ∧ Sx.Ask ((3 : Int) = g.chk)) (True ∧ True ∧ True ∧ True ∧ True ∧ Sx.Br (decide ((1024 : Int) < g.w)) (True ∧ True ∧ True ∧ True ∧ True ∧ Sx.Ask (IntKind.i64 = IntKind.i64) ∧ Sx.Ask ((3 : Int) = g.chk)) (True ∧ True ∧ True ∧ True ∧ True ∧ Sx.Br (decide (g.h < (1 : Int))) (True ∧ True ∧ True ∧ Sx.Ask (IntKind.i64 = IntKind.i64) ∧ Sx.Ask ((3 : Int) = g.chk)) (True ∧ True ∧ True ∧ True ∧ Sx.Br (decide ((1024 : Int) < g.h)) (True ∧ True ∧ Sx.Ask (IntKind.i64 = IntKind.i64) ∧ Sx.Ask ((3 : Int) = g.chk)) (True ∧ True ∧ True ∧ True ∧ True ∧ True ∧ True ∧ Sx.Ask ((-9223372036854775808 : Int) ≤ g.w * g.h ∧ g.w * g.h ≤ (9223372036854775807 : Int)) ∧ True ∧ Sx.Br (decide ((↑g.n : Int) ≠ g.w * g.h)) (True ∧ True ∧ Sx.Ask (IntKind.i64 = IntKind.i64) ∧ Sx.Ask ((4 : Int) = g.chk)) (True ∧ True ∧ Sx.Ask (IntKind.i64 = IntKind.i64) ∧ Sx.Ask ((0 : Int) = g.chk))))))) (by kernel_rfl) ?_
  simp only [ask_iff, br_iff, eq_self, true_and, and_true, implies_true, forall_const, decide_eq_true_eq, decide_eq_false_iff_not, ne_eq, Nat.mul_one, Nat.add_zero, Nat.zero_add]
  unfold Pl.chk
  generalize hP : g.w * g.h = Q at hp ⊢
  refine ⟨fun h1 => by omega, fun h1 => ⟨fun h2 => by omega, fun h2 => ⟨fun h3 => by omega, fun h3 => ⟨fun h4 => by omega, fun h4 => ?_⟩⟩⟩⟩
  have hq := hp ⟨by omega, by omega⟩ ⟨by omega, by omega⟩
  exact ⟨by omega, fun h5 => by omega, fun h5 => by omega⟩
/-! The classes. -/
inductive Cl : Type
  | sum
  | zones (p : Pl) (n : Int)
  | tiles (h across w : Int)
def i1 (x : Int) : SV := .ref 1 (lst [.int .i64 x])
def refF : SV → Nat → SV
  | .ref _ g => g
  | _ => fun _ => .any
def clS : Cl → SV
  | .sum => .fn 62 0 (lst [])
  | .zones p n => .fn 63 2 (lst [i1 n, .ref 3 (lst (plL p))])
  | .tiles h a w => .fn 64 3 (lst [i1 h, i1 a, i1 w])
def clI : Cl → Int → Int → Int
  | .sum, _, _ => 0
  | .zones p n, x, _ => (x * n) / p.w
  | .tiles h a w, x, y => y / h * a + x / w
def clOK : Cl → Int → Int → Prop
  | .sum, _, _ => True
  | .zones p n, x, _ => (0 ≤ x ∧ x < 1024) ∧ (1 ≤ n ∧ n ≤ 64) ∧ 1 ≤ p.w ∧ p.w ≤ 1024
  | .tiles h a w, x, y => ((0 ≤ x ∧ x < 1024) ∧ 0 ≤ y ∧ y < 1024) ∧ (1 ≤ h ∧ h ≤ 1024) ∧ (1 ≤ w ∧ w ≤ 1024) ∧ 0 ≤ a ∧ a ≤ 1024
def spSum1 : FSpec := mkSpec 62 (γ := Int × Int) (fun | [.int _ x, .int _ y] => some (x, y) | _ => none) (fun g => [.int .i64 g.1, .int .i64 g.2]) (fun _ => True) (fun _ => .int .i64 0)
def spZon1 : FSpec := mkSpec 63 (γ := (Pl × Int) × Int × Int) (fun | [.int _ x, .int _ y, .ref _ a, .ref _ g] => some ((plD g, intOf (a 0)), x, y) | _ => none) (fun g => [.int .i64 g.2.1, .int .i64 g.2.2, i1 g.1.2, .ref 3 (lst (plL g.1.1))])
  (fun g => clOK (.zones g.1.1 g.1.2) g.2.1 g.2.2) (fun g => .int .i64 (clI (.zones g.1.1 g.1.2) g.2.1 g.2.2))
def spTil1 : FSpec := mkSpec 64 (γ := (Int × Int × Int) × Int × Int) (fun | [.int _ x, .int _ y, .ref _ a, .ref _ b, .ref _ c] => some ((intOf (a 0), intOf (b 0), intOf (c 0)), x, y) | _ => none) (fun g => [.int .i64 g.2.1, .int .i64 g.2.2, i1 g.1.1, i1 g.1.2.1, i1 g.1.2.2])
  (fun g => clOK (.tiles g.1.1 g.1.2.1 g.1.2.2) g.2.1 g.2.2) (fun g => .int .i64 (clI (.tiles g.1.1 g.1.2.1 g.1.2.2) g.2.1 g.2.2))
theorem ok_sum1 : SpecOK Try.prog spSum1 := by
  refine spec_sound (specs := []) (all_ok trivial) (eqs := []) (fun _ _ h => (List.not_mem_nil h).elim) Aff.mixed Try.func62 rfl (by kernel_rfl) (fun _ _ => by kernel_rfl) (fun g => A0) (fun g => Nat.le_of_ble_eq_true (by kernel_rfl)) ?_
  rintro g _
  refine vc_of (B := True ∧ True ∧ True ∧ Sx.Ask (IntKind.i64 = IntKind.i64) ∧ Sx.Ask ((0 : Int) = (0 : Int))) (by kernel_rfl) ?_
  simp only [ask_iff, br_iff, eq_self, true_and, and_true, implies_true, forall_const, decide_eq_true_eq, decide_eq_false_iff_not, ne_eq, Nat.mul_one, Nat.add_zero, Nat.zero_add]
theorem ok_zon1 : SpecOK Try.prog spZon1 := by
  refine spec_sound (specs := []) (all_ok trivial) (eqs := []) (fun _ _ h => (List.not_mem_nil h).elim) Aff.mixed Try.func63 rfl (by kernel_rfl) (fun _ _ => by kernel_rfl) (fun g => A0) (fun g => Nat.le_of_ble_eq_true (by kernel_rfl)) ?_
  rintro ⟨⟨p, n⟩, x, y⟩ ⟨⟨x0, x1⟩, ⟨n1, n2⟩, w1, w2⟩
  simp only at *
  have b : 0 ≤ x * n := Int.mul_nonneg x0 (by omega)
  have b' : x * n ≤ 1024 * 64 := Int.mul_le_mul (by omega) n2 (by omega) (by omega)
  have t1 := Int.tdiv_eq_ediv_of_nonneg (b := p.w) b
  have d0 := Int.ediv_nonneg b (show 0 ≤ p.w by omega)
  have d1 := Int.ediv_le_self p.w b
  refine vc_of (B := True ∧ True ∧ True ∧ Sx.Ask ((-9223372036854775808 : Int) ≤ x * n ∧ x * n ≤ (9223372036854775807 : Int)) ∧ True ∧ True ∧ Sx.Ask (p.w ≠ (0 : Int) ∧ (-9223372036854775808 : Int) ≤ (x * n).tdiv p.w ∧ (x * n).tdiv p.w ≤ (9223372036854775807 : Int)) ∧ True ∧ True ∧ Sx.Ask (IntKind.i64 = IntKind.i64) ∧ Sx.Ask ((x * n).tdiv p.w = clI (Cl.zones p n) x y)) (by kernel_rfl) ?_
  simp only [ask_iff, br_iff, eq_self, true_and, and_true, implies_true, forall_const, decide_eq_true_eq, decide_eq_false_iff_not, ne_eq, Nat.mul_one, Nat.add_zero, Nat.zero_add]
  simp only [clI, t1]
  exact ⟨by omega, by omega, trivial⟩
theorem ok_til1 : SpecOK Try.prog spTil1 := by
  refine spec_sound (specs := []) (all_ok trivial) (eqs := []) (fun _ _ h => (List.not_mem_nil h).elim) Aff.mixed Try.func64 rfl (by kernel_rfl) (fun _ _ => by kernel_rfl) (fun g => A0) (fun g => Nat.le_of_ble_eq_true (by kernel_rfl)) ?_
  rintro ⟨⟨h, a, w⟩, x, y⟩ ⟨⟨⟨x0, x1⟩, y0, y1⟩, ⟨h1, h2⟩, ⟨w1, w2⟩, a0, a1⟩
  simp only at *
  have t1 := Int.tdiv_eq_ediv_of_nonneg (b := w) x0
  have t2 := Int.tdiv_eq_ediv_of_nonneg (b := h) y0
  have d0 := Int.ediv_nonneg x0 (show 0 ≤ w by omega)
  have d1 := Int.ediv_le_self w x0
  have d2 := Int.ediv_nonneg y0 (show 0 ≤ h by omega)
  have d3 := Int.ediv_le_self h y0
  have b : 0 ≤ y / h * a := Int.mul_nonneg d2 a0
  have b' : y / h * a ≤ 1024 * 1024 := Int.mul_le_mul (by omega) a1 (by omega) (by omega)
  refine vc_of (B := True ∧ True ∧ True ∧ Sx.Ask (h ≠ (0 : Int) ∧ (-9223372036854775808 : Int) ≤ y.tdiv h ∧ y.tdiv h ≤ (9223372036854775807 : Int)) ∧ True ∧ Sx.Ask ((-9223372036854775808 : Int) ≤ y.tdiv h * a ∧ y.tdiv h * a ≤ (9223372036854775807 : Int)) ∧ True ∧ True ∧ Sx.Ask (w ≠ (0 : Int) ∧ (-9223372036854775808 : Int) ≤ x.tdiv w ∧ x.tdiv w ≤ (9223372036854775807 : Int)) ∧ Sx.Ask ((-9223372036854775808 : Int) ≤ y.tdiv h * a + x.tdiv w ∧ y.tdiv h * a + x.tdiv w ≤ (9223372036854775807 : Int)) ∧ True ∧ True ∧ Sx.Ask (IntKind.i64 = IntKind.i64) ∧ Sx.Ask (y.tdiv h * a + x.tdiv w = clI (Cl.tiles h a w) x y)) (by kernel_rfl) ?_
  simp only [ask_iff, br_iff, eq_self, true_and, and_true, implies_true, forall_const, decide_eq_true_eq, decide_eq_false_iff_not, ne_eq, Nat.mul_one, Nat.add_zero, Nat.zero_add]
  simp only [clI, t1, t2]
  exact ⟨by omega, by omega, by omega, by omega, trivial⟩
/-! sums. -/
structure SuG where
  p : Pl
  n : Int
  c : Cl
def clD (F : Nat) (g : Nat → SV) : Option Cl :=
  if F = 62 then some .sum
  else if F = 63 then some (.zones (plD (refF (g 1))) (intOf (refF (g 0) 0)))
  else if F = 64 then some (.tiles (intOf (refF (g 0) 0)) (intOf (refF (g 1) 0)) (intOf (refF (g 2) 0)))
  else none
def SuG.cls (g : SuG) (i : Nat) : Int := clI g.c ((i : Int) % g.p.w) ((i : Int) / g.p.w)
def SuG.acc (g : SuG) : Nat → Nat → Int
  | 0, _ => 0
  | i + 1, k => g.acc i k + if g.cls i = k then g.p.px i else 0
def Pl.bytes (p : Pl) : Prop := ∀ i, i < p.n → 0 ≤ p.px i ∧ p.px i ≤ 255
def SuG.ok (g : SuG) : Prop := g.p.chk = 0 → (1 ≤ g.n ∧ g.n ≤ 2097152) ∧ g.p.bytes ∧ ∀ x y, 0 ≤ x → x < g.p.w → 0 ≤ y → y < g.p.h → clOK g.c x y ∧ 0 ≤ clI g.c x y ∧ clI g.c x y < g.n
def suInv (g : SuG) : Inv := ⟨Int, fun i => 0 ≤ i ∧ i ≤ g.p.n,
  fun i => ⟨[(1, .int .i64 g.n), (2, clS g.c), (3, .own 0 0), (9, .osl 1 0), (20, .sl g.p.n 1 (fun i _ => .int .u8 (g.p.px i))), (21, .int .i64 g.p.n), (22, .int .i64 i)],
    [.cells 3 (lst (plL g.p)) 41, .row 0 g.n.toNat 1 (fun k _ => .int .i64 (g.acc i.toNat k)) 3]⟩,
  fun i => (g.p.n - i).toNat⟩
def spSums : FSpec := mkSpec 61 (γ := SuG) (fun | [.agg _ p, .int _ n, .fn F _ g] => (clD F g).map fun c => ⟨plD p, n, c⟩ | _ => none) (fun g => [plS g.p, .int .i64 g.n, clS g.c]) SuG.ok
  (fun g => .tup 2 (lst [.sl (if g.p.chk = 0 then g.n.toNat else 0) 1 (fun k _ => .int .i64 (g.acc g.p.n k)), .int .i64 g.p.chk]))
theorem chk0 {p : Pl} (h : p.chk = 0) : ((1 ≤ p.w ∧ p.w ≤ 1024) ∧ 1 ≤ p.h ∧ p.h ≤ 1024) ∧ (p.n : Int) = p.w * p.h ∧ p.w * p.h ≤ 1048576 := by
  unfold Pl.chk at h
  by_cases h1 : p.w < 1 ∨ 1024 < p.w ∨ p.h < 1 ∨ 1024 < p.h
  · rw [if_pos h1] at h; omega
  rw [if_neg h1] at h
  by_cases h2 : (p.n : Int) = p.w * p.h
  · exact ⟨⟨by omega, by omega⟩, h2, Int.le_trans (Int.mul_le_mul (show p.w ≤ 1024 by omega) (show p.h ≤ 1024 by omega) (by omega) (by omega)) (by decide)⟩
  · rw [if_pos h2] at h; omega
theorem acc_in {g : SuG} (hb : g.p.bytes) (k : Nat) : ∀ i, i ≤ g.p.n → 0 ≤ g.acc i k ∧ g.acc i k ≤ 255 * i
  | 0, _ => by unfold SuG.acc; omega
  | i + 1, hi => by
    have h1 := acc_in hb k i (by omega)
    have h2 := hb i (by omega)
    unfold SuG.acc
    split <;> omega
theorem cell_rc {p : Pl} (h : p.chk = 0) {i : Nat} (hi : i < p.n) : (0 ≤ (i : Int) % p.w ∧ (i : Int) % p.w < p.w) ∧ 0 ≤ (i : Int) / p.w ∧ (i : Int) / p.w < p.h := by
  obtain ⟨⟨⟨w1, w2⟩, h1, h2⟩, hn, _⟩ := chk0 h
  exact ⟨⟨Int.emod_nonneg _ (by omega), Int.emod_lt_of_pos _ (by omega)⟩, Int.ediv_nonneg (by omega) (by omega), Int.ediv_lt_of_lt_mul (by omega) (by rw [Int.mul_comm]; omega)⟩
theorem acc_step {g : SuG} {i : Int} (hi : 0 ≤ i) {K : Nat} (hK : g.cls i.toNat = K) (k : Nat) :
    (bif decide (k = K ∧ 0 ≤ 0 ∧ 0 < 1) then g.acc i.toNat K + g.p.px i.toNat else g.acc i.toNat k) = g.acc (i + 1).toNat k := by
  have e : (i + 1).toNat = i.toNat + 1 := by omega
  rw [e]
  show _ = g.acc i.toNat k + if g.cls i.toNat = k then g.p.px i.toNat else 0
  rw [hK]
  by_cases h : k = K
  · subst h
    rw [decide_eq_true ⟨rfl, by decide, by decide⟩, if_pos rfl]
    rfl
  · rw [decide_eq_false (fun hc => h hc.1), if_neg (by omega), Int.add_zero]
    rfl
theorem ok_sums : SpecOK Try.prog spSums := by
  refine spec_sound (specs := [spCheckP, spSum1, spZon1, spTil1]) (all_ok (⟨ok_checkP, ok_sum1, ok_zon1, ok_til1, trivial⟩)) (eqs := []) (fun _ _ h => (List.not_mem_nil h).elim) Aff.mixed Try.func61 rfl (by kernel_rfl) (fun _ _ => by kernel_rfl) (fun g => (⟨[(6, .inv (suInv g))], []⟩ : Ann)) (fun g => Nat.le_of_ble_eq_true (by kernel_rfl)) ?_
  rintro ⟨p, n, c⟩ hg
  cases c with
  | sum =>
    refine vc_of (B := True ∧ True ∧ True ∧ True ∧ (((((True ∧ Sx.Ask (IntKind.i64 = IntKind.i64) ∧ Sx.Ask (p.w = p.w)) ∧ Sx.Ask (IntKind.i64 = IntKind.i64) ∧ Sx.Ask (p.h = p.h)) ∧ Sx.Ask (p.n = p.n) ∧ ∀ (i : Nat), i < p.n → True ∧ Sx.Ask (IntKind.u8 = IntKind.u8) ∧ Sx.Ask (p.px i = p.px i)) ∧ True) ∧ Sx.Ask True) ∧ True ∧ True ∧ True ∧ Sx.Br (decide (p.chk ≠ (0 : Int))) (True ∧ True ∧ True ∧ True ∧ (True ∧ Sx.Ask ((if p.chk = (0 : Int) then n.toNat else (0 : Nat)) = (0 : Nat))) ∧ Sx.Ask (IntKind.i64 = IntKind.i64) ∧ Sx.Ask (p.chk = p.chk)) (True ∧ Sx.Ask ((0 : Int) ≤ n ∧ n ≤ n ∧ (↑(8 : Nat) : Int) * n ≤ (140737488355328 : Int) ∧ n ≤ (9223372036854775807 : Int)) ∧ True ∧ True ∧ True ∧ True ∧ True ∧ (∃ (g : Int), Sx.Ask ((suInv (SuG.mk p n Cl.sum)).pre g) ∧ ((Sx.Ask (IntKind.i64 = IntKind.i64) ∧ Sx.Ask (n = n)) ∧ (Sx.Ask ((62 : Go.FuncId) = (62 : Go.FuncId)) ∧ True) ∧ Sx.Ask ((0 : Nat) = (0 : Nat)) ∧ True ∧ (Sx.Ask (p.n = p.n) ∧ ∀ (i : Nat), i < p.n → True ∧ Sx.Ask (IntKind.u8 = IntKind.u8) ∧ Sx.Ask (p.px i = p.px i)) ∧ (Sx.Ask (IntKind.i64 = IntKind.i64) ∧ Sx.Ask ((↑p.n : Int) = (↑p.n : Int))) ∧ (Sx.Ask (IntKind.i64 = IntKind.i64) ∧ Sx.Ask ((0 : Int) = g)) ∧ True) ∧ (((True ∧ Sx.Ask (IntKind.i64 = IntKind.i64) ∧ Sx.Ask (p.w = p.w)) ∧ Sx.Ask (IntKind.i64 = IntKind.i64) ∧ Sx.Ask (p.h = p.h)) ∧ Sx.Ask (p.n = p.n) ∧ ∀ (i : Nat), i < p.n → True ∧ Sx.Ask (IntKind.u8 = IntKind.u8) ∧ Sx.Ask (p.px i = p.px i)) ∧ (Sx.Ask (n.toNat = n.toNat) ∧ ∀ (i : Nat), i < n.toNat → True ∧ Sx.Ask (IntKind.i64 = IntKind.i64) ∧ Sx.Ask ((0 : Int) = (SuG.mk p n Cl.sum).acc g.toNat i)) ∧ True) ∧ ∀ (g : Int), (suInv (SuG.mk p n Cl.sum)).pre g → True ∧ Sx.Br (decide (g < (↑p.n : Int))) (True ∧ Sx.Ask ((0 : Int) ≤ g ∧ g < (↑p.n : Int)) ∧ True ∧ True ∧ True ∧ True ∧ True ∧ True ∧ True ∧ True ∧ Sx.Ask (p.w ≠ (0 : Int)) ∧ True ∧ True ∧ True ∧ Sx.Ask (p.w ≠ (0 : Int) ∧ (-9223372036854775808 : Int) ≤ g.tdiv p.w ∧ g.tdiv p.w ≤ (9223372036854775807 : Int)) ∧ (((Sx.Ask (IntKind.i64 = IntKind.i64) ∧ Sx.Ask (g.tmod p.w = g.tmod p.w)) ∧ (Sx.Ask (IntKind.i64 = IntKind.i64) ∧ Sx.Ask (g.tdiv p.w = g.tdiv p.w)) ∧ True) ∧ Sx.Ask True) ∧ Sx.Ask ((0 : Int) ≤ (0 : Int) ∧ (0 : Int) < (↑n.toNat : Int)) ∧ Sx.Ask (Int.toNat (0 : Int) < n.toNat) ∧ True ∧ Sx.Ask ((-9223372036854775808 : Int) ≤ p.px g.toNat ∧ p.px g.toNat ≤ (9223372036854775807 : Int)) ∧ Sx.Ask ((-9223372036854775808 : Int) ≤ (SuG.mk p n Cl.sum).acc g.toNat (Int.toNat (0 : Int)) + p.px g.toNat ∧ (SuG.mk p n Cl.sum).acc g.toNat (Int.toNat (0 : Int)) + p.px g.toNat ≤ (9223372036854775807 : Int)) ∧ Sx.Ask ((0 : Int) ≤ (0 : Int) ∧ (0 : Int) < (↑n.toNat : Int)) ∧ Sx.Ask (Int.toNat (0 : Int) < n.toNat) ∧ Sx.Ask ((-9223372036854775808 : Int) ≤ g + (1 : Int) ∧ g + (1 : Int) ≤ (9223372036854775807 : Int)) ∧ True ∧ ∃ (g' : Int), Sx.Ask ((suInv (SuG.mk p n Cl.sum)).pre g') ∧ (((Sx.Ask (IntKind.i64 = IntKind.i64) ∧ Sx.Ask (n = n)) ∧ (Sx.Ask ((62 : Go.FuncId) = (62 : Go.FuncId)) ∧ True) ∧ Sx.Ask ((0 : Nat) = (0 : Nat)) ∧ True ∧ (Sx.Ask (p.n = p.n) ∧ ∀ (i : Nat), i < p.n → True ∧ Sx.Ask (IntKind.u8 = IntKind.u8) ∧ Sx.Ask (p.px i = p.px i)) ∧ (Sx.Ask (IntKind.i64 = IntKind.i64) ∧ Sx.Ask ((↑p.n : Int) = (↑p.n : Int))) ∧ (Sx.Ask (IntKind.i64 = IntKind.i64) ∧ Sx.Ask (g + (1 : Int) = g')) ∧ True) ∧ (((True ∧ Sx.Ask (IntKind.i64 = IntKind.i64) ∧ Sx.Ask (p.w = p.w)) ∧ Sx.Ask (IntKind.i64 = IntKind.i64) ∧ Sx.Ask (p.h = p.h)) ∧ Sx.Ask (p.n = p.n) ∧ ∀ (i : Nat), i < p.n → True ∧ Sx.Ask (IntKind.u8 = IntKind.u8) ∧ Sx.Ask (p.px i = p.px i)) ∧ (Sx.Ask (n.toNat = n.toNat) ∧ ∀ (i : Nat), i < n.toNat → True ∧ Sx.Ask (IntKind.i64 = IntKind.i64) ∧ Sx.Ask ((bif decide (i = Int.toNat (0 : Int) ∧ (0 : Nat) ≤ (0 : Nat) ∧ (0 : Nat) < (0 : Nat) + (1 : Nat)) then (SuG.mk p n Cl.sum).acc g.toNat (Int.toNat (0 : Int)) + p.px g.toNat else (SuG.mk p n Cl.sum).acc g.toNat i) = (SuG.mk p n Cl.sum).acc g'.toNat i)) ∧ True) ∧ Sx.Ask ((suInv (SuG.mk p n Cl.sum)).meas g' < (suInv (SuG.mk p n Cl.sum)).meas g)) (True ∧ True ∧ True ∧ True ∧ (True ∧ Sx.Ask (n.toNat = if p.chk = (0 : Int) then n.toNat else (0 : Nat)) ∧ ∀ (i : Nat), (i < if p.chk = (0 : Int) then n.toNat else (0 : Nat)) → True ∧ Sx.Ask (IntKind.i64 = IntKind.i64) ∧ Sx.Ask ((SuG.mk p n Cl.sum).acc g.toNat i = (SuG.mk p n Cl.sum).acc p.n i)) ∧ Sx.Ask (IntKind.i64 = IntKind.i64) ∧ Sx.Ask ((0 : Int) = p.chk)))) (by kernel_rfl) ?_
    simp only [ask_iff, br_iff, eq_self, true_and, and_true, implies_true, forall_const, decide_eq_true_eq, decide_eq_false_iff_not, ne_eq, Nat.mul_one, Nat.add_zero, Nat.zero_add]
    by_cases h0 : p.chk = 0
    · obtain ⟨⟨n1, n2⟩, hb, hx⟩ := hg h0
      obtain ⟨⟨⟨w1, w2⟩, h1, h2⟩, hn, hm⟩ := chk0 h0
      simp only at n1 n2
      refine ⟨fun h => absurd h0 h, fun _ => ⟨⟨by omega, by omega, by omega, by omega⟩, ⟨(0 : Int), ⟨Int.le_refl 0, Int.natCast_nonneg _⟩, rfl, fun i _ => rfl⟩, fun i hi => ?_⟩⟩
      have hi' : 0 ≤ i ∧ i ≤ p.n := hi
      refine ⟨fun hlt => ?_, fun hge => ⟨⟨by rw [if_pos h0], fun k _ => by rw [show i.toNat = p.n by omega]⟩, h0.symm⟩⟩
      have e1 := Int.tmod_eq_emod_of_nonneg (b := p.w) hi'.1
      have e2 := Int.tdiv_eq_ediv_of_nonneg (b := p.w) hi'.1
      have hit : ((i.toNat : Nat) : Int) = i := Int.toNat_of_nonneg hi'.1
      have rc := cell_rc h0 (i := i.toNat) (by omega)
      rw [hit] at rc
      obtain ⟨⟨rc1, rc2⟩, rc3, rc4⟩ := rc
      obtain ⟨hk1, hk2, hk3⟩ := hx (i % p.w) (i / p.w) rc1 rc2 rc3 rc4
      have hKn : clI Cl.sum (i % p.w) (i / p.w) < (n.toNat : Int) := by
        rw [Int.toNat_of_nonneg (by omega)]; exact hk3
      have hKt : (clI Cl.sum (i % p.w) (i / p.w)).toNat < n.toNat := by
        have : clI Cl.sum (i % p.w) (i / p.w) < n := hk3
        omega
      have hcls : SuG.cls ⟨p, n, Cl.sum⟩ i.toNat = ((clI Cl.sum (i % p.w) (i / p.w)).toNat : Nat) := by
        show clI Cl.sum ((i.toNat : Int) % p.w) ((i.toNat : Int) / p.w) = _
        rw [hit, Int.toNat_of_nonneg hk2]
      have hpx := hb i.toNat (show i.toNat < p.n by omega)
      have ha := acc_in (g := ⟨p, n, Cl.sum⟩) hb (clI Cl.sum (i % p.w) (i / p.w)).toNat i.toNat (show i.toNat ≤ p.n by omega)
      simp only at hpx ha
      have hd := Int.ediv_le_self p.w hi'.1
      rw [e2]
      skip
      have hA : -9223372036854775808 ≤ SuG.acc ⟨p, n, Cl.sum⟩ i.toNat (clI Cl.sum (i % p.w) (i / p.w)).toNat + p.px i.toNat ∧ SuG.acc ⟨p, n, Cl.sum⟩ i.toNat (clI Cl.sum (i % p.w) (i / p.w)).toNat + p.px i.toNat ≤ 9223372036854775807 := by omega
      exact ⟨⟨hi'.1, hlt⟩, by omega, ⟨by omega, by omega, by omega⟩, ⟨hk2, hKn⟩, hKt, by omega, hA, ⟨hk2, hKn⟩, hKt, by omega, (i + 1 : Int), ⟨show 0 ≤ i + 1 by omega, show i + 1 ≤ (p.n : Int) by omega⟩, ⟨rfl, fun k _ => acc_step hi'.1 hcls k⟩, show (p.n - (i + 1)).toNat < (p.n - i).toNat by omega⟩
    · exact ⟨fun _ => if_neg h0, fun h => absurd h0 h⟩
  | zones q m =>
    refine vc_of (B := True ∧ True ∧ True ∧ True ∧ (((((True ∧ Sx.Ask (IntKind.i64 = IntKind.i64) ∧ Sx.Ask (p.w = p.w)) ∧ Sx.Ask (IntKind.i64 = IntKind.i64) ∧ Sx.Ask (p.h = p.h)) ∧ Sx.Ask (p.n = p.n) ∧ ∀ (i : Nat), i < p.n → True ∧ Sx.Ask (IntKind.u8 = IntKind.u8) ∧ Sx.Ask (p.px i = p.px i)) ∧ True) ∧ Sx.Ask True) ∧ True ∧ True ∧ True ∧ Sx.Br (decide (p.chk ≠ (0 : Int))) (True ∧ True ∧ True ∧ True ∧ (True ∧ Sx.Ask ((if p.chk = (0 : Int) then n.toNat else (0 : Nat)) = (0 : Nat))) ∧ Sx.Ask (IntKind.i64 = IntKind.i64) ∧ Sx.Ask (p.chk = p.chk)) (True ∧ Sx.Ask ((0 : Int) ≤ n ∧ n ≤ n ∧ (↑(8 : Nat) : Int) * n ≤ (140737488355328 : Int) ∧ n ≤ (9223372036854775807 : Int)) ∧ True ∧ True ∧ True ∧ True ∧ True ∧ (∃ (g : Int), Sx.Ask ((suInv (SuG.mk p n (Cl.zones q m))).pre g) ∧ ((Sx.Ask (IntKind.i64 = IntKind.i64) ∧ Sx.Ask (n = n)) ∧ (Sx.Ask ((63 : Go.FuncId) = (63 : Go.FuncId)) ∧ (True ∧ True ∧ Sx.Ask (IntKind.i64 = IntKind.i64) ∧ Sx.Ask (m = m)) ∧ ((True ∧ Sx.Ask (IntKind.i64 = IntKind.i64) ∧ Sx.Ask (q.w = q.w)) ∧ Sx.Ask (IntKind.i64 = IntKind.i64) ∧ Sx.Ask (q.h = q.h)) ∧ Sx.Ask (q.n = q.n) ∧ ∀ (i : Nat), i < q.n → True ∧ Sx.Ask (IntKind.u8 = IntKind.u8) ∧ Sx.Ask (q.px i = q.px i)) ∧ Sx.Ask ((0 : Nat) = (0 : Nat)) ∧ True ∧ (Sx.Ask (p.n = p.n) ∧ ∀ (i : Nat), i < p.n → True ∧ Sx.Ask (IntKind.u8 = IntKind.u8) ∧ Sx.Ask (p.px i = p.px i)) ∧ (Sx.Ask (IntKind.i64 = IntKind.i64) ∧ Sx.Ask ((↑p.n : Int) = (↑p.n : Int))) ∧ (Sx.Ask (IntKind.i64 = IntKind.i64) ∧ Sx.Ask ((0 : Int) = g)) ∧ True) ∧ (((True ∧ Sx.Ask (IntKind.i64 = IntKind.i64) ∧ Sx.Ask (p.w = p.w)) ∧ Sx.Ask (IntKind.i64 = IntKind.i64) ∧ Sx.Ask (p.h = p.h)) ∧ Sx.Ask (p.n = p.n) ∧ ∀ (i : Nat), i < p.n → True ∧ Sx.Ask (IntKind.u8 = IntKind.u8) ∧ Sx.Ask (p.px i = p.px i)) ∧ (Sx.Ask (n.toNat = n.toNat) ∧ ∀ (i : Nat), i < n.toNat → True ∧ Sx.Ask (IntKind.i64 = IntKind.i64) ∧ Sx.Ask ((0 : Int) = (SuG.mk p n (Cl.zones q m)).acc g.toNat i)) ∧ True) ∧ ∀ (g : Int), (suInv (SuG.mk p n (Cl.zones q m))).pre g → True ∧ Sx.Br (decide (g < (↑p.n : Int))) (True ∧ Sx.Ask ((0 : Int) ≤ g ∧ g < (↑p.n : Int)) ∧ True ∧ True ∧ True ∧ True ∧ True ∧ True ∧ True ∧ True ∧ Sx.Ask (p.w ≠ (0 : Int)) ∧ True ∧ True ∧ True ∧ Sx.Ask (p.w ≠ (0 : Int) ∧ (-9223372036854775808 : Int) ≤ g.tdiv p.w ∧ g.tdiv p.w ≤ (9223372036854775807 : Int)) ∧ (((Sx.Ask (IntKind.i64 = IntKind.i64) ∧ Sx.Ask (g.tmod p.w = g.tmod p.w)) ∧ (Sx.Ask (IntKind.i64 = IntKind.i64) ∧ Sx.Ask (g.tdiv p.w = g.tdiv p.w)) ∧ (True ∧ Sx.Ask (IntKind.i64 = IntKind.i64) ∧ Sx.Ask (m = m)) ∧ (((True ∧ Sx.Ask (IntKind.i64 = IntKind.i64) ∧ Sx.Ask (q.w = q.w)) ∧ Sx.Ask (IntKind.i64 = IntKind.i64) ∧ Sx.Ask (q.h = q.h)) ∧ Sx.Ask (q.n = q.n) ∧ ∀ (i : Nat), i < q.n → True ∧ Sx.Ask (IntKind.u8 = IntKind.u8) ∧ Sx.Ask (q.px i = q.px i)) ∧ True) ∧ Sx.Ask (clOK (Cl.zones q m) (g.tmod p.w) (g.tdiv p.w))) ∧ Sx.Ask ((0 : Int) ≤ clI (Cl.zones q m) (g.tmod p.w) (g.tdiv p.w) ∧ clI (Cl.zones q m) (g.tmod p.w) (g.tdiv p.w) < (↑n.toNat : Int)) ∧ Sx.Ask ((clI (Cl.zones q m) (g.tmod p.w) (g.tdiv p.w)).toNat < n.toNat) ∧ True ∧ Sx.Ask ((-9223372036854775808 : Int) ≤ p.px g.toNat ∧ p.px g.toNat ≤ (9223372036854775807 : Int)) ∧ Sx.Ask ((-9223372036854775808 : Int) ≤ (SuG.mk p n (Cl.zones q m)).acc g.toNat (clI (Cl.zones q m) (g.tmod p.w) (g.tdiv p.w)).toNat + p.px g.toNat ∧ (SuG.mk p n (Cl.zones q m)).acc g.toNat (clI (Cl.zones q m) (g.tmod p.w) (g.tdiv p.w)).toNat + p.px g.toNat ≤ (9223372036854775807 : Int)) ∧ Sx.Ask ((0 : Int) ≤ clI (Cl.zones q m) (g.tmod p.w) (g.tdiv p.w) ∧ clI (Cl.zones q m) (g.tmod p.w) (g.tdiv p.w) < (↑n.toNat : Int)) ∧ Sx.Ask ((clI (Cl.zones q m) (g.tmod p.w) (g.tdiv p.w)).toNat < n.toNat) ∧ Sx.Ask ((-9223372036854775808 : Int) ≤ g + (1 : Int) ∧ g + (1 : Int) ≤ (9223372036854775807 : Int)) ∧ True ∧ ∃ (g' : Int), Sx.Ask ((suInv (SuG.mk p n (Cl.zones q m))).pre g') ∧ (((Sx.Ask (IntKind.i64 = IntKind.i64) ∧ Sx.Ask (n = n)) ∧ (Sx.Ask ((63 : Go.FuncId) = (63 : Go.FuncId)) ∧ (True ∧ True ∧ Sx.Ask (IntKind.i64 = IntKind.i64) ∧ Sx.Ask (m = m)) ∧ ((True ∧ Sx.Ask (IntKind.i64 = IntKind.i64) ∧ Sx.Ask (q.w = q.w)) ∧ Sx.Ask (IntKind.i64 = IntKind.i64) ∧ Sx.Ask (q.h = q.h)) ∧ Sx.Ask (q.n = q.n) ∧ ∀ (i : Nat), i < q.n → True ∧ Sx.Ask (IntKind.u8 = IntKind.u8) ∧ Sx.Ask (q.px i = q.px i)) ∧ Sx.Ask ((0 : Nat) = (0 : Nat)) ∧ True ∧ (Sx.Ask (p.n = p.n) ∧ ∀ (i : Nat), i < p.n → True ∧ Sx.Ask (IntKind.u8 = IntKind.u8) ∧ Sx.Ask (p.px i = p.px i)) ∧ (Sx.Ask (IntKind.i64 = IntKind.i64) ∧ Sx.Ask ((↑p.n : Int) = (↑p.n : Int))) ∧ (Sx.Ask (IntKind.i64 = IntKind.i64) ∧ Sx.Ask (g + (1 : Int) = g')) ∧ True) ∧ (((True ∧ Sx.Ask (IntKind.i64 = IntKind.i64) ∧ Sx.Ask (p.w = p.w)) ∧ Sx.Ask (IntKind.i64 = IntKind.i64) ∧ Sx.Ask (p.h = p.h)) ∧ Sx.Ask (p.n = p.n) ∧ ∀ (i : Nat), i < p.n → True ∧ Sx.Ask (IntKind.u8 = IntKind.u8) ∧ Sx.Ask (p.px i = p.px i)) ∧ (Sx.Ask (n.toNat = n.toNat) ∧ ∀ (i : Nat), i < n.toNat → True ∧ Sx.Ask (IntKind.i64 = IntKind.i64) ∧ Sx.Ask ((bif decide (i = (clI (Cl.zones q m) (g.tmod p.w) (g.tdiv p.w)).toNat ∧ (0 : Nat) ≤ (0 : Nat) ∧ (0 : Nat) < (0 : Nat) + (1 : Nat)) then (SuG.mk p n (Cl.zones q m)).acc g.toNat (clI (Cl.zones q m) (g.tmod p.w) (g.tdiv p.w)).toNat + p.px g.toNat else (SuG.mk p n (Cl.zones q m)).acc g.toNat i) = (SuG.mk p n (Cl.zones q m)).acc g'.toNat i)) ∧ True) ∧ Sx.Ask ((suInv (SuG.mk p n (Cl.zones q m))).meas g' < (suInv (SuG.mk p n (Cl.zones q m))).meas g)) (True ∧ True ∧ True ∧ True ∧ (True ∧ Sx.Ask (n.toNat = if p.chk = (0 : Int) then n.toNat else (0 : Nat)) ∧ ∀ (i : Nat), (i < if p.chk = (0 : Int) then n.toNat else (0 : Nat)) → True ∧ Sx.Ask (IntKind.i64 = IntKind.i64) ∧ Sx.Ask ((SuG.mk p n (Cl.zones q m)).acc g.toNat i = (SuG.mk p n (Cl.zones q m)).acc p.n i)) ∧ Sx.Ask (IntKind.i64 = IntKind.i64) ∧ Sx.Ask ((0 : Int) = p.chk)))) (by kernel_rfl) ?_
    simp only [ask_iff, br_iff, eq_self, true_and, and_true, implies_true, forall_const, decide_eq_true_eq, decide_eq_false_iff_not, ne_eq, Nat.mul_one, Nat.add_zero, Nat.zero_add]
    by_cases h0 : p.chk = 0
    · obtain ⟨⟨n1, n2⟩, hb, hx⟩ := hg h0
      obtain ⟨⟨⟨w1, w2⟩, h1, h2⟩, hn, hm⟩ := chk0 h0
      simp only at n1 n2
      refine ⟨fun h => absurd h0 h, fun _ => ⟨⟨by omega, by omega, by omega, by omega⟩, ⟨(0 : Int), ⟨Int.le_refl 0, Int.natCast_nonneg _⟩, rfl, fun i _ => rfl⟩, fun i hi => ?_⟩⟩
      have hi' : 0 ≤ i ∧ i ≤ p.n := hi
      refine ⟨fun hlt => ?_, fun hge => ⟨⟨by rw [if_pos h0], fun k _ => by rw [show i.toNat = p.n by omega]⟩, h0.symm⟩⟩
      have e1 := Int.tmod_eq_emod_of_nonneg (b := p.w) hi'.1
      have e2 := Int.tdiv_eq_ediv_of_nonneg (b := p.w) hi'.1
      have hit : ((i.toNat : Nat) : Int) = i := Int.toNat_of_nonneg hi'.1
      have rc := cell_rc h0 (i := i.toNat) (by omega)
      rw [hit] at rc
      obtain ⟨⟨rc1, rc2⟩, rc3, rc4⟩ := rc
      obtain ⟨hk1, hk2, hk3⟩ := hx (i % p.w) (i / p.w) rc1 rc2 rc3 rc4
      have hKn : clI (Cl.zones q m) (i % p.w) (i / p.w) < (n.toNat : Int) := by
        rw [Int.toNat_of_nonneg (by omega)]; exact hk3
      have hKt : (clI (Cl.zones q m) (i % p.w) (i / p.w)).toNat < n.toNat := by
        have : clI (Cl.zones q m) (i % p.w) (i / p.w) < n := hk3
        omega
      have hcls : SuG.cls ⟨p, n, (Cl.zones q m)⟩ i.toNat = ((clI (Cl.zones q m) (i % p.w) (i / p.w)).toNat : Nat) := by
        show clI (Cl.zones q m) ((i.toNat : Int) % p.w) ((i.toNat : Int) / p.w) = _
        rw [hit, Int.toNat_of_nonneg hk2]
      have hpx := hb i.toNat (show i.toNat < p.n by omega)
      have ha := acc_in (g := ⟨p, n, (Cl.zones q m)⟩) hb (clI (Cl.zones q m) (i % p.w) (i / p.w)).toNat i.toNat (show i.toNat ≤ p.n by omega)
      simp only at hpx ha
      have hd := Int.ediv_le_self p.w hi'.1
      rw [e2]
      rw [e1]
      have hA : -9223372036854775808 ≤ SuG.acc ⟨p, n, (Cl.zones q m)⟩ i.toNat (clI (Cl.zones q m) (i % p.w) (i / p.w)).toNat + p.px i.toNat ∧ SuG.acc ⟨p, n, (Cl.zones q m)⟩ i.toNat (clI (Cl.zones q m) (i % p.w) (i / p.w)).toNat + p.px i.toNat ≤ 9223372036854775807 := by omega
      exact ⟨⟨hi'.1, hlt⟩, by omega, ⟨by omega, by omega, by omega⟩, hk1,⟨hk2, hKn⟩, hKt, by omega, hA, ⟨hk2, hKn⟩, hKt, by omega, (i + 1 : Int), ⟨show 0 ≤ i + 1 by omega, show i + 1 ≤ (p.n : Int) by omega⟩, ⟨rfl, fun k _ => acc_step hi'.1 hcls k⟩, show (p.n - (i + 1)).toNat < (p.n - i).toNat by omega⟩
    · exact ⟨fun _ => if_neg h0, fun h => absurd h0 h⟩
  | tiles h a w =>
    refine vc_of (B := True ∧ True ∧ True ∧ True ∧ (((((True ∧ Sx.Ask (IntKind.i64 = IntKind.i64) ∧ Sx.Ask (p.w = p.w)) ∧ Sx.Ask (IntKind.i64 = IntKind.i64) ∧ Sx.Ask (p.h = p.h)) ∧ Sx.Ask (p.n = p.n) ∧ ∀ (i : Nat), i < p.n → True ∧ Sx.Ask (IntKind.u8 = IntKind.u8) ∧ Sx.Ask (p.px i = p.px i)) ∧ True) ∧ Sx.Ask True) ∧ True ∧ True ∧ True ∧ Sx.Br (decide (p.chk ≠ (0 : Int))) (True ∧ True ∧ True ∧ True ∧ (True ∧ Sx.Ask ((if p.chk = (0 : Int) then n.toNat else (0 : Nat)) = (0 : Nat))) ∧ Sx.Ask (IntKind.i64 = IntKind.i64) ∧ Sx.Ask (p.chk = p.chk)) (True ∧ Sx.Ask ((0 : Int) ≤ n ∧ n ≤ n ∧ (↑(8 : Nat) : Int) * n ≤ (140737488355328 : Int) ∧ n ≤ (9223372036854775807 : Int)) ∧ True ∧ True ∧ True ∧ True ∧ True ∧ (∃ (g : Int), Sx.Ask ((suInv (SuG.mk p n (Cl.tiles h a w))).pre g) ∧ ((Sx.Ask (IntKind.i64 = IntKind.i64) ∧ Sx.Ask (n = n)) ∧ (Sx.Ask ((64 : Go.FuncId) = (64 : Go.FuncId)) ∧ ((True ∧ True ∧ Sx.Ask (IntKind.i64 = IntKind.i64) ∧ Sx.Ask (h = h)) ∧ True ∧ Sx.Ask (IntKind.i64 = IntKind.i64) ∧ Sx.Ask (a = a)) ∧ True ∧ Sx.Ask (IntKind.i64 = IntKind.i64) ∧ Sx.Ask (w = w)) ∧ Sx.Ask ((0 : Nat) = (0 : Nat)) ∧ True ∧ (Sx.Ask (p.n = p.n) ∧ ∀ (i : Nat), i < p.n → True ∧ Sx.Ask (IntKind.u8 = IntKind.u8) ∧ Sx.Ask (p.px i = p.px i)) ∧ (Sx.Ask (IntKind.i64 = IntKind.i64) ∧ Sx.Ask ((↑p.n : Int) = (↑p.n : Int))) ∧ (Sx.Ask (IntKind.i64 = IntKind.i64) ∧ Sx.Ask ((0 : Int) = g)) ∧ True) ∧ (((True ∧ Sx.Ask (IntKind.i64 = IntKind.i64) ∧ Sx.Ask (p.w = p.w)) ∧ Sx.Ask (IntKind.i64 = IntKind.i64) ∧ Sx.Ask (p.h = p.h)) ∧ Sx.Ask (p.n = p.n) ∧ ∀ (i : Nat), i < p.n → True ∧ Sx.Ask (IntKind.u8 = IntKind.u8) ∧ Sx.Ask (p.px i = p.px i)) ∧ (Sx.Ask (n.toNat = n.toNat) ∧ ∀ (i : Nat), i < n.toNat → True ∧ Sx.Ask (IntKind.i64 = IntKind.i64) ∧ Sx.Ask ((0 : Int) = (SuG.mk p n (Cl.tiles h a w)).acc g.toNat i)) ∧ True) ∧ ∀ (g : Int), (suInv (SuG.mk p n (Cl.tiles h a w))).pre g → True ∧ Sx.Br (decide (g < (↑p.n : Int))) (True ∧ Sx.Ask ((0 : Int) ≤ g ∧ g < (↑p.n : Int)) ∧ True ∧ True ∧ True ∧ True ∧ True ∧ True ∧ True ∧ True ∧ Sx.Ask (p.w ≠ (0 : Int)) ∧ True ∧ True ∧ True ∧ Sx.Ask (p.w ≠ (0 : Int) ∧ (-9223372036854775808 : Int) ≤ g.tdiv p.w ∧ g.tdiv p.w ≤ (9223372036854775807 : Int)) ∧ (((Sx.Ask (IntKind.i64 = IntKind.i64) ∧ Sx.Ask (g.tmod p.w = g.tmod p.w)) ∧ (Sx.Ask (IntKind.i64 = IntKind.i64) ∧ Sx.Ask (g.tdiv p.w = g.tdiv p.w)) ∧ (True ∧ Sx.Ask (IntKind.i64 = IntKind.i64) ∧ Sx.Ask (h = h)) ∧ (True ∧ Sx.Ask (IntKind.i64 = IntKind.i64) ∧ Sx.Ask (a = a)) ∧ (True ∧ Sx.Ask (IntKind.i64 = IntKind.i64) ∧ Sx.Ask (w = w)) ∧ True) ∧ Sx.Ask (clOK (Cl.tiles h a w) (g.tmod p.w) (g.tdiv p.w))) ∧ Sx.Ask ((0 : Int) ≤ clI (Cl.tiles h a w) (g.tmod p.w) (g.tdiv p.w) ∧ clI (Cl.tiles h a w) (g.tmod p.w) (g.tdiv p.w) < (↑n.toNat : Int)) ∧ Sx.Ask ((clI (Cl.tiles h a w) (g.tmod p.w) (g.tdiv p.w)).toNat < n.toNat) ∧ True ∧ Sx.Ask ((-9223372036854775808 : Int) ≤ p.px g.toNat ∧ p.px g.toNat ≤ (9223372036854775807 : Int)) ∧ Sx.Ask ((-9223372036854775808 : Int) ≤ (SuG.mk p n (Cl.tiles h a w)).acc g.toNat (clI (Cl.tiles h a w) (g.tmod p.w) (g.tdiv p.w)).toNat + p.px g.toNat ∧ (SuG.mk p n (Cl.tiles h a w)).acc g.toNat (clI (Cl.tiles h a w) (g.tmod p.w) (g.tdiv p.w)).toNat + p.px g.toNat ≤ (9223372036854775807 : Int)) ∧ Sx.Ask ((0 : Int) ≤ clI (Cl.tiles h a w) (g.tmod p.w) (g.tdiv p.w) ∧ clI (Cl.tiles h a w) (g.tmod p.w) (g.tdiv p.w) < (↑n.toNat : Int)) ∧ Sx.Ask ((clI (Cl.tiles h a w) (g.tmod p.w) (g.tdiv p.w)).toNat < n.toNat) ∧ Sx.Ask ((-9223372036854775808 : Int) ≤ g + (1 : Int) ∧ g + (1 : Int) ≤ (9223372036854775807 : Int)) ∧ True ∧ ∃ (g' : Int), Sx.Ask ((suInv (SuG.mk p n (Cl.tiles h a w))).pre g') ∧ (((Sx.Ask (IntKind.i64 = IntKind.i64) ∧ Sx.Ask (n = n)) ∧ (Sx.Ask ((64 : Go.FuncId) = (64 : Go.FuncId)) ∧ ((True ∧ True ∧ Sx.Ask (IntKind.i64 = IntKind.i64) ∧ Sx.Ask (h = h)) ∧ True ∧ Sx.Ask (IntKind.i64 = IntKind.i64) ∧ Sx.Ask (a = a)) ∧ True ∧ Sx.Ask (IntKind.i64 = IntKind.i64) ∧ Sx.Ask (w = w)) ∧ Sx.Ask ((0 : Nat) = (0 : Nat)) ∧ True ∧ (Sx.Ask (p.n = p.n) ∧ ∀ (i : Nat), i < p.n → True ∧ Sx.Ask (IntKind.u8 = IntKind.u8) ∧ Sx.Ask (p.px i = p.px i)) ∧ (Sx.Ask (IntKind.i64 = IntKind.i64) ∧ Sx.Ask ((↑p.n : Int) = (↑p.n : Int))) ∧ (Sx.Ask (IntKind.i64 = IntKind.i64) ∧ Sx.Ask (g + (1 : Int) = g')) ∧ True) ∧ (((True ∧ Sx.Ask (IntKind.i64 = IntKind.i64) ∧ Sx.Ask (p.w = p.w)) ∧ Sx.Ask (IntKind.i64 = IntKind.i64) ∧ Sx.Ask (p.h = p.h)) ∧ Sx.Ask (p.n = p.n) ∧ ∀ (i : Nat), i < p.n → True ∧ Sx.Ask (IntKind.u8 = IntKind.u8) ∧ Sx.Ask (p.px i = p.px i)) ∧ (Sx.Ask (n.toNat = n.toNat) ∧ ∀ (i : Nat), i < n.toNat → True ∧ Sx.Ask (IntKind.i64 = IntKind.i64) ∧ Sx.Ask ((bif decide (i = (clI (Cl.tiles h a w) (g.tmod p.w) (g.tdiv p.w)).toNat ∧ (0 : Nat) ≤ (0 : Nat) ∧ (0 : Nat) < (0 : Nat) + (1 : Nat)) then (SuG.mk p n (Cl.tiles h a w)).acc g.toNat (clI (Cl.tiles h a w) (g.tmod p.w) (g.tdiv p.w)).toNat + p.px g.toNat else (SuG.mk p n (Cl.tiles h a w)).acc g.toNat i) = (SuG.mk p n (Cl.tiles h a w)).acc g'.toNat i)) ∧ True) ∧ Sx.Ask ((suInv (SuG.mk p n (Cl.tiles h a w))).meas g' < (suInv (SuG.mk p n (Cl.tiles h a w))).meas g)) (True ∧ True ∧ True ∧ True ∧ (True ∧ Sx.Ask (n.toNat = if p.chk = (0 : Int) then n.toNat else (0 : Nat)) ∧ ∀ (i : Nat), (i < if p.chk = (0 : Int) then n.toNat else (0 : Nat)) → True ∧ Sx.Ask (IntKind.i64 = IntKind.i64) ∧ Sx.Ask ((SuG.mk p n (Cl.tiles h a w)).acc g.toNat i = (SuG.mk p n (Cl.tiles h a w)).acc p.n i)) ∧ Sx.Ask (IntKind.i64 = IntKind.i64) ∧ Sx.Ask ((0 : Int) = p.chk)))) (by kernel_rfl) ?_
    simp only [ask_iff, br_iff, eq_self, true_and, and_true, implies_true, forall_const, decide_eq_true_eq, decide_eq_false_iff_not, ne_eq, Nat.mul_one, Nat.add_zero, Nat.zero_add]
    by_cases h0 : p.chk = 0
    · obtain ⟨⟨n1, n2⟩, hb, hx⟩ := hg h0
      obtain ⟨⟨⟨w1, w2⟩, h1, h2⟩, hn, hm⟩ := chk0 h0
      simp only at n1 n2
      refine ⟨fun h => absurd h0 h, fun _ => ⟨⟨by omega, by omega, by omega, by omega⟩, ⟨(0 : Int), ⟨Int.le_refl 0, Int.natCast_nonneg _⟩, rfl, fun i _ => rfl⟩, fun i hi => ?_⟩⟩
      have hi' : 0 ≤ i ∧ i ≤ p.n := hi
      refine ⟨fun hlt => ?_, fun hge => ⟨⟨by rw [if_pos h0], fun k _ => by rw [show i.toNat = p.n by omega]⟩, h0.symm⟩⟩
      have e1 := Int.tmod_eq_emod_of_nonneg (b := p.w) hi'.1
      have e2 := Int.tdiv_eq_ediv_of_nonneg (b := p.w) hi'.1
      have hit : ((i.toNat : Nat) : Int) = i := Int.toNat_of_nonneg hi'.1
      have rc := cell_rc h0 (i := i.toNat) (by omega)
      rw [hit] at rc
      obtain ⟨⟨rc1, rc2⟩, rc3, rc4⟩ := rc
      obtain ⟨hk1, hk2, hk3⟩ := hx (i % p.w) (i / p.w) rc1 rc2 rc3 rc4
      have hKn : clI (Cl.tiles h a w) (i % p.w) (i / p.w) < (n.toNat : Int) := by
        rw [Int.toNat_of_nonneg (by omega)]; exact hk3
      have hKt : (clI (Cl.tiles h a w) (i % p.w) (i / p.w)).toNat < n.toNat := by
        have : clI (Cl.tiles h a w) (i % p.w) (i / p.w) < n := hk3
        omega
      have hcls : SuG.cls ⟨p, n, (Cl.tiles h a w)⟩ i.toNat = ((clI (Cl.tiles h a w) (i % p.w) (i / p.w)).toNat : Nat) := by
        show clI (Cl.tiles h a w) ((i.toNat : Int) % p.w) ((i.toNat : Int) / p.w) = _
        rw [hit, Int.toNat_of_nonneg hk2]
      have hpx := hb i.toNat (show i.toNat < p.n by omega)
      have ha := acc_in (g := ⟨p, n, (Cl.tiles h a w)⟩) hb (clI (Cl.tiles h a w) (i % p.w) (i / p.w)).toNat i.toNat (show i.toNat ≤ p.n by omega)
      simp only at hpx ha
      have hd := Int.ediv_le_self p.w hi'.1
      rw [e2]
      rw [e1]
      have hA : -9223372036854775808 ≤ SuG.acc ⟨p, n, (Cl.tiles h a w)⟩ i.toNat (clI (Cl.tiles h a w) (i % p.w) (i / p.w)).toNat + p.px i.toNat ∧ SuG.acc ⟨p, n, (Cl.tiles h a w)⟩ i.toNat (clI (Cl.tiles h a w) (i % p.w) (i / p.w)).toNat + p.px i.toNat ≤ 9223372036854775807 := by omega
      exact ⟨⟨hi'.1, hlt⟩, by omega, ⟨by omega, by omega, by omega⟩, hk1,⟨hk2, hKn⟩, hKt, by omega, hA, ⟨hk2, hKn⟩, hKt, by omega, (i + 1 : Int), ⟨show 0 ≤ i + 1 by omega, show i + 1 ≤ (p.n : Int) by omega⟩, ⟨rfl, fun k _ => acc_step hi'.1 hcls k⟩, show (p.n - (i + 1)).toNat < (p.n - i).toNat by omega⟩
    · exact ⟨fun _ => if_neg h0, fun h => absurd h0 h⟩
/-! Sum, Zones, Tiles. -/
def Pl.sum (p : Pl) : Int := SuG.acc ⟨p, 1, .sum⟩ p.n 0
def spSum : FSpec := mkSpec 20 (γ := Pl) (fun | [.agg _ g] => some (plD g) | _ => none) (fun g => [plS g]) Pl.bytes (fun g => .tup 2 (lst [.int .i64 (if g.chk = 0 then g.sum else 0), .int .i64 g.chk]))
theorem ok_sum : SpecOK Try.prog spSum := by
  refine spec_sound (specs := [spSums]) (all_ok (⟨ok_sums, trivial⟩)) (eqs := []) (fun _ _ h => (List.not_mem_nil h).elim) Aff.mixed Try.func20 rfl (by kernel_rfl) (fun _ _ => by kernel_rfl) (fun g => A0) (fun g => Nat.le_of_ble_eq_true (by kernel_rfl)) ?_
  rintro p hb
  refine vc_of (B := True ∧ True ∧ True ∧ True ∧ (((((True ∧ Sx.Ask (IntKind.i64 = IntKind.i64) ∧ Sx.Ask (p.w = p.w)) ∧ Sx.Ask (IntKind.i64 = IntKind.i64) ∧ Sx.Ask (p.h = p.h)) ∧ Sx.Ask (p.n = p.n) ∧ ∀ (i : Nat), i < p.n → True ∧ Sx.Ask (IntKind.u8 = IntKind.u8) ∧ Sx.Ask (p.px i = p.px i)) ∧ (Sx.Ask (IntKind.i64 = IntKind.i64) ∧ Sx.Ask ((1 : Int) = (1 : Int))) ∧ (Sx.Ask ((62 : Nat) = (62 : Go.FuncId)) ∧ True) ∧ True) ∧ Sx.Ask (SuG.mk p (1 : Int) Cl.sum).ok) ∧ True ∧ True ∧ True ∧ True ∧ True ∧ True ∧ True ∧ Sx.Br (decide (p.chk ≠ (0 : Int))) (True ∧ True ∧ True ∧ True ∧ (True ∧ Sx.Ask (IntKind.i64 = IntKind.i64) ∧ Sx.Ask ((0 : Int) = if p.chk = (0 : Int) then p.sum else (0 : Int))) ∧ Sx.Ask (IntKind.i64 = IntKind.i64) ∧ Sx.Ask (p.chk = p.chk)) (True ∧ Sx.Ask ((0 : Int) ≤ (0 : Int) ∧ (0 : Int) < (↑(if p.chk = (0 : Int) then Int.toNat (1 : Int) else (0 : Nat)) : Int)) ∧ True ∧ True ∧ True ∧ True ∧ (True ∧ Sx.Ask (IntKind.i64 = IntKind.i64) ∧ Sx.Ask ((SuG.mk p (1 : Int) Cl.sum).acc p.n (Int.toNat (0 : Int)) = if p.chk = (0 : Int) then p.sum else (0 : Int))) ∧ Sx.Ask (IntKind.i64 = IntKind.i64) ∧ Sx.Ask ((0 : Int) = p.chk))) (by kernel_rfl) ?_
  simp only [ask_iff, br_iff, eq_self, true_and, and_true, implies_true, forall_const, decide_eq_true_eq, decide_eq_false_iff_not, ne_eq, Nat.mul_one, Nat.add_zero, Nat.zero_add]
  refine ⟨fun h0 => ⟨⟨Int.le_refl 1, show (1 : Int) ≤ 2097152 by decide⟩, hb, fun x y _ _ _ _ => ⟨trivial, Int.le_refl 0, show (0 : Int) < 1 by decide⟩⟩, fun h => ?_, fun h => ?_⟩
  · rw [if_neg h]
  · have h0 : p.chk = 0 := Classical.not_not.1 h
    rw [if_pos h0, if_pos h0]
    exact ⟨by decide, rfl, h0.symm⟩
structure ZoG where
  p : Pl
  n : Int
def ZoG.s (g : ZoG) : SuG := ⟨g.p, g.n, .zones g.p g.n⟩
def spZones : FSpec := mkSpec 22 (γ := ZoG) (fun | [.agg _ g, .int _ n] => some ⟨plD g, n⟩ | _ => none) (fun g => [plS g.p, .int .i64 g.n]) (fun g => (g.p.chk = 0 ∧ g.p.bytes) ∧ 1 ≤ g.n ∧ g.n ≤ 64) (fun g => .tup 2 (lst [.sl g.n.toNat 1 (fun k _ => .int .i64 (g.s.acc g.p.n k)), .int .i64 0]))
theorem zones_cls {p : Pl} (h0 : p.chk = 0) {n : Int} (hn : 1 ≤ n ∧ n ≤ 64) {x y : Int} (x0 : 0 ≤ x) (x1 : x < p.w) : clOK (.zones p n) x y ∧ 0 ≤ clI (.zones p n) x y ∧ clI (.zones p n) x y < n := by
  obtain ⟨⟨⟨w1, w2⟩, h1, h2⟩, _, _⟩ := chk0 h0
  refine ⟨⟨⟨x0, by omega⟩, hn, w1, w2⟩, Int.ediv_nonneg (Int.mul_nonneg x0 (by omega)) (by omega), Int.ediv_lt_of_lt_mul (by omega) ?_⟩
  rw [Int.mul_comm n]
  exact Int.mul_lt_mul_of_pos_right x1 (by omega)
theorem ok_zones : SpecOK Try.prog spZones := by
  refine spec_sound (specs := [spCheckP, spSums]) (all_ok (⟨ok_checkP, ok_sums, trivial⟩)) (eqs := []) (fun _ _ h => (List.not_mem_nil h).elim) Aff.mixed Try.func22 rfl (by kernel_rfl) (fun _ _ => by kernel_rfl) (fun g => (⟨[], [(6, [.tmp 3, .tmp 2])]⟩ : Ann)) (fun g => Nat.le_of_ble_eq_true (by kernel_rfl)) ?_
  rintro ⟨p, n⟩ ⟨⟨h0, hb⟩, n1, n2⟩
  simp only at h0 hb n1 n2
  refine vc_of (B := True ∧ True ∧ True ∧ True ∧ True ∧ (((((True ∧ Sx.Ask (IntKind.i64 = IntKind.i64) ∧ Sx.Ask (p.w = p.w)) ∧ Sx.Ask (IntKind.i64 = IntKind.i64) ∧ Sx.Ask (p.h = p.h)) ∧ Sx.Ask (p.n = p.n) ∧ ∀ (i : Nat), i < p.n → True ∧ Sx.Ask (IntKind.u8 = IntKind.u8) ∧ Sx.Ask (p.px i = p.px i)) ∧ True) ∧ Sx.Ask True) ∧ True ∧ True ∧ True ∧ Sx.Br (decide (p.chk ≠ (0 : Int))) (True ∧ True ∧ True ∧ True ∧ (True ∧ Sx.Ask (n.toNat = (0 : Nat))) ∧ Sx.Ask (IntKind.i64 = IntKind.i64) ∧ Sx.Ask (p.chk = (0 : Int))) (True ∧ True ∧ True ∧ Sx.Br (decide (n < (1 : Int))) (True ∧ True ∧ True ∧ True ∧ (True ∧ Sx.Ask (n.toNat = (0 : Nat))) ∧ Sx.Ask (IntKind.i64 = IntKind.i64) ∧ Sx.Ask ((3 : Int) = (0 : Int))) (True ∧ True ∧ True ∧ Sx.Br (decide ((64 : Int) < n)) (True ∧ True ∧ True ∧ (True ∧ Sx.Ask (n.toNat = (0 : Nat))) ∧ Sx.Ask (IntKind.i64 = IntKind.i64) ∧ Sx.Ask ((3 : Int) = (0 : Int))) (True ∧ True ∧ True ∧ (((((True ∧ Sx.Ask (IntKind.i64 = IntKind.i64) ∧ Sx.Ask (p.w = p.w)) ∧ Sx.Ask (IntKind.i64 = IntKind.i64) ∧ Sx.Ask (p.h = p.h)) ∧ Sx.Ask (p.n = p.n) ∧ ∀ (i : Nat), i < p.n → True ∧ Sx.Ask (IntKind.u8 = IntKind.u8) ∧ Sx.Ask (p.px i = p.px i)) ∧ (Sx.Ask (IntKind.i64 = IntKind.i64) ∧ Sx.Ask (n = n)) ∧ (Sx.Ask ((63 : Nat) = (63 : Go.FuncId)) ∧ (True ∧ True ∧ Sx.Ask (IntKind.i64 = IntKind.i64) ∧ Sx.Ask (n = n)) ∧ ((True ∧ Sx.Ask (IntKind.i64 = IntKind.i64) ∧ Sx.Ask (p.w = p.w)) ∧ Sx.Ask (IntKind.i64 = IntKind.i64) ∧ Sx.Ask (p.h = p.h)) ∧ Sx.Ask (p.n = p.n) ∧ ∀ (i : Nat), i < p.n → True ∧ Sx.Ask (IntKind.u8 = IntKind.u8) ∧ Sx.Ask (p.px i = p.px i)) ∧ True) ∧ Sx.Ask (SuG.mk p n (Cl.zones p n)).ok) ∧ True ∧ True ∧ True ∧ True ∧ True ∧ (True ∧ Sx.Ask ((if p.chk = (0 : Int) then n.toNat else (0 : Nat)) = n.toNat) ∧ ∀ (i : Nat), i < n.toNat → True ∧ Sx.Ask (IntKind.i64 = IntKind.i64) ∧ Sx.Ask ((SuG.mk p n (Cl.zones p n)).acc p.n i = (ZoG.mk p n).s.acc p.n i)) ∧ Sx.Ask (IntKind.i64 = IntKind.i64) ∧ Sx.Ask (p.chk = (0 : Int)))))) (by kernel_rfl) ?_
  simp only [ask_iff, br_iff, eq_self, true_and, and_true, implies_true, forall_const, decide_eq_true_eq, decide_eq_false_iff_not, ne_eq, Nat.mul_one, Nat.add_zero, Nat.zero_add]
  exact ⟨fun h => absurd h0 h, fun _ => ⟨fun h => absurd h (by omega), fun _ => ⟨fun h => absurd h (by omega), fun _ => ⟨fun _ => ⟨⟨n1, show n ≤ 2097152 by omega⟩, hb, fun x y x0 x1 _ _ => zones_cls h0 ⟨n1, n2⟩ x0 x1⟩, ⟨if_pos h0, fun _ _ => rfl⟩, h0⟩⟩⟩⟩
structure TiG where
  p : Pl
  w : Int
  h : Int
def TiG.across (g : TiG) : Int := (g.p.w + g.w - 1) / g.w
def TiG.down (g : TiG) : Int := (g.p.h + g.h - 1) / g.h
def TiG.s (g : TiG) : SuG := ⟨g.p, g.across * g.down, .tiles g.h g.across g.w⟩
def spTiles : FSpec := mkSpec 23 (γ := TiG) (fun | [.agg _ g, .int _ w, .int _ h] => some ⟨plD g, w, h⟩ | _ => none) (fun g => [plS g.p, .int .i64 g.w, .int .i64 g.h]) (fun g => (g.p.chk = 0 ∧ g.p.bytes) ∧ (1 ≤ g.w ∧ g.w ≤ 1024) ∧ 1 ≤ g.h ∧ g.h ≤ 1024)
  (fun g => .tup 2 (lst [.sl (g.across * g.down).toNat 1 (fun k _ => .int .i64 (g.s.acc g.p.n k)), .int .i64 0]))
theorem tiles_cls {g : TiG} (h0 : g.p.chk = 0) (hw : 1 ≤ g.w ∧ g.w ≤ 1024) (hh : 1 ≤ g.h ∧ g.h ≤ 1024) : (1 ≤ g.across ∧ g.across ≤ 1024) ∧ (1 ≤ g.down ∧ g.down ≤ 1024) ∧ ∀ x y, 0 ≤ x → x < g.p.w → 0 ≤ y → y < g.p.h → clOK (.tiles g.h g.across g.w) x y ∧ 0 ≤ clI (.tiles g.h g.across g.w) x y ∧ clI (.tiles g.h g.across g.w) x y < g.across * g.down := by
  obtain ⟨⟨⟨w1, w2⟩, h1, h2⟩, _, _⟩ := chk0 h0
  have up : ∀ {a b : Int}, 1 ≤ a → a ≤ 1024 → 1 ≤ b → b ≤ 1024 → (1 ≤ (a + b - 1) / b ∧ (a + b - 1) / b ≤ 1024) ∧ ∀ x, 0 ≤ x → x < a → x / b < (a + b - 1) / b := fun {a b} a1 a2 b1 b2 => by
    have e : (a + b - 1) / b = (a - 1) / b + 1 := by
      rw [show a + b - 1 = a - 1 + 1 * b by omega, Int.add_mul_ediv_right _ _ (by omega)]
    have d0 := Int.ediv_nonneg (show 0 ≤ a - 1 by omega) (show 0 ≤ b by omega)
    have d1 := Int.ediv_le_self b (show 0 ≤ a - 1 by omega)
    rw [e]
    refine ⟨⟨by omega, by omega⟩, fun x x0 x1 => ?_⟩
    have := Int.ediv_le_ediv (show 0 < b by omega) (show x ≤ a - 1 by omega)
    omega
  have uw := up w1 w2 hw.1 hw.2
  have uh := up h1 h2 hh.1 hh.2
  refine ⟨uw.1, uh.1, fun x y x0 x1 y0 y1 => ?_⟩
  have ux : x / g.w < g.across := uw.2 x x0 x1
  have uy : y / g.h < g.down := uh.2 y y0 y1
  have ua : 1 ≤ g.across ∧ g.across ≤ 1024 := uw.1
  have dx := Int.ediv_nonneg x0 (show 0 ≤ g.w by omega)
  have dy := Int.ediv_nonneg y0 (show 0 ≤ g.h by omega)
  refine ⟨⟨⟨⟨x0, by omega⟩, y0, by omega⟩, hh, hw, by omega, by omega⟩, Int.add_nonneg (Int.mul_nonneg dy (by omega)) dx, ?_⟩
  have := Int.mul_le_mul_of_nonneg_right (show y / g.h + 1 ≤ g.down by omega) (show 0 ≤ g.across by omega)
  rw [Int.add_mul, Int.mul_comm g.down] at this
  show y / g.h * g.across + x / g.w < _
  omega
theorem ok_tiles : SpecOK Try.prog spTiles := by
  refine spec_sound (specs := [spCheckP, spSums]) (all_ok (⟨ok_checkP, ok_sums, trivial⟩)) (eqs := []) (fun _ _ h => (List.not_mem_nil h).elim) Aff.mixed Try.func23 rfl (by kernel_rfl) (fun _ _ => by kernel_rfl) (fun g => (⟨[], [(7, [.tmp 5, .tmp 9, .tmp 4])]⟩ : Ann)) (fun g => Nat.le_of_ble_eq_true (by kernel_rfl)) ?_
  rintro g ⟨⟨h0, hb⟩, ⟨w1, w2⟩, h1, h2⟩
  refine vc_of (B := True ∧ True ∧ True ∧ True ∧ True ∧ True ∧ (((((True ∧ Sx.Ask (IntKind.i64 = IntKind.i64) ∧ Sx.Ask (g.p.w = g.p.w)) ∧ Sx.Ask (IntKind.i64 = IntKind.i64) ∧ Sx.Ask (g.p.h = g.p.h)) ∧ Sx.Ask (g.p.n = g.p.n) ∧ ∀ (i : Nat), i < g.p.n → True ∧ Sx.Ask (IntKind.u8 = IntKind.u8) ∧ Sx.Ask (g.p.px i = g.p.px i)) ∧ True) ∧ Sx.Ask True) ∧ True ∧ True ∧ True ∧ Sx.Br (decide (g.p.chk ≠ (0 : Int))) (True ∧ True ∧ True ∧ True ∧ (True ∧ Sx.Ask ((g.across * g.down).toNat = (0 : Nat))) ∧ Sx.Ask (IntKind.i64 = IntKind.i64) ∧ Sx.Ask (g.p.chk = (0 : Int))) (True ∧ True ∧ True ∧ Sx.Br (decide (g.w < (1 : Int))) (True ∧ True ∧ True ∧ True ∧ True ∧ True ∧ True ∧ True ∧ (True ∧ Sx.Ask ((g.across * g.down).toNat = (0 : Nat))) ∧ Sx.Ask (IntKind.i64 = IntKind.i64) ∧ Sx.Ask ((3 : Int) = (0 : Int))) (True ∧ True ∧ True ∧ True ∧ Sx.Br (decide ((1024 : Int) < g.w)) (True ∧ True ∧ True ∧ True ∧ True ∧ True ∧ (True ∧ Sx.Ask ((g.across * g.down).toNat = (0 : Nat))) ∧ Sx.Ask (IntKind.i64 = IntKind.i64) ∧ Sx.Ask ((3 : Int) = (0 : Int))) (True ∧ True ∧ True ∧ True ∧ Sx.Br (decide (g.h < (1 : Int))) (True ∧ True ∧ True ∧ True ∧ (True ∧ Sx.Ask ((g.across * g.down).toNat = (0 : Nat))) ∧ Sx.Ask (IntKind.i64 = IntKind.i64) ∧ Sx.Ask ((3 : Int) = (0 : Int))) (True ∧ True ∧ True ∧ Sx.Br (decide ((1024 : Int) < g.h)) (True ∧ True ∧ True ∧ (True ∧ Sx.Ask ((g.across * g.down).toNat = (0 : Nat))) ∧ Sx.Ask (IntKind.i64 = IntKind.i64) ∧ Sx.Ask ((3 : Int) = (0 : Int))) (True ∧ True ∧ True ∧ Sx.Ask ((-9223372036854775808 : Int) ≤ g.p.w + g.w ∧ g.p.w + g.w ≤ (9223372036854775807 : Int)) ∧ Sx.Ask ((-9223372036854775808 : Int) ≤ g.p.w + g.w - (1 : Int) ∧ g.p.w + g.w - (1 : Int) ≤ (9223372036854775807 : Int)) ∧ True ∧ Sx.Ask (g.w ≠ (0 : Int) ∧ (-9223372036854775808 : Int) ≤ (g.p.w + g.w - (1 : Int)).tdiv g.w ∧ (g.p.w + g.w - (1 : Int)).tdiv g.w ≤ (9223372036854775807 : Int)) ∧ True ∧ True ∧ True ∧ Sx.Ask ((-9223372036854775808 : Int) ≤ g.p.h + g.h ∧ g.p.h + g.h ≤ (9223372036854775807 : Int)) ∧ Sx.Ask ((-9223372036854775808 : Int) ≤ g.p.h + g.h - (1 : Int) ∧ g.p.h + g.h - (1 : Int) ≤ (9223372036854775807 : Int)) ∧ True ∧ Sx.Ask (g.h ≠ (0 : Int) ∧ (-9223372036854775808 : Int) ≤ (g.p.h + g.h - (1 : Int)).tdiv g.h ∧ (g.p.h + g.h - (1 : Int)).tdiv g.h ≤ (9223372036854775807 : Int)) ∧ True ∧ True ∧ True ∧ True ∧ True ∧ True ∧ Sx.Ask ((-9223372036854775808 : Int) ≤ (g.p.w + g.w - (1 : Int)).tdiv g.w * (g.p.h + g.h - (1 : Int)).tdiv g.h ∧ (g.p.w + g.w - (1 : Int)).tdiv g.w * (g.p.h + g.h - (1 : Int)).tdiv g.h ≤ (9223372036854775807 : Int)) ∧ True ∧ (((((True ∧ Sx.Ask (IntKind.i64 = IntKind.i64) ∧ Sx.Ask (g.p.w = g.p.w)) ∧ Sx.Ask (IntKind.i64 = IntKind.i64) ∧ Sx.Ask (g.p.h = g.p.h)) ∧ Sx.Ask (g.p.n = g.p.n) ∧ ∀ (i : Nat), i < g.p.n → True ∧ Sx.Ask (IntKind.u8 = IntKind.u8) ∧ Sx.Ask (g.p.px i = g.p.px i)) ∧ (Sx.Ask (IntKind.i64 = IntKind.i64) ∧ Sx.Ask ((g.p.w + g.w - (1 : Int)).tdiv g.w * (g.p.h + g.h - (1 : Int)).tdiv g.h = (g.p.w + g.w - (1 : Int)).tdiv g.w * (g.p.h + g.h - (1 : Int)).tdiv g.h)) ∧ (Sx.Ask ((64 : Nat) = (64 : Go.FuncId)) ∧ ((True ∧ True ∧ Sx.Ask (IntKind.i64 = IntKind.i64) ∧ Sx.Ask (g.h = g.h)) ∧ True ∧ Sx.Ask (IntKind.i64 = IntKind.i64) ∧ Sx.Ask ((g.p.w + g.w - (1 : Int)).tdiv g.w = (g.p.w + g.w - (1 : Int)).tdiv g.w)) ∧ True ∧ Sx.Ask (IntKind.i64 = IntKind.i64) ∧ Sx.Ask (g.w = g.w)) ∧ True) ∧ Sx.Ask (SuG.mk g.p ((g.p.w + g.w - (1 : Int)).tdiv g.w * (g.p.h + g.h - (1 : Int)).tdiv g.h) (Cl.tiles g.h ((g.p.w + g.w - (1 : Int)).tdiv g.w) g.w)).ok) ∧ True ∧ True ∧ True ∧ True ∧ True ∧ (True ∧ Sx.Ask ((if g.p.chk = (0 : Int) then ((g.p.w + g.w - (1 : Int)).tdiv g.w * (g.p.h + g.h - (1 : Int)).tdiv g.h).toNat else (0 : Nat)) = (g.across * g.down).toNat) ∧ ∀ (i : Nat), i < (g.across * g.down).toNat → True ∧ Sx.Ask (IntKind.i64 = IntKind.i64) ∧ Sx.Ask ((SuG.mk g.p ((g.p.w + g.w - (1 : Int)).tdiv g.w * (g.p.h + g.h - (1 : Int)).tdiv g.h) (Cl.tiles g.h ((g.p.w + g.w - (1 : Int)).tdiv g.w) g.w)).acc g.p.n i = g.s.acc g.p.n i)) ∧ Sx.Ask (IntKind.i64 = IntKind.i64) ∧ Sx.Ask (g.p.chk = (0 : Int)))))))) (by kernel_rfl) ?_
  simp only [ask_iff, br_iff, eq_self, true_and, and_true, implies_true, forall_const, decide_eq_true_eq, decide_eq_false_iff_not, ne_eq, Nat.mul_one, Nat.add_zero, Nat.zero_add]
  have hc := chk0 h0
  have e1 : (g.p.w + g.w - 1).tdiv g.w = g.across := Int.tdiv_eq_ediv_of_nonneg (by omega)
  have e2 : (g.p.h + g.h - 1).tdiv g.h = g.down := Int.tdiv_eq_ediv_of_nonneg (by omega)
  simp only [e1, e2]
  obtain ⟨⟨a1, a2⟩, ⟨b1, b2⟩, hx⟩ := tiles_cls h0 ⟨w1, w2⟩ ⟨h1, h2⟩
  have ab : 1 * 1 ≤ g.across * g.down := Int.mul_le_mul a1 b1 (by omega) (by omega)
  have ab' : g.across * g.down ≤ 1024 * 1024 := Int.mul_le_mul a2 b2 (by omega) (by omega)
  exact ⟨fun h => absurd h0 h, fun _ => ⟨fun h => absurd h (by omega), fun _ => ⟨fun h => absurd h (by omega), fun _ => ⟨fun h => absurd h (by omega), fun _ => ⟨fun h => absurd h (by omega), fun _ => ⟨by omega, by omega, by omega, by omega, by omega, by omega, by omega, fun _ => ⟨⟨show 1 ≤ g.across * g.down by omega, show g.across * g.down ≤ 2097152 by omega⟩, hb, hx⟩, ⟨if_pos h0, fun _ _ => rfl⟩, h0⟩⟩⟩⟩⟩⟩
/-! Count, Quantile. -/
def Pl.cnt (p : Pl) : Nat → Nat → Int
  | 0, _ => 0
  | i + 1, k => p.cnt i k + if p.px i = k then 1 else 0
theorem cnt_in (p : Pl) (k : Nat) : ∀ i, 0 ≤ p.cnt i k ∧ p.cnt i k ≤ i
  | 0 => by unfold Pl.cnt; omega
  | i + 1 => by
    have h1 := cnt_in p k i
    unfold Pl.cnt
    split <;> omega
theorem cnt_step {p : Pl} {i : Int} (hi : 0 ≤ i) {K : Nat} (hK : p.px i.toNat = K) (k : Nat) :
    (bif decide (k = K ∧ 0 ≤ 0 ∧ 0 < 1) then p.cnt i.toNat K + 1 else p.cnt i.toNat k) = p.cnt (i + 1).toNat k := by
  have e : (i + 1).toNat = i.toNat + 1 := by omega
  rw [e]
  show _ = p.cnt i.toNat k + if p.px i.toNat = k then 1 else 0
  rw [hK]
  by_cases h : k = K
  · subst h
    rw [decide_eq_true ⟨rfl, by decide, by decide⟩, if_pos rfl]
    rfl
  · rw [decide_eq_false (fun hc => h hc.1), if_neg (by omega), Int.add_zero]
    rfl
def cntS (p : Pl) : SV := .sl 256 1 (fun k _ => .int .i64 (p.cnt p.n k))
def coInv (g : Pl) : Inv := ⟨Int, fun i => 0 ≤ i ∧ i ≤ g.n,
  fun i => ⟨[(5, .osl 1 0), (15, .sl g.n 1 (fun i _ => .int .u8 (g.px i))), (16, .int .i64 g.n), (17, .int .i64 i)],
    [.cells 3 (lst (plL g)) 41, .row 0 256 1 (fun k _ => .int .i64 (g.cnt i.toNat k)) 3]⟩,
  fun i => (g.n - i).toNat⟩
def spCount : FSpec := mkSpec 24 (γ := Pl) (fun | [.agg _ g] => some (plD g) | _ => none) (fun g => [plS g]) (fun g => g.chk = 0 ∧ g.bytes) (fun g => .tup 2 (lst [cntS g, .int .i64 0]))
theorem ok_count : SpecOK Try.prog spCount := by
  refine spec_sound (specs := [spCheckP]) (all_ok (⟨ok_checkP, trivial⟩)) (eqs := []) (fun _ _ h => (List.not_mem_nil h).elim) Aff.mixed Try.func24 rfl (by kernel_rfl) (fun _ _ => by kernel_rfl) (fun g => (⟨[(6, .inv (coInv g))], []⟩ : Ann)) (fun g => Nat.le_of_ble_eq_true (by kernel_rfl)) ?_
  rintro p ⟨h0, hb⟩
  refine vc_of (B := True ∧ True ∧ True ∧ True ∧ (((((True ∧ Sx.Ask (IntKind.i64 = IntKind.i64) ∧ Sx.Ask (p.w = p.w)) ∧ Sx.Ask (IntKind.i64 = IntKind.i64) ∧ Sx.Ask (p.h = p.h)) ∧ Sx.Ask (p.n = p.n) ∧ ∀ (i : Nat), i < p.n → True ∧ Sx.Ask (IntKind.u8 = IntKind.u8) ∧ Sx.Ask (p.px i = p.px i)) ∧ True) ∧ Sx.Ask True) ∧ True ∧ True ∧ True ∧ Sx.Br (decide (p.chk ≠ (0 : Int))) (True ∧ True ∧ True ∧ True ∧ (True ∧ Sx.Ask ((256 : Nat) = (0 : Nat))) ∧ Sx.Ask (IntKind.i64 = IntKind.i64) ∧ Sx.Ask (p.chk = (0 : Int))) (Sx.Ask ((0 : Int) ≤ (256 : Int) ∧ (256 : Int) ≤ (256 : Int) ∧ (↑(8 : Nat) : Int) * (256 : Int) ≤ (140737488355328 : Int) ∧ (256 : Int) ≤ (9223372036854775807 : Int)) ∧ True ∧ True ∧ True ∧ True ∧ True ∧ (∃ (g : Int), Sx.Ask ((coInv p).pre g) ∧ (True ∧ (Sx.Ask (p.n = p.n) ∧ ∀ (i : Nat), i < p.n → True ∧ Sx.Ask (IntKind.u8 = IntKind.u8) ∧ Sx.Ask (p.px i = p.px i)) ∧ (Sx.Ask (IntKind.i64 = IntKind.i64) ∧ Sx.Ask ((↑p.n : Int) = (↑p.n : Int))) ∧ (Sx.Ask (IntKind.i64 = IntKind.i64) ∧ Sx.Ask ((0 : Int) = g)) ∧ True) ∧ (((True ∧ Sx.Ask (IntKind.i64 = IntKind.i64) ∧ Sx.Ask (p.w = p.w)) ∧ Sx.Ask (IntKind.i64 = IntKind.i64) ∧ Sx.Ask (p.h = p.h)) ∧ Sx.Ask (p.n = p.n) ∧ ∀ (i : Nat), i < p.n → True ∧ Sx.Ask (IntKind.u8 = IntKind.u8) ∧ Sx.Ask (p.px i = p.px i)) ∧ (Sx.Ask (Int.toNat (256 : Int) = (256 : Nat)) ∧ ∀ (i : Nat), i < (256 : Nat) → True ∧ Sx.Ask (IntKind.i64 = IntKind.i64) ∧ Sx.Ask ((0 : Int) = p.cnt g.toNat i)) ∧ True) ∧ ∀ (g : Int), (coInv p).pre g → True ∧ Sx.Br (decide (g < (↑p.n : Int))) (Sx.Ask ((0 : Int) ≤ g ∧ g < (↑p.n : Int)) ∧ True ∧ True ∧ True ∧ True ∧ Sx.Ask ((0 : Int) ≤ p.px g.toNat ∧ p.px g.toNat < (↑(256 : Nat) : Int)) ∧ Sx.Ask ((p.px g.toNat).toNat < (256 : Nat)) ∧ Sx.Ask ((-9223372036854775808 : Int) ≤ p.cnt g.toNat (p.px g.toNat).toNat + (1 : Int) ∧ p.cnt g.toNat (p.px g.toNat).toNat + (1 : Int) ≤ (9223372036854775807 : Int)) ∧ Sx.Ask ((0 : Int) ≤ p.px g.toNat ∧ p.px g.toNat < (↑(256 : Nat) : Int)) ∧ Sx.Ask ((p.px g.toNat).toNat < (256 : Nat)) ∧ Sx.Ask ((-9223372036854775808 : Int) ≤ g + (1 : Int) ∧ g + (1 : Int) ≤ (9223372036854775807 : Int)) ∧ True ∧ ∃ (g' : Int), Sx.Ask ((coInv p).pre g') ∧ ((True ∧ (Sx.Ask (p.n = p.n) ∧ ∀ (i : Nat), i < p.n → True ∧ Sx.Ask (IntKind.u8 = IntKind.u8) ∧ Sx.Ask (p.px i = p.px i)) ∧ (Sx.Ask (IntKind.i64 = IntKind.i64) ∧ Sx.Ask ((↑p.n : Int) = (↑p.n : Int))) ∧ (Sx.Ask (IntKind.i64 = IntKind.i64) ∧ Sx.Ask (g + (1 : Int) = g')) ∧ True) ∧ (((True ∧ Sx.Ask (IntKind.i64 = IntKind.i64) ∧ Sx.Ask (p.w = p.w)) ∧ Sx.Ask (IntKind.i64 = IntKind.i64) ∧ Sx.Ask (p.h = p.h)) ∧ Sx.Ask (p.n = p.n) ∧ ∀ (i : Nat), i < p.n → True ∧ Sx.Ask (IntKind.u8 = IntKind.u8) ∧ Sx.Ask (p.px i = p.px i)) ∧ (Sx.Ask ((256 : Nat) = (256 : Nat)) ∧ ∀ (i : Nat), i < (256 : Nat) → True ∧ Sx.Ask (IntKind.i64 = IntKind.i64) ∧ Sx.Ask ((bif decide (i = (p.px g.toNat).toNat ∧ (0 : Nat) ≤ (0 : Nat) ∧ (0 : Nat) < (0 : Nat) + (1 : Nat)) then p.cnt g.toNat (p.px g.toNat).toNat + (1 : Int) else p.cnt g.toNat i) = p.cnt g'.toNat i)) ∧ True) ∧ Sx.Ask ((coInv p).meas g' < (coInv p).meas g)) (True ∧ True ∧ True ∧ True ∧ (True ∧ Sx.Ask ((256 : Nat) = (256 : Nat)) ∧ ∀ (i : Nat), i < (256 : Nat) → True ∧ Sx.Ask (IntKind.i64 = IntKind.i64) ∧ Sx.Ask (p.cnt g.toNat i = p.cnt p.n i)) ∧ Sx.Ask (IntKind.i64 = IntKind.i64) ∧ Sx.Ask ((0 : Int) = (0 : Int))))) (by kernel_rfl) ?_
  simp only [ask_iff, br_iff, eq_self, true_and, and_true, implies_true, forall_const, decide_eq_true_eq, decide_eq_false_iff_not, ne_eq, Nat.mul_one, Nat.add_zero, Nat.zero_add]
  have hc := chk0 h0
  refine ⟨fun h => absurd h0 h, fun _ => ⟨⟨by omega, by omega, by omega, by omega⟩, ⟨(0 : Int), ⟨Int.le_refl 0, Int.natCast_nonneg _⟩, rfl, rfl, fun i _ => rfl⟩, fun i hi => ?_⟩⟩
  have hi' : 0 ≤ i ∧ i ≤ p.n := hi
  refine ⟨fun hlt => ?_, fun hge => fun k _ => by rw [show i.toNat = p.n by omega]⟩
  have hpx := hb i.toNat (by omega)
  have hc1 := cnt_in p (p.px i.toNat).toNat i.toNat
  have hx : p.px i.toNat = ((p.px i.toNat).toNat : Nat) := (Int.toNat_of_nonneg hpx.1).symm
  exact ⟨by omega, ⟨by omega, by omega⟩, by omega, by omega, ⟨by omega, by omega⟩, by omega, by omega, (i + 1 : Int), ⟨show 0 ≤ i + 1 by omega, show i + 1 ≤ (p.n : Int) by omega⟩, ⟨rfl, fun k _ => cnt_step hi'.1 hx k⟩, show (p.n - (i + 1)).toNat < (p.n - i).toNat by omega⟩
/-- How many pixels lie below v. -/
def Pl.cum (p : Pl) (i : Nat) : Nat → Int
  | 0 => 0
  | v + 1 => p.cum i v + p.cnt i v
def Pl.qF (p : Pl) (k : Int) : Nat → Nat → Nat
  | 0, v => v
  | f + 1, v => if k ≤ p.cum p.n (v + 1) then v else p.qF k f (v + 1)
def Pl.quant (p : Pl) (k : Int) : Nat := p.qF k 256 0
theorem cum_succ {p : Pl} {i : Nat} (h : 0 ≤ p.px i) : ∀ v : Nat, p.cum (i + 1) v = p.cum i v + if p.px i < v then 1 else 0
  | 0 => by
    rw [if_neg (by omega)]
    rfl
  | v + 1 => by
    have h1 := cum_succ h v
    show p.cum (i + 1) v + (p.cnt i v + if p.px i = v then 1 else 0) = p.cum i v + p.cnt i v + if p.px i < (v + 1 : Nat) then 1 else 0
    rw [h1]
    split <;> split <;> split <;> omega
theorem cum_all {p : Pl} (hb : p.bytes) : ∀ i, i ≤ p.n → p.cum i 256 = i
  | 0, _ => by
    have z : ∀ v, p.cum 0 v = 0 := fun v => by
      induction v with
      | zero => rfl
      | succ v ih => show p.cum 0 v + 0 = 0; omega
    exact z 256
  | i + 1, hi => by
    have h1 := hb i (by omega)
    rw [cum_succ h1.1, cum_all hb i (by omega), if_pos (show p.px i < (256 : Nat) by omega)]
    rfl
theorem cum_in (p : Pl) (i : Nat) : ∀ v, 0 ≤ p.cum i v ∧ p.cum i v ≤ v * i
  | 0 => by unfold Pl.cum; omega
  | v + 1 => by
    have h1 := cum_in p i v
    have h2 := cnt_in p v i
    unfold Pl.cum
    rw [Int.natCast_add, Int.add_mul]
    omega
structure QuG where
  p : Pl
  k : Int
def QuG.ok (g : QuG) : Prop := (g.p.chk = 0 ∧ g.p.bytes) ∧ 1 ≤ g.k ∧ g.k ≤ g.p.n
def quInv (g : QuG) : Inv := ⟨Int, fun v => (0 ≤ v ∧ v ≤ 255) ∧ g.p.cum g.p.n v.toNat < g.k ∧ g.p.quant g.k = g.p.qF g.k (256 - v.toNat) v.toNat,
  fun v => ⟨[(1, .int .i64 g.k), (6, cntS g.p), (8, .int .i64 v), (9, .int .i64 (g.p.cum g.p.n (v.toNat + 1)))], []⟩, fun v => (256 - v).toNat⟩
def spQuant : FSpec := mkSpec 25 (γ := QuG) (fun | [.agg _ g, .int _ k] => some ⟨plD g, k⟩ | _ => none) (fun g => [plS g.p, .int .i64 g.k]) QuG.ok (fun g => .tup 2 (lst [.int .u8 (g.p.quant g.k), .int .i64 0]))
theorem ok_quant : SpecOK Try.prog spQuant := by
  refine spec_sound (specs := [spCount]) (all_ok (⟨ok_count, trivial⟩)) (eqs := []) (fun _ _ h => (List.not_mem_nil h).elim) Aff.mixed Try.func25 rfl (by kernel_rfl) (fun _ _ => by kernel_rfl) (fun g => (⟨[(8, .inv (quInv g))], []⟩ : Ann)) (fun g => Nat.le_of_ble_eq_true (by kernel_rfl)) ?_
  rintro g hg
  obtain ⟨⟨h0, hb⟩, k1, k2⟩ := id hg
  refine vc_of (B := True ∧ True ∧ True ∧ True ∧ (((((True ∧ Sx.Ask (IntKind.i64 = IntKind.i64) ∧ Sx.Ask (g.p.w = g.p.w)) ∧ Sx.Ask (IntKind.i64 = IntKind.i64) ∧ Sx.Ask (g.p.h = g.p.h)) ∧ Sx.Ask (g.p.n = g.p.n) ∧ ∀ (i : Nat), i < g.p.n → True ∧ Sx.Ask (IntKind.u8 = IntKind.u8) ∧ Sx.Ask (g.p.px i = g.p.px i)) ∧ True) ∧ Sx.Ask (g.p.chk = (0 : Int) ∧ g.p.bytes)) ∧ True ∧ True ∧ True ∧ True ∧ True ∧ True ∧ True ∧ True ∧ True ∧ True ∧ Sx.Br (decide (g.k < (1 : Int))) (True ∧ True ∧ True ∧ True ∧ (True ∧ Sx.Ask (IntKind.u8 = IntKind.u8) ∧ Sx.Ask ((0 : Int) = (↑(g.p.quant g.k) : Int))) ∧ Sx.Ask (IntKind.i64 = IntKind.i64) ∧ Sx.Ask ((3 : Int) = (0 : Int))) (True ∧ True ∧ True ∧ True ∧ True ∧ True ∧ Sx.Br (decide ((↑g.p.n : Int) < g.k)) (True ∧ True ∧ True ∧ (True ∧ Sx.Ask (IntKind.u8 = IntKind.u8) ∧ Sx.Ask ((0 : Int) = (↑(g.p.quant g.k) : Int))) ∧ Sx.Ask (IntKind.i64 = IntKind.i64) ∧ Sx.Ask ((3 : Int) = (0 : Int))) (True ∧ True ∧ Sx.Ask ((0 : Int) ≤ (0 : Int) ∧ (0 : Int) < (↑(256 : Nat) : Int)) ∧ True ∧ True ∧ (∃ (g_1 : Int), Sx.Ask ((quInv g).pre g_1) ∧ ((Sx.Ask (IntKind.i64 = IntKind.i64) ∧ Sx.Ask (g.k = g.k)) ∧ (Sx.Ask ((256 : Nat) = (256 : Nat)) ∧ ∀ (i : Nat), i < (256 : Nat) → True ∧ Sx.Ask (IntKind.i64 = IntKind.i64) ∧ Sx.Ask (g.p.cnt g.p.n i = g.p.cnt g.p.n i)) ∧ (Sx.Ask (IntKind.i64 = IntKind.i64) ∧ Sx.Ask ((0 : Int) = g_1)) ∧ (Sx.Ask (IntKind.i64 = IntKind.i64) ∧ Sx.Ask (g.p.cnt g.p.n (Int.toNat (0 : Int)) = g.p.cum g.p.n (g_1.toNat + (1 : Nat)))) ∧ True) ∧ True) ∧ ∀ (g_1 : Int), (quInv g).pre g_1 → True ∧ True ∧ True ∧ Sx.Br (decide (g.p.cum g.p.n (g_1.toNat + (1 : Nat)) < g.k)) (True ∧ Sx.Ask ((-9223372036854775808 : Int) ≤ g_1 + (1 : Int) ∧ g_1 + (1 : Int) ≤ (9223372036854775807 : Int)) ∧ True ∧ True ∧ True ∧ True ∧ Sx.Ask ((0 : Int) ≤ g_1 + (1 : Int) ∧ g_1 + (1 : Int) < (↑(256 : Nat) : Int)) ∧ True ∧ Sx.Ask ((-9223372036854775808 : Int) ≤ g.p.cum g.p.n (g_1.toNat + (1 : Nat)) + g.p.cnt g.p.n (g_1 + (1 : Int)).toNat ∧ g.p.cum g.p.n (g_1.toNat + (1 : Nat)) + g.p.cnt g.p.n (g_1 + (1 : Int)).toNat ≤ (9223372036854775807 : Int)) ∧ True ∧ ∃ (g' : Int), Sx.Ask ((quInv g).pre g') ∧ (((Sx.Ask (IntKind.i64 = IntKind.i64) ∧ Sx.Ask (g.k = g.k)) ∧ (Sx.Ask ((256 : Nat) = (256 : Nat)) ∧ ∀ (i : Nat), i < (256 : Nat) → True ∧ Sx.Ask (IntKind.i64 = IntKind.i64) ∧ Sx.Ask (g.p.cnt g.p.n i = g.p.cnt g.p.n i)) ∧ (Sx.Ask (IntKind.i64 = IntKind.i64) ∧ Sx.Ask (g_1 + (1 : Int) = g')) ∧ (Sx.Ask (IntKind.i64 = IntKind.i64) ∧ Sx.Ask (g.p.cum g.p.n (g_1.toNat + (1 : Nat)) + g.p.cnt g.p.n (g_1 + (1 : Int)).toNat = g.p.cum g.p.n (g'.toNat + (1 : Nat)))) ∧ True) ∧ True) ∧ Sx.Ask ((quInv g).meas g' < (quInv g).meas g_1)) (True ∧ Sx.Ask True ∧ True ∧ True ∧ True ∧ (True ∧ Sx.Ask (IntKind.u8 = IntKind.u8) ∧ Sx.Ask (IntKind.u8.wrap g_1 = (↑(g.p.quant g.k) : Int))) ∧ Sx.Ask (IntKind.i64 = IntKind.i64) ∧ Sx.Ask ((0 : Int) = (0 : Int)))))) (by kernel_rfl) ?_
  simp only [ask_iff, br_iff, eq_self, true_and, and_true, implies_true, forall_const, decide_eq_true_eq, decide_eq_false_iff_not, ne_eq, Nat.mul_one, Nat.add_zero, Nat.zero_add]
  have hc := chk0 h0
  have hall : g.p.cum g.p.n 256 = g.p.n := cum_all hb g.p.n (Nat.le_refl _)
  have e0 : g.p.cum g.p.n 0 = 0 := rfl
  have e1 : ∀ v, g.p.cum g.p.n (v + 1) = g.p.cum g.p.n v + g.p.cnt g.p.n v := fun v => rfl
  refine ⟨⟨h0, hb⟩, fun h => absurd h (by omega), fun _ => ⟨fun h => absurd h (by omega), fun _ => ⟨⟨by omega, by omega⟩, ⟨(0 : Int), ⟨⟨by decide, by decide⟩, show g.p.cum g.p.n 0 < g.k by omega, rfl⟩, rfl, show g.p.cnt g.p.n 0 = 0 + g.p.cnt g.p.n 0 by omega⟩, fun v hv => ?_⟩⟩⟩
  have hv' : (0 ≤ v ∧ v ≤ 255) ∧ g.p.cum g.p.n v.toNat < g.k ∧ g.p.quant g.k = g.p.qF g.k (256 - v.toNat) v.toNat := hv
  obtain ⟨⟨v0, v1⟩, v2, v3⟩ := hv'
  have ef : 256 - v.toNat = (255 - v.toNat) + 1 := by omega
  rw [ef] at v3
  have et : (v + 1).toNat = v.toNat + 1 := by omega
  refine ⟨fun hlt => ?_, fun hge => ?_⟩
  · have hv5 : v ≠ 255 := fun h => by
      subst h
      have : g.p.cum g.p.n (Int.toNat 255 + 1) = g.p.n := hall
      omega
    have b1 := cnt_in g.p (v + 1).toNat g.p.n
    have b2 := (cum_in g.p g.p.n (v.toNat + 1)).1
    refine ⟨by omega, ⟨by omega, by omega⟩, ⟨by omega, by omega⟩, v + 1, ⟨⟨by omega, by omega⟩, by rw [et]; exact hlt, ?_⟩, ⟨rfl, by rw [et]; exact (e1 _).symm⟩, show (256 - (v + 1)).toNat < (256 - v).toNat by omega⟩
    rw [v3, et, show 256 - (v.toNat + 1) = 255 - v.toNat by omega]
    show (if g.k ≤ g.p.cum g.p.n (v.toNat + 1) then v.toNat else g.p.qF g.k (255 - v.toNat) (v.toNat + 1)) = _
    rw [if_neg (by omega)]
  · have hq : g.p.quant g.k = v.toNat := by
      rw [v3]
      show (if g.k ≤ g.p.cum g.p.n (v.toNat + 1) then v.toNat else g.p.qF g.k (255 - v.toNat) (v.toNat + 1)) = _
      rw [if_pos (by omega)]
    rw [hq, IntKind.wrap_u8]
    omega
/-- The quantile: fewer than k pixels lie below, k or more do not lie above. -/
theorem quant_spec {p : Pl} {k : Int} (hb : p.bytes) (k1 : 1 ≤ k) (k2 : k ≤ p.n) : p.quant k ≤ 255 ∧ p.cum p.n (p.quant k) < k ∧ k ≤ p.cum p.n (p.quant k + 1) := by
  have go : ∀ f v, f + v = 256 → p.cum p.n v < k → p.qF k f v ≤ 255 ∧ p.cum p.n (p.qF k f v) < k ∧ k ≤ p.cum p.n (p.qF k f v + 1) := by
    intro f
    induction f with
    | zero =>
      intro v hv hl
      obtain rfl : v = 256 := by omega
      rw [cum_all hb p.n (Nat.le_refl _)] at hl
      omega
    | succ f ih =>
      intro v hv hl
      unfold Pl.qF
      by_cases h : k ≤ p.cum p.n (v + 1)
      · rw [if_pos h]
        exact ⟨by omega, hl, h⟩
      · rw [if_neg h]
        exact ih (v + 1) (by omega) (by omega)
  exact go 256 0 rfl (show (0 : Int) < k by omega)
end Go.Proofs.Ytbmgclpgompjmaa.Tal
