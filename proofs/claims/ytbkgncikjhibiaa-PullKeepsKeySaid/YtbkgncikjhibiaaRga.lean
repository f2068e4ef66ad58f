/- Package region: permitted, border, Check, Add, edges, cmp.Or: by the evaluation. -/
import Derived.Test.YtbkgncikjhibiaaCon
set_option linter.unusedSimpArgs false
set_option linter.unusedVariables false
namespace Go.Proofs.Ytbkgncikjhibiaa.Rga
open Go.RowKit Sx Num Aff Con
set_option maxRecDepth 100000
/-- A run of cells. -/
structure Rn where
  y : Int
  x0 : Int
  x1 : Int
def rnL (r : Rn) : List SV := [.int .i64 r.y, .int .i64 r.x0, .int .i64 r.x1]
def rnS (r : Rn) : SV := .agg 3 (lst (rnL r))
def rnD (g : Nat → SV) : Rn := ⟨intOf (g 0), intOf (g 1), intOf (g 2)⟩
def rI (L : List Rn) (i : Nat) : Rn := L.getD i ⟨0, 0, 0⟩
/-- Runs, as a function hands them. -/
structure Rg where
  n : Nat
  f : Nat → Rn
def Rg.L (g : Rg) : List Rn := (List.range g.n).map g.f
def rgS (g : Rg) : SV := .sl g.n 3 (fun i => lst (rnL (g.f i)))
def runsS (L : List Rn) : SV := .sl L.length 3 (fun i => lst (rnL (rI L i)))
def rgD : SV → Nat → Rn
  | .sl _ _ f => fun i => rnD (f i)
  | _ => fun _ => ⟨0, 0, 0⟩
theorem Rg.L_of (L : List Rn) : Rg.L ⟨L.length, rI L⟩ = L := by
  unfold Rg.L
  apply List.ext_getElem
  · simp
  · intro i h1 h2
    simp [rI, List.getD_eq_getElem?_getD, List.getElem?_eq_getElem h2]
theorem Rg.len (g : Rg) : g.L.length = g.n := by simp [Rg.L]
theorem Rg.rI {g : Rg} {i : Nat} (h : i < g.n) : rI g.L i = g.f i := by
  simp [Rga.rI, Rg.L, List.getD_eq_getElem?_getD, h]
def okR (r : Rn) : Prop := ((-8192 ≤ r.y ∧ r.y < 8192) ∧ (-8192 ≤ r.x0 ∧ r.x0 ≤ 8192) ∧ -8192 ≤ r.x1 ∧ r.x1 ≤ 8192) ∧ r.x0 < r.x1
def ltR (r s : Rn) : Prop := r.y < s.y ∨ (r.y = s.y ∧ r.x1 < s.x0)
/-- A valid region. -/
def vld (L : List Rn) : Prop := (∀ r ∈ L, okR r) ∧ L.Pairwise ltR
def spPermitted : FSpec := mkSpec 56 (γ := Int) (fun | [.int _ x] => some x | _ => none) (fun x => [.int .i64 x]) (fun _ => True) (fun x => .bool (decide (-8192 ≤ x) && decide (x < 8192)))
theorem ok_permitted : SpecOK Try.prog spPermitted := by
  refine spec_sound (specs := []) (all_ok trivial) (eqs := []) (fun _ _ h => (List.not_mem_nil h).elim) Aff.mixed Try.func56 rfl (by kernel_rfl) (fun _ _ => by kernel_rfl) (fun g => A0) (fun g => Nat.le_of_ble_eq_true (by kernel_rfl)) ?_
  rintro x hx
  refine vc_of (B := let z0 := (decide ((-8192 : Int) ≤ x) && decide (x < (8192 : Int)));True ∧ True ∧ True ∧ True ∧ Sx.Br (decide ((-8192 : Int) ≤ x)) (True ∧ True ∧ True ∧ True ∧ True ∧ Sx.Ask (decide (x < (8192 : Int)) = z0)) (True ∧ True ∧ True ∧ Sx.Ask (false = z0))) (by kernel_rfl) ?_
  simp only [ask_iff, br_iff, eq_self, true_and, and_true, implies_true, forall_const, decide_eq_true_eq, decide_eq_false_iff_not, ne_eq, Nat.mul_one, Nat.add_zero, Nat.zero_add]
  refine ⟨fun h => ?_, fun h => ?_⟩
  · rw [decide_eq_true h]; rfl
  · rw [decide_eq_false h]; rfl
def spBorder : FSpec := mkSpec 18 (γ := Int) (fun | [.int _ x] => some x | _ => none) (fun x => [.int .i64 x]) (fun _ => True) (fun x => .bool (decide (-8192 ≤ x) && decide (x ≤ 8192)))
theorem ok_border : SpecOK Try.prog spBorder := by
  refine spec_sound (specs := []) (all_ok trivial) (eqs := []) (fun _ _ h => (List.not_mem_nil h).elim) Aff.mixed Try.func18 rfl (by kernel_rfl) (fun _ _ => by kernel_rfl) (fun g => A0) (fun g => Nat.le_of_ble_eq_true (by kernel_rfl)) ?_
  rintro x hx
  refine vc_of (B := let z0 := (decide ((-8192 : Int) ≤ x) && decide (x ≤ (8192 : Int)));True ∧ True ∧ True ∧ True ∧ Sx.Br (decide ((-8192 : Int) ≤ x)) (True ∧ True ∧ True ∧ True ∧ True ∧ Sx.Ask (decide (x ≤ (8192 : Int)) = z0)) (True ∧ True ∧ True ∧ Sx.Ask (false = z0))) (by kernel_rfl) ?_
  simp only [ask_iff, br_iff, eq_self, true_and, and_true, implies_true, forall_const, decide_eq_true_eq, decide_eq_false_iff_not, ne_eq, Nat.mul_one, Nat.add_zero, Nat.zero_add]
  refine ⟨fun h => ?_, fun h => ?_⟩
  · rw [decide_eq_true h]; rfl
  · rw [decide_eq_false h]; rfl
/-! Check, of a valid region. -/
def ckInv (g : Rg) : Inv := ⟨Int, fun i => 0 ≤ i ∧ i ≤ g.n, fun i => ⟨[(0, rgS g), (5, rgS g), (6, .int .i64 g.n), (7, .int .i64 i)], []⟩, fun i => (g.n - i).toNat⟩
def spCheckR : FSpec := mkSpec 42 (γ := Rg) (fun | [s] => some ⟨slLen s, rgD s⟩ | _ => none) (fun g => [rgS g]) (fun g => vld g.L ∧ g.n ≤ 4294967296) (fun _ => .int .i64 0)
theorem ok_checkR : SpecOK Try.prog spCheckR := by
  refine spec_sound (specs := [spPermitted, spBorder]) (all_ok (⟨ok_permitted, ok_border, trivial⟩)) (eqs := []) (fun _ _ h => (List.not_mem_nil h).elim) Aff.mixed Try.func42 rfl (by kernel_rfl) (fun _ _ => by kernel_rfl) (fun g => (⟨[(2, .inv (ckInv g))], []⟩ : Ann)) (fun g => Nat.le_of_ble_eq_true (by kernel_rfl)) ?_
  rintro g hg
  refine vc_of (B := let z11 := (↑g.n : Int);let z9 := (ckInv g);let z8 := (1 : Int);let z7 := (0 : Int);let z1 := (IntKind.i64 = IntKind.i64); let z5 := (Sx.Ask z1 ∧ Sx.Ask (z11 = z11));let z0 := (Sx.Ask (g.n = g.n) ∧ ∀ (i : Nat), i < g.n → ((True ∧ Sx.Ask z1 ∧ Sx.Ask ((g.f i).y = (g.f i).y)) ∧ Sx.Ask z1 ∧ Sx.Ask ((g.f i).x0 = (g.f i).x0)) ∧ Sx.Ask z1 ∧ Sx.Ask ((g.f i).x1 = (g.f i).x1));True ∧ True ∧ True ∧ True ∧ (∃ (g_1 : Int), Sx.Ask (z9.pre g_1) ∧ (z0 ∧ z0 ∧ z5 ∧ (Sx.Ask z1 ∧ Sx.Ask (z7 = g_1)) ∧ True) ∧ True) ∧ ∀ (g_1 : Int), let z10 := (g.f (g_1 - z8).toNat); let z6 := (z7 ≤ g_1 - z8 ∧ g_1 - z8 < z11); let z4 := (g.f g_1.toNat); let z3 := ((-9223372036854775808 : Int) ≤ g_1 + z8 ∧ g_1 + z8 ≤ (9223372036854775807 : Int)); let z2 := ((-9223372036854775808 : Int) ≤ g_1 - z8 ∧ g_1 - z8 ≤ (9223372036854775807 : Int)); z9.pre g_1 → True ∧ Sx.Br (decide (g_1 < z11)) (True ∧ Sx.Ask (z7 ≤ g_1 ∧ g_1 < z11) ∧ True ∧ True ∧ True ∧ True ∧ True ∧ True ∧ (((Sx.Ask z1 ∧ Sx.Ask (z4.y = z4.y)) ∧ True) ∧ Sx.Ask True) ∧ True ∧ True ∧ Sx.Br (!(decide ((-8192 : Int) ≤ z4.y) && decide (z4.y < (8192 : Int)))) (True ∧ True ∧ True ∧ True ∧ True ∧ Sx.Ask z1 ∧ Sx.Ask ((3 : Int) = z7)) (True ∧ True ∧ (((Sx.Ask z1 ∧ Sx.Ask (z4.x0 = z4.x0)) ∧ True) ∧ Sx.Ask True) ∧ True ∧ True ∧ True ∧ Sx.Br (!(decide ((-8192 : Int) ≤ z4.x0) && decide (z4.x0 ≤ (8192 : Int)))) (True ∧ True ∧ True ∧ Sx.Ask z1 ∧ Sx.Ask ((3 : Int) = z7)) (True ∧ True ∧ (((Sx.Ask z1 ∧ Sx.Ask (z4.x1 = z4.x1)) ∧ True) ∧ Sx.Ask True) ∧ True ∧ True ∧ Sx.Br (!(decide ((-8192 : Int) ≤ z4.x1) && decide (z4.x1 ≤ (8192 : Int)))) (True ∧ True ∧ Sx.Ask z1 ∧ Sx.Ask ((3 : Int) = z7)) (True ∧ True ∧ True ∧ True ∧ True ∧ Sx.Br (decide (z4.x1 ≤ z4.x0)) (True ∧ True ∧ Sx.Ask z1 ∧ Sx.Ask ((4 : Int) = z7)) (True ∧ True ∧ True ∧ Sx.Br (decide (z7 < g_1)) (True ∧ True ∧ True ∧ True ∧ Sx.Ask z2 ∧ Sx.Ask z6 ∧ True ∧ True ∧ True ∧ True ∧ True ∧ Sx.Br (decide (z4.y ≤ z10.y)) (True ∧ True ∧ True ∧ True ∧ Sx.Ask z2 ∧ Sx.Ask z6 ∧ True ∧ True ∧ True ∧ True ∧ Sx.Br (decide (z4.y < z10.y)) (True ∧ True ∧ True ∧ True ∧ Sx.Ask z1 ∧ Sx.Ask ((18 : Int) = z7)) (True ∧ True ∧ True ∧ True ∧ Sx.Ask z2 ∧ Sx.Ask z6 ∧ True ∧ True ∧ True ∧ True ∧ True ∧ Sx.Br (decide (z4.x0 ≤ z10.x1)) (True ∧ True ∧ Sx.Ask z1 ∧ Sx.Ask ((18 : Int) = z7)) (Sx.Ask z3 ∧ True ∧ ∃ (g' : Int), Sx.Ask (z9.pre g') ∧ ((z0 ∧ z0 ∧ z5 ∧ (Sx.Ask z1 ∧ Sx.Ask (g_1 + z8 = g')) ∧ True) ∧ True) ∧ Sx.Ask (z9.meas g' < z9.meas g_1)))) (True ∧ Sx.Ask z3 ∧ True ∧ ∃ (g' : Int), Sx.Ask (z9.pre g') ∧ ((z0 ∧ z0 ∧ z5 ∧ (Sx.Ask z1 ∧ Sx.Ask (g_1 + z8 = g')) ∧ True) ∧ True) ∧ Sx.Ask (z9.meas g' < z9.meas g_1))) (True ∧ True ∧ True ∧ Sx.Ask z3 ∧ True ∧ ∃ (g' : Int), Sx.Ask (z9.pre g') ∧ ((z0 ∧ z0 ∧ z5 ∧ (Sx.Ask z1 ∧ Sx.Ask (g_1 + z8 = g')) ∧ True) ∧ True) ∧ Sx.Ask (z9.meas g' < z9.meas g_1))))))) (True ∧ True ∧ Sx.Ask z1 ∧ Sx.Ask (z7 = z7))) (by kernel_rfl) ?_
  simp only [ask_iff, br_iff, eq_self, true_and, and_true, implies_true, forall_const, decide_eq_true_eq, decide_eq_false_iff_not, ne_eq, Nat.mul_one, Nat.add_zero, Nat.zero_add]
  obtain ⟨⟨h1, h2⟩, h3⟩ := hg
  have ok : ∀ i, i < g.n → okR (g.f i) := fun i hi => h1 _ (List.mem_map.2 ⟨i, List.mem_range.2 hi, rfl⟩)
  have lt : ∀ i, i + 1 < g.n → ltR (g.f i) (g.f (i + 1)) := fun i hi => by
    have := List.pairwise_iff_getElem.1 h2 i (i + 1) (by rw [Rg.len]; omega) (by rw [Rg.len]; exact hi) (by omega)
    simpa [Rg.L] using this
  refine ⟨⟨0, ⟨Int.le_refl _, Int.natCast_nonneg _⟩, rfl⟩, fun i hi hlt => ?_⟩
  have hi : 0 ≤ i ∧ i ≤ g.n := hi
  obtain ⟨k, rfl⟩ : ∃ k : Nat, i = k := ⟨i.toNat, by omega⟩
  have e1 : ((k : Int)).toNat = k := rfl
  have e2 : ((k : Int) - 1).toNat = k - 1 := by omega
  have hk := ok k (by omega)
  obtain ⟨⟨⟨a1, a2⟩, ⟨b1, b2⟩, c1, c2⟩, d1⟩ := hk
  rw [e1, e2, decide_eq_true a1, decide_eq_true a2, decide_eq_true b1, decide_eq_true b2, decide_eq_true c1, decide_eq_true c2]
  have fin : (-9223372036854775808 ≤ (k : Int) + 1 ∧ (k : Int) + 1 ≤ 9223372036854775807) ∧ ∃ g' : Int, (ckInv g).pre g' ∧ (k : Int) + 1 = g' ∧ (ckInv g).meas g' < (ckInv g).meas (k : Int) := by
    refine ⟨by omega, (k : Int) + 1, ⟨by omega, by omega⟩, rfl, ?_⟩
    show ((g.n : Int) - (k + 1)).toNat < ((g.n : Int) - k).toNat
    omega
  refine ⟨by omega, fun h => absurd h (by decide), fun _ => ⟨fun h => absurd h (by decide), fun _ => ⟨fun h => absurd h (by decide), fun _ => ⟨fun h => absurd h (by omega), fun _ => ⟨fun h0 => ?_, fun _ => fin⟩⟩⟩⟩⟩
  have hl := lt (k - 1) (by omega)
  rw [show k - 1 + 1 = k by omega] at hl
  have q1 : -9223372036854775808 ≤ (k : Int) - 1 ∧ (k : Int) - 1 ≤ 9223372036854775807 := by clear fin; omega
  have q2 : 0 ≤ (k : Int) - 1 ∧ (k : Int) - 1 < (g.n : Int) := by clear fin; omega
  have hl : (g.f (k - 1)).y < (g.f k).y ∨ ((g.f (k - 1)).y = (g.f k).y ∧ (g.f (k - 1)).x1 < (g.f k).x0) := hl
  exact ⟨q1, q2, fun hy => ⟨q1, q2, fun hy2 => absurd hl (by clear fin; omega), fun hy2 => ⟨q1, q2, fun hx => absurd hl (by clear fin; omega), fun _ => fin⟩⟩, fun _ => fin⟩
/-! Add. -/
def addR (L : List Rn) (r : Rn) : List Rn := if r.x0 < r.x1 then (match L.getLast? with
  | some s => if s.y = r.y ∧ r.x0 ≤ s.x1 then L.dropLast ++ [⟨s.y, s.x0, if r.x1 > s.x1 then r.x1 else s.x1⟩] else L ++ [r]
  | none => [r]) else L
theorem rI_app (L : List Rn) (r : Rn) (i : Nat) (h : i < L.length + 1) : rI (L ++ [r]) i = if i < L.length then rI L i else r := by
  unfold rI
  by_cases hi : i < L.length
  · rw [if_pos hi, List.getD_eq_getElem?_getD, List.getElem?_append_left hi, List.getD_eq_getElem?_getD]
  · rw [if_neg hi, show i = L.length by omega]
    simp
theorem rI_last (L : List Rn) (s : Rn) (i : Nat) (h : i < L.length) (h0 : 0 < L.length) : rI (L.dropLast ++ [s]) i = if i = L.length - 1 then s else rI L i := by
  unfold rI
  by_cases hi : i = L.length - 1
  · rw [if_pos hi, hi]
    simp
  · rw [if_neg hi, List.getD_eq_getElem?_getD, List.getElem?_append_left (by rw [List.length_dropLast]; omega), List.getD_eq_getElem?_getD, List.getElem?_dropLast, if_pos (by omega)]
structure AdG where
  n : Nat
  f : Nat → Rn
  r : Rn
def AdG.L (g : AdG) : List Rn := addR (Rg.L ⟨g.n, g.f⟩) g.r
def adD : List SV → List SO → Option AdG
  | [_, .int _ y, .int _ x0, .int _ x1], [_, .row _ n _ g _] => some ⟨n, fun i => rnD (g i), ⟨y, x0, x1⟩⟩
  | _, _ => none
def spAddR : FSpec := mkSpecM 19 [.arg 0, .cell 0 0] adD (fun g => [.own 0 0, .int .i64 g.r.y, .int .i64 g.r.x0, .int .i64 g.r.x1])
  (fun g => [.cells 1 (lst [.osl 1 0]) 55, .row 0 g.n 3 (fun i => lst (rnL (g.f i))) 43]) (fun g => g.n ≤ 4294967296)
  (fun _ => .tup 0 (lst []))
  (fun g => [.cells 1 (lst [.osl 1 1]) 55, .row 1 g.L.length 3 (fun i => lst (rnL (rI g.L i))) 43])
theorem ok_addR : SpecOK Try.prog spAddR := by
  refine spec_soundM (specs := []) (all_ok trivial) (eqs := []) (fun _ _ h => (List.not_mem_nil h).elim) Aff.mixed Try.func19 rfl (by kernel_rfl) (fun _ _ => by kernel_rfl) (fun g => A0) false (fun g => Nat.le_of_ble_eq_true (by kernel_rfl)) ?_
  rintro g hg
  refine vc_of (B := let z11 := (2 : Nat);let z10 := (0 : Nat);let z9 := (1 : Nat);let z7 := (↑g.n : Int);let z5 := (True ∧ True);let z4 := (IntKind.i64 = IntKind.i64);let z3 := (g.n + z9 ≤ (9223372036854775807 : Nat) ∧ (g.n + z9) * (24 : Nat) ≤ (140737488355328 : Nat));let z2 := ((0 : Int) ≤ z7 - (1 : Int) ∧ z7 - (1 : Int) < z7);let z1 := (z7 - (1 : Int)); let z8 := (z1.toNat < g.n); let z6 := (g.f z1.toNat);let z0 := (Sx.Ask (g.n + z9 = g.L.length) ∧ ∀ (i : Nat), i < g.L.length → ((True ∧ Sx.Ask z4 ∧ Sx.Ask ((bif decide (i < g.n) then (g.f i).y else g.r.y) = (rI g.L i).y)) ∧ Sx.Ask z4 ∧ Sx.Ask ((bif decide (i < g.n) then (g.f i).x0 else g.r.x0) = (rI g.L i).x0)) ∧ Sx.Ask z4 ∧ Sx.Ask ((bif decide (i < g.n) then (g.f i).x1 else g.r.x1) = (rI g.L i).x1));True ∧ True ∧ True ∧ Sx.Br (decide (g.r.x1 ≤ g.r.x0)) (True ∧ True ∧ z5 ∧ z5 ∧ (Sx.Ask (g.n = g.L.length) ∧ ∀ (i : Nat), i < g.L.length → ((True ∧ Sx.Ask z4 ∧ Sx.Ask ((g.f i).y = (rI g.L i).y)) ∧ Sx.Ask z4 ∧ Sx.Ask ((g.f i).x0 = (rI g.L i).x0)) ∧ Sx.Ask z4 ∧ Sx.Ask ((g.f i).x1 = (rI g.L i).x1)) ∧ True) (True ∧ True ∧ True ∧ True ∧ True ∧ Sx.Ask ((-9223372036854775808 : Int) ≤ z7 - (1 : Int) ∧ z7 - (1 : Int) ≤ (9223372036854775807 : Int)) ∧ True ∧ True ∧ True ∧ True ∧ Sx.Br (decide ((0 : Int) ≤ z7 - (1 : Int))) (True ∧ True ∧ True ∧ True ∧ True ∧ Sx.Ask z2 ∧ True ∧ Sx.Ask z8 ∧ True ∧ True ∧ True ∧ True ∧ Sx.Br (decide (z6.y = g.r.y)) (True ∧ True ∧ True ∧ True ∧ True ∧ True ∧ Sx.Ask z2 ∧ True ∧ Sx.Ask z8 ∧ True ∧ True ∧ Sx.Br (decide (g.r.x0 ≤ z6.x1)) (True ∧ True ∧ True ∧ True ∧ True ∧ True ∧ True ∧ True ∧ True ∧ True ∧ Sx.Ask z2 ∧ True ∧ Sx.Ask z8 ∧ True ∧ True ∧ Sx.Ask z2 ∧ True ∧ Sx.Ask z8 ∧ True ∧ True ∧ z5 ∧ z5 ∧ (Sx.Ask (g.n = g.L.length) ∧ ∀ (i : Nat), i < g.L.length → ((True ∧ Sx.Ask z4 ∧ Sx.Ask ((bif decide (i = z1.toNat ∧ z10 + z11 ≤ z10 ∧ z10 < z10 + z11 + z9) then if g.r.x1 > z6.x1 then g.r.x1 else z6.x1 else (g.f i).y) = (rI g.L i).y)) ∧ Sx.Ask z4 ∧ Sx.Ask ((bif decide (i = z1.toNat ∧ z10 + z11 ≤ z9 ∧ z9 < z10 + z11 + z9) then if g.r.x1 > z6.x1 then g.r.x1 else z6.x1 else (g.f i).x0) = (rI g.L i).x0)) ∧ Sx.Ask z4 ∧ Sx.Ask ((bif decide (i = z1.toNat ∧ z10 + z11 ≤ z11 ∧ z11 < z10 + z11 + z9) then if g.r.x1 > z6.x1 then g.r.x1 else z6.x1 else (g.f i).x1) = (rI g.L i).x1)) ∧ True) (True ∧ True ∧ True ∧ True ∧ True ∧ True ∧ True ∧ True ∧ True ∧ True ∧ Sx.Ask z3 ∧ True ∧ True ∧ True ∧ True ∧ True ∧ z5 ∧ z5 ∧ z0 ∧ True)) (True ∧ True ∧ True ∧ True ∧ True ∧ True ∧ True ∧ True ∧ True ∧ True ∧ True ∧ Sx.Ask z3 ∧ True ∧ True ∧ True ∧ True ∧ True ∧ z5 ∧ z5 ∧ z0 ∧ True)) (True ∧ True ∧ True ∧ True ∧ True ∧ True ∧ True ∧ True ∧ True ∧ True ∧ True ∧ True ∧ True ∧ Sx.Ask z3 ∧ True ∧ True ∧ True ∧ True ∧ True ∧ z5 ∧ z5 ∧ z0 ∧ True))) (by kernel_rfl) ?_
  simp only [ask_iff, br_iff, eq_self, true_and, and_true, implies_true, forall_const, decide_eq_true_eq, decide_eq_false_iff_not, ne_eq, Nat.mul_one, Nat.add_zero, Nat.zero_add]
  have hlen : (Rg.L ⟨g.n, g.f⟩).length = g.n := Rg.len _
  have hget : ∀ i, i < g.n → rI (Rg.L ⟨g.n, g.f⟩) i = g.f i := fun i hi => Rg.rI (g := ⟨g.n, g.f⟩) hi
  have hL : g.L = addR (Rg.L ⟨g.n, g.f⟩) g.r := rfl
  generalize Rg.L ⟨g.n, g.f⟩ = L at hlen hget hL
  rw [hL]
  have app : ∀ (i : Nat), i < (L ++ [g.r]).length → ((bif decide (i < g.n) then (g.f i).y else g.r.y) = (rI (L ++ [g.r]) i).y ∧ (bif decide (i < g.n) then (g.f i).x0 else g.r.x0) = (rI (L ++ [g.r]) i).x0) ∧ (bif decide (i < g.n) then (g.f i).x1 else g.r.x1) = (rI (L ++ [g.r]) i).x1 := fun i hi => by
    rw [rI_app L g.r i (by simpa using hi), hlen]
    by_cases h : i < g.n
    · rw [decide_eq_true h, if_pos h, hget i h]; exact ⟨⟨rfl, rfl⟩, rfl⟩
    · rw [decide_eq_false h, if_neg h]; exact ⟨⟨rfl, rfl⟩, rfl⟩
  have bnd : g.n + 1 ≤ 9223372036854775807 ∧ (g.n + 1) * 24 ≤ 140737488355328 := by omega
  have e1 : ((g.n : Int) - 1).toNat = g.n - 1 := by omega
  rw [e1]
  refine ⟨fun h => ?_, fun h => ⟨by omega, fun h0 => ?_, fun h0 => ?_⟩⟩
  · have e : addR L g.r = L := if_neg (by omega)
    rw [e]
    exact ⟨hlen.symm, fun i hi => by rw [hget i (by omega)]; exact ⟨⟨rfl, rfl⟩, rfl⟩⟩
  · have hn : 0 < g.n := by omega
    have hlast : L.getLast? = some (g.f (g.n - 1)) := by
      rw [← hget (g.n - 1) (by omega), List.getLast?_eq_getElem?, hlen]
      unfold rI
      rw [List.getD_eq_getElem?_getD, List.getElem?_eq_getElem (show g.n - 1 < L.length by omega)]
      rfl
    have ea : addR L g.r = if (g.f (g.n - 1)).y = g.r.y ∧ g.r.x0 ≤ (g.f (g.n - 1)).x1 then L.dropLast ++ [⟨(g.f (g.n - 1)).y, (g.f (g.n - 1)).x0, if g.r.x1 > (g.f (g.n - 1)).x1 then g.r.x1 else (g.f (g.n - 1)).x1⟩] else L ++ [g.r] := by
      unfold addR
      rw [if_pos (by omega), hlast]
    have q1 : 0 ≤ (g.n : Int) - 1 ∧ (g.n : Int) - 1 < g.n := by omega
    have q2 : g.n - 1 < g.n := by omega
    refine ⟨q1, q2, fun hy => ⟨q1, q2, fun hx => ⟨q1, q2, q1, q2, ?_⟩, fun hx => ⟨bnd, ?_⟩⟩, fun hy => ⟨bnd, ?_⟩⟩
    · rw [ea, if_pos ⟨hy, hx⟩]
      refine ⟨by rw [List.length_append, List.length_dropLast, List.length_singleton]; omega, fun i hi => ?_⟩
      rw [rI_last L _ i (by rw [List.length_append, List.length_dropLast, List.length_singleton] at hi; omega) (by omega), hlen]
      by_cases h : i = g.n - 1
      · rw [decide_eq_false (by omega), decide_eq_false (by omega), decide_eq_true ⟨h, by omega⟩, if_pos h, h]
        exact ⟨⟨rfl, rfl⟩, rfl⟩
      · rw [decide_eq_false (by omega), decide_eq_false (by omega), decide_eq_false (by omega), if_neg h, hget i (by rw [List.length_append, List.length_dropLast, List.length_singleton] at hi; omega)]
        exact ⟨⟨rfl, rfl⟩, rfl⟩
    · rw [ea, if_neg (fun h => hx h.2)]
      exact ⟨by simp [hlen], app⟩
    · rw [ea, if_neg (fun h => hy h.1)]
      exact ⟨by simp [hlen], app⟩
  · have hn : g.n = 0 := by omega
    have eL : L = [] := List.length_eq_zero_iff.1 (by omega)
    have ea : addR L g.r = L ++ [g.r] := by
      unfold addR
      rw [if_pos (by omega), eL]
      rfl
    rw [ea]
    exact ⟨bnd, by simp [hlen], app⟩
/-! cmp.Or of two numbers. -/
def orI (a b : Int) : Int := if a = 0 then b else a
def spOr : FSpec := mkSpec 59 (γ := Nat → Int) (fun | [.sl _ _ f] => some (fun i => intOf (f i 0)) | _ => none) (fun f => [.sl 2 1 (fun i => lst [.int .i64 (f i)])]) (fun _ => True) (fun f => .int .i64 (orI (f 0) (f 1)))
theorem ok_or : SpecOK Try.prog spOr := by
  refine spec_sound (specs := []) (all_ok trivial) (eqs := []) (fun _ _ h => (List.not_mem_nil h).elim) Aff.mixed Try.func59 rfl (by kernel_rfl) (fun _ _ => by kernel_rfl) (fun g => (⟨[(3, .rounds 3)], []⟩ : Ann)) (fun g => Nat.le_of_ble_eq_true (by kernel_rfl)) ?_
  rintro g hg
  refine vc_of (B := let z2 := (1 : Int);let z1 := (IntKind.i64 = IntKind.i64);let z0 := (0 : Int);True ∧ True ∧ True ∧ True ∧ True ∧ True ∧ Sx.Ask (z0 ≤ z0 ∧ z0 < (↑(2 : Nat) : Int)) ∧ True ∧ True ∧ True ∧ True ∧ True ∧ Sx.Br (decide (g (Int.toNat z0) ≠ z0)) (True ∧ True ∧ True ∧ Sx.Ask z1 ∧ Sx.Ask (g (Int.toNat z0) = orI (g (0 : Nat)) (g (1 : Nat)))) (Sx.Ask ((-9223372036854775808 : Int) ≤ z0 + z2 ∧ z0 + z2 ≤ (9223372036854775807 : Int)) ∧ True ∧ True ∧ Sx.Ask (z0 ≤ z0 + z2 ∧ z0 + z2 < (↑(2 : Nat) : Int)) ∧ True ∧ True ∧ True ∧ True ∧ True ∧ Sx.Br (decide (g (z0 + z2).toNat ≠ z0)) (True ∧ True ∧ True ∧ Sx.Ask z1 ∧ Sx.Ask (g (z0 + z2).toNat = orI (g (0 : Nat)) (g (1 : Nat)))) (Sx.Ask ((-9223372036854775808 : Int) ≤ z0 + z2 + z2 ∧ z0 + z2 + z2 ≤ (9223372036854775807 : Int)) ∧ True ∧ True ∧ True ∧ True ∧ True ∧ Sx.Ask z1 ∧ Sx.Ask (z0 = orI (g (0 : Nat)) (g (1 : Nat)))))) (by kernel_rfl) ?_
  simp only [ask_iff, br_iff, eq_self, true_and, and_true, implies_true, forall_const, decide_eq_true_eq, decide_eq_false_iff_not, ne_eq, Nat.mul_one, Nat.add_zero, Nat.zero_add]
  refine ⟨by decide, fun h => ?_, fun h => ⟨by decide, by decide, fun h2 => ?_, fun h2 => ⟨by decide, ?_⟩⟩⟩
  · unfold orI; exact (if_neg h).symm
  · have h' : g 0 = 0 := Classical.not_not.1 h
    unfold orI; exact (if_pos h').symm
  · have h' : g 0 = 0 := Classical.not_not.1 h
    have h3 : g 1 = 0 := Classical.not_not.1 h2
    unfold orI; rw [if_pos h', h3]
/-! edges. -/
structure Eg where
  y : Int
  x : Int
  who : Int
def egL (e : Eg) : List SV := [.int .i64 e.y, .int .i64 e.x, .int .i64 e.who]
def egD (g : Nat → SV) : Eg := ⟨intOf (g 0), intOf (g 1), intOf (g 2)⟩
structure EsG where
  g : Rg
  w : Int
/-- Edge k. -/
def eX (f : Nat → Rn) (k : Nat) : Int := if k % 2 = 0 then (f (k / 2)).x0 else (f (k / 2)).x1
def eAt (f : Nat → Rn) (w : Int) (k : Nat) : Eg := ⟨(f (k / 2)).y, eX f k, w⟩
def esInv (g : EsG) : Inv := ⟨Int, fun i => 0 ≤ i ∧ i ≤ g.g.n, fun i => ⟨[(1, .int .i64 g.w), (5, .osl 0 0), (12, rgS g.g), (13, .int .i64 g.g.n), (14, .int .i64 i)], [.row 0 (2 * i.toNat) 3 (fun k => lst [.int .i64 (g.g.f (k / 2)).y, .int .i64 (eX g.g.f k), .int .i64 g.w]) 139]⟩, fun i => (g.g.n - i).toNat⟩
def spEdges : FSpec := mkSpec 77 (γ := EsG) (fun | [s, .int _ w] => some ⟨⟨slLen s, rgD s⟩, w⟩ | _ => none) (fun g => [rgS g.g, .int .i64 g.w]) (fun g => g.g.n ≤ 4294967296) (fun g => .sl (2 * g.g.n) 3 (fun k => lst [.int .i64 (g.g.f (k / 2)).y, .int .i64 (eX g.g.f k), .int .i64 g.w]))
theorem ok_edges : SpecOK Try.prog spEdges := by
  refine spec_sound (specs := []) (all_ok trivial) (eqs := []) (fun _ _ h => (List.not_mem_nil h).elim) Aff.mixed Try.func77 rfl (by kernel_rfl) (fun _ _ => by kernel_rfl) (fun g => (⟨[(3, .inv (esInv g))], []⟩ : Ann)) (fun g => Nat.le_of_ble_eq_true (by kernel_rfl)) ?_
  rintro g hg
  refine vc_of (B := let z6 := (0 : Int);let z5 := (9223372036854775807 : Int);let z3 := (↑g.g.n : Int);let z2 := (2 : Nat);let z0 := (IntKind.i64 = IntKind.i64); let z1 := (Sx.Ask (g.g.n = g.g.n) ∧ ∀ (i : Nat), i < g.g.n → ((True ∧ Sx.Ask z0 ∧ Sx.Ask ((g.g.f i).y = (g.g.f i).y)) ∧ Sx.Ask z0 ∧ Sx.Ask ((g.g.f i).x0 = (g.g.f i).x0)) ∧ Sx.Ask z0 ∧ Sx.Ask ((g.g.f i).x1 = (g.g.f i).x1));True ∧ True ∧ True ∧ Sx.Ask ((-9223372036854775808 : Int) ≤ (2 : Int) * z3 ∧ (2 : Int) * z3 ≤ z5) ∧ Sx.Ask (z6 ≤ z6 ∧ z6 ≤ (2 : Int) * z3 ∧ (↑(24 : Nat) : Int) * ((2 : Int) * z3) ≤ (140737488355328 : Int) ∧ (2 : Int) * z3 ≤ z5) ∧ True ∧ True ∧ True ∧ True ∧ (∃ (g_1 : Int), Sx.Ask ((esInv g).pre g_1) ∧ ((Sx.Ask z0 ∧ Sx.Ask (g.w = g.w)) ∧ True ∧ z1 ∧ (Sx.Ask z0 ∧ Sx.Ask (z3 = z3)) ∧ (Sx.Ask z0 ∧ Sx.Ask (z6 = g_1)) ∧ True) ∧ (Sx.Ask (Int.toNat z6 = z2 * g_1.toNat) ∧ ∀ (i : Nat), i < z2 * g_1.toNat → ((True ∧ Sx.Ask z0 ∧ Sx.Ask (z6 = (g.g.f (i / z2)).y)) ∧ Sx.Ask z0 ∧ Sx.Ask (z6 = eX g.g.f i)) ∧ Sx.Ask z0 ∧ Sx.Ask (z6 = g.w)) ∧ True) ∧ ∀ (g_1 : Int), let z7 := (g.g.f g_1.toNat); (esInv g).pre g_1 → True ∧ Sx.Br (decide (g_1 < z3)) (Sx.Ask (z6 ≤ g_1 ∧ g_1 < z3) ∧ True ∧ True ∧ True ∧ True ∧ True ∧ True ∧ True ∧ True ∧ True ∧ True ∧ True ∧ True ∧ True ∧ True ∧ True ∧ True ∧ True ∧ Sx.Ask (z2 * g_1.toNat + z2 ≤ (9223372036854775807 : Nat) ∧ (z2 * g_1.toNat + z2) * (24 : Nat) ≤ (140737488355328 : Nat)) ∧ True ∧ Sx.Ask ((-9223372036854775808 : Int) ≤ g_1 + (1 : Int) ∧ g_1 + (1 : Int) ≤ z5) ∧ True ∧ ∃ (g' : Int), Sx.Ask ((esInv g).pre g') ∧ (((Sx.Ask z0 ∧ Sx.Ask (g.w = g.w)) ∧ True ∧ z1 ∧ (Sx.Ask z0 ∧ Sx.Ask (z3 = z3)) ∧ (Sx.Ask z0 ∧ Sx.Ask (g_1 + (1 : Int) = g')) ∧ True) ∧ (Sx.Ask (z2 * g_1.toNat + z2 = z2 * g'.toNat) ∧ ∀ (i : Nat), let z8 := (i < z2 * g_1.toNat); let z4 := (i - z2 * g_1.toNat = (1 : Nat)); i < z2 * g'.toNat → ((True ∧ Sx.Ask z0 ∧ Sx.Ask ((bif decide z8 then (g.g.f (i / z2)).y else bif decide z4 then z7.y else z7.y) = (g.g.f (i / z2)).y)) ∧ Sx.Ask z0 ∧ Sx.Ask ((bif decide z8 then eX g.g.f i else bif decide z4 then z7.x1 else z7.x0) = eX g.g.f i)) ∧ Sx.Ask z0 ∧ Sx.Ask ((bif decide z8 then g.w else bif decide z4 then g.w else g.w) = g.w)) ∧ True) ∧ Sx.Ask ((esInv g).meas g' < (esInv g).meas g_1)) (True ∧ True ∧ True ∧ Sx.Ask (z2 * g_1.toNat = z2 * g.g.n) ∧ ∀ (i : Nat), i < z2 * g.g.n → ((True ∧ Sx.Ask z0 ∧ Sx.Ask ((g.g.f (i / z2)).y = (g.g.f (i / z2)).y)) ∧ Sx.Ask z0 ∧ Sx.Ask (eX g.g.f i = eX g.g.f i)) ∧ Sx.Ask z0 ∧ Sx.Ask (g.w = g.w))) (by kernel_rfl) ?_
  simp only [ask_iff, br_iff, eq_self, true_and, and_true, implies_true, forall_const, decide_eq_true_eq, decide_eq_false_iff_not, ne_eq, Nat.mul_one, Nat.add_zero, Nat.zero_add]
  have z0 : Int.toNat 0 = 0 := rfl
  refine ⟨by omega, by omega, ⟨0, ⟨Int.le_refl _, Int.natCast_nonneg _⟩, rfl, rfl, fun i hi => absurd hi (by omega)⟩, fun i hi => ?_⟩
  have hi : 0 ≤ i ∧ i ≤ g.g.n := hi
  refine ⟨fun hlt => ⟨⟨hi.1, hlt⟩, by omega, by omega, i + 1, ⟨by omega, by omega⟩, ⟨rfl, by omega, fun k hk => ?_⟩, ?_⟩, fun hge => by omega⟩
  · have hk : k < 2 * (i + 1).toNat := hk
    by_cases h : k < 2 * i.toNat
    · rw [decide_eq_true h]; exact ⟨⟨rfl, rfl⟩, rfl⟩
    · rw [decide_eq_false h]
      have e : k / 2 = i.toNat := by omega
      by_cases h1 : k - 2 * i.toNat = 1
      · rw [decide_eq_true h1]
        refine ⟨⟨by rw [e]; rfl, ?_⟩, rfl⟩
        unfold eX
        rw [if_neg (by omega), e]
        rfl
      · rw [decide_eq_false h1]
        refine ⟨⟨by rw [e]; rfl, ?_⟩, rfl⟩
        unfold eX
        rw [if_pos (by omega), e]
        rfl
  · show ((g.g.n : Int) - (i + 1)).toNat < ((g.g.n : Int) - i).toNat
    omega
end Go.Proofs.Ytbkgncikjhibiaa.Rga
