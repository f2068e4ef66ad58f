/- Package fill: comparisons, slices.insertionSortCmpFunc, IndexFunc, DeleteFunc of edges, by the evaluation. -/
import Derived.Test.YtfjbjbmbdadmhaaFla
set_option linter.unusedSimpArgs false
set_option linter.unusedVariables false
namespace Go.Proofs.Ytfjbjbmbdadmhaa.Flb
open Go.RowKit Sx Num Aff Con Fla
set_option maxRecDepth 100000
def spNaN : FSpec := mkSpec 125 (γ := Int) (fun | [.int _ x] => some x | _ => none) (fun x => [.int .i64 x]) (fun _ => True) (fun _ => .lit false)
theorem ok_nan : SpecOK Try.prog spNaN := by
  refine spec_sound (specs := []) (all_ok trivial) (eqs := []) (fun _ _ h => (List.not_mem_nil h).elim) Aff.mixed Try.func125 rfl (by kernel_rfl) (fun _ _ => by kernel_rfl) (fun g => A0) (fun g => Nat.le_of_ble_eq_true (by kernel_rfl)) ?_
  rintro x hx
  refine vc_of (B := True ∧ True ∧ True ∧ True ∧ True ∧ True ∧ Sx.Ask (decide (x ≠ x) = false)) (by kernel_rfl) ?_
  simp only [ask_iff, br_iff, eq_self, true_and, and_true, implies_true, forall_const, decide_eq_true_eq, decide_eq_false_iff_not, ne_eq, Nat.mul_one, Nat.add_zero, Nat.zero_add, Int.toNat_natCast, and_self, List.append_assoc, false_and, and_false]
  simp
def cmpI (x y : Int) : Int := if x < y then -1 else if y < x then 1 else 0
def spCmp : FSpec := mkSpec 101 (γ := Int × Int) (fun | [.int _ x, .int _ y] => some (x, y) | _ => none) (fun g => [.int .i64 g.1, .int .i64 g.2]) (fun _ => True) (fun g => .int .i64 (cmpI g.1 g.2))
theorem ok_cmp : SpecOK Try.prog spCmp := by
  refine spec_sound (specs := [spNaN]) (all_ok (⟨ok_nan, trivial⟩)) (eqs := []) (fun _ _ h => (List.not_mem_nil h).elim) Aff.mixed Try.func101 rfl (by kernel_rfl) (fun _ _ => by kernel_rfl) (fun g => A0) (fun g => Nat.le_of_ble_eq_true (by kernel_rfl)) ?_
  rintro ⟨x, y⟩ hx
  refine vc_of (B := let z0 := (IntKind.i64 = IntKind.i64);True ∧ True ∧ (((Sx.Ask z0 ∧ Sx.Ask (x = x)) ∧ True) ∧ Sx.Ask True) ∧ True ∧ True ∧ (((Sx.Ask z0 ∧ Sx.Ask (y = y)) ∧ True) ∧ Sx.Ask True) ∧ True ∧ True ∧ True ∧ True ∧ True ∧ True ∧ Sx.Br (decide (x < y)) (True ∧ True ∧ Sx.Ask z0 ∧ Sx.Ask ((-1 : Int) = cmpI x y)) (True ∧ True ∧ True ∧ Sx.Br (decide (y < x)) (True ∧ True ∧ Sx.Ask z0 ∧ Sx.Ask ((1 : Int) = cmpI x y)) (True ∧ True ∧ Sx.Ask z0 ∧ Sx.Ask ((0 : Int) = cmpI x y)))) (by kernel_rfl) ?_
  simp only [ask_iff, br_iff, eq_self, true_and, and_true, implies_true, forall_const, decide_eq_true_eq, decide_eq_false_iff_not, ne_eq, Nat.mul_one, Nat.add_zero, Nat.zero_add, Int.toNat_natCast, and_self, List.append_assoc, false_and, and_false]
  refine ⟨fun h => ?_, fun h => ⟨fun h2 => ?_, fun h2 => ?_⟩⟩
  · show _ = cmpI x y
    unfold cmpI; rw [if_pos h]
  · show _ = cmpI x y
    unfold cmpI; rw [if_neg h, if_pos h2]
  · show _ = cmpI x y
    unfold cmpI; rw [if_neg h, if_neg h2]
def spCmpE : FSpec := mkSpec 100 (γ := Ed × Ed) (fun | [.agg _ x, .agg _ y] => some (edD x, edD y) | _ => none) (fun g => [edS g.1, edS g.2]) (fun _ => True) (fun g => .int .i64 (cmpI g.1.y g.2.y))
theorem ok_cmpE : SpecOK Try.prog spCmpE := by
  refine spec_sound (specs := [spCmp]) (all_ok (⟨ok_cmp, trivial⟩)) (eqs := []) (fun _ _ h => (List.not_mem_nil h).elim) Aff.mixed Try.func100 rfl (by kernel_rfl) (fun _ _ => by kernel_rfl) (fun g => A0) (fun g => Nat.le_of_ble_eq_true (by kernel_rfl)) ?_
  rintro ⟨x, y⟩ hx
  refine vc_of (B := let z0 := (IntKind.i64 = IntKind.i64);True ∧ True ∧ True ∧ True ∧ True ∧ True ∧ True ∧ (((Sx.Ask z0 ∧ Sx.Ask (x.y = x.y)) ∧ (Sx.Ask z0 ∧ Sx.Ask (y.y = y.y)) ∧ True) ∧ Sx.Ask True) ∧ True ∧ True ∧ Sx.Ask z0 ∧ Sx.Ask (cmpI x.y y.y = cmpI x.y y.y)) (by kernel_rfl) ?_
  simp only [ask_iff, br_iff, eq_self, true_and, and_true, implies_true, forall_const, decide_eq_true_eq, decide_eq_false_iff_not, ne_eq, Nat.mul_one, Nat.add_zero, Nat.zero_add, Int.toNat_natCast, and_self, List.append_assoc, false_and, and_false]
theorem cmp_neg {x y : Int} : cmpI x y < 0 ↔ x < y := by
  unfold cmpI
  split <;> (try split) <;> omega
/-! The insertion sort. -/
theorem upd1 {p : Prop} [Decidable p] {r e f : Ed} (h : f = if p then r else e) : ((((((bif decide p then r.x else e.x) = f.x ∧ (bif decide p then r.y else e.y) = f.y) ∧ (bif decide p then r.en else e.en) = f.en) ∧ (bif decide p then r.dx else e.dx) = f.dx) ∧ (bif decide p then r.dy else e.dy) = f.dy) ∧ (bif decide p then r.s else e.s) = f.s) := by
  rw [h]
  by_cases hp : p
  · simp [hp]
  · simp [hp]
theorem upd1v {p0 p1 p2 p3 p4 p5 : Prop} [Decidable p0] [Decidable p1] [Decidable p2] [Decidable p3] [Decidable p4] [Decidable p5] {r e f : Ed} {p : Prop} [Decidable p]
    (h : f = if p then r else e) (hp : (p0 ↔ p) ∧ (p1 ↔ p) ∧ (p2 ↔ p) ∧ (p3 ↔ p) ∧ (p4 ↔ p) ∧ (p5 ↔ p)) :
    ((((((bif decide p0 then r.x else e.x) = f.x ∧ (bif decide p1 then r.y else e.y) = f.y) ∧ (bif decide p2 then r.en else e.en) = f.en) ∧
    (bif decide p3 then r.dx else e.dx) = f.dx) ∧ (bif decide p4 then r.dy else e.dy) = f.dy) ∧ (bif decide p5 then r.s else e.s) = f.s) := by
  obtain ⟨a0, a1, a2, a3, a4, a5⟩ := hp
  rw [h]
  simp only [a0, a1, a2, a3, a4, a5]
  by_cases hp : p
  · simp [hp]
  · simp [hp]
theorem upd2 {p0 p1 p2 p3 p4 p5 q0 q1 q2 q3 q4 q5 : Prop} [Decidable p0] [Decidable p1] [Decidable p2] [Decidable p3] [Decidable p4] [Decidable p5] [Decidable q0] [Decidable q1] [Decidable q2] [Decidable q3] [Decidable q4] [Decidable q5] {r t e f : Ed} {p q : Prop} [Decidable p] [Decidable q]
    (h : f = if p then r else if q then t else e) (hp : (p0 ↔ p) ∧ (p1 ↔ p) ∧ (p2 ↔ p) ∧ (p3 ↔ p) ∧ (p4 ↔ p) ∧ (p5 ↔ p)) (hq : (q0 ↔ q) ∧ (q1 ↔ q) ∧ (q2 ↔ q) ∧ (q3 ↔ q) ∧ (q4 ↔ q) ∧ (q5 ↔ q)) :
    ((((((bif decide p0 then r.x else bif decide q0 then t.x else e.x) = f.x ∧ (bif decide p1 then r.y else bif decide q1 then t.y else e.y) = f.y) ∧ (bif decide p2 then r.en else bif decide q2 then t.en else e.en) = f.en) ∧
    (bif decide p3 then r.dx else bif decide q3 then t.dx else e.dx) = f.dx) ∧ (bif decide p4 then r.dy else bif decide q4 then t.dy else e.dy) = f.dy) ∧ (bif decide p5 then r.s else bif decide q5 then t.s else e.s) = f.s) := by
  obtain ⟨a0, a1, a2, a3, a4, a5⟩ := hp
  obtain ⟨b0, b1, b2, b3, b4, b5⟩ := hq
  rw [h]
  simp only [a0, a1, a2, a3, a4, a5, b0, b1, b2, b3, b4, b5]
  by_cases hp : p
  · simp [hp]
  · by_cases hq : q
    · simp [hp, hq]
    · simp [hp, hq]
def swp (f : Nat → Ed) (j : Nat) (k : Nat) : Ed := if k = j then f (j - 1) else if k = j - 1 then f j else f k
def bub (a : Nat) (f : Nat → Ed) : Nat → Nat → Ed
  | 0 => f
  | j + 1 => if a < j + 1 ∧ (f (j + 1)).y < (f j).y then bub a (swp f (j + 1)) j else f
def insF (a : Nat) (f : Nat → Ed) : Nat → Nat → Ed
  | 0 => f
  | k + 1 => bub a (insF a f k) (a + k + 1)
structure InG where
  n : Nat
  f : Nat → Ed
  a : Nat
  b : Nat
def inD : List SV → List SO → Option InG
  | [_, .int _ a, .int _ b, _], [.row _ n _ g _] => some ⟨n, fun i => edD (g i), a.toNat, b.toNat⟩
  | _, _ => none
def cmpS : SV := .fn 100 0 (lst [])
def insOut (g : InG) : Inv := ⟨Nat, fun i => g.a + 1 ≤ i ∧ (i ≤ g.b ∨ i = g.a + 1), fun i => ⟨[(0, .osl 0 0), (1, .int .i64 g.a), (2, .int .i64 g.b), (3, cmpS), (8, .int .i64 i)], [edRow 0 g.n (insF g.a g.f (i - g.a - 1))]⟩, fun i => g.b - i⟩
def insIn (g : InG) (i : Nat) : Inv := ⟨(Nat → Ed) × Nat, fun h => g.a ≤ h.2 ∧ h.2 ≤ i ∧ bub g.a h.1 h.2 = insF g.a g.f (i - g.a), fun h => ⟨[(0, .osl 0 0), (1, .int .i64 g.a), (2, .int .i64 g.b), (3, cmpS), (8, .int .i64 i), (9, .int .i64 h.2)], [edRow 0 g.n h.1]⟩, fun h => h.2⟩
def spIns : FSpec := mkSpecM 135 [.arg 0] inD (fun g => [.osl 0 0, .int .i64 g.a, .int .i64 g.b, cmpS]) (fun g => [edRow 0 g.n g.f]) (fun g => (g.a ≤ g.b ∧ g.b ≤ g.n) ∧ g.n ≤ 4294967296) (fun _ => .tup 0 (lst [])) (fun g => [edRow 0 g.n (insF g.a g.f (g.b - g.a - 1))])
theorem ok_ins : SpecOK Try.prog spIns := by
  refine spec_soundM (specs := [spCmpE]) (all_ok (⟨ok_cmpE, trivial⟩)) (eqs := []) (fun _ _ h => (List.not_mem_nil h).elim) Aff.mixed Try.func135 rfl (by kernel_rfl) (fun _ _ => by kernel_rfl) (fun g => (⟨[(1, .nest (insOut g) (fun i => [(4, .inv (insIn g i))]))], []⟩ : Ann)) true (fun g => Nat.le_of_ble_eq_true (by kernel_rfl)) ?_
  rintro g hg
  refine vc_of (B := let z29 := (g.n = g.n);let z27 := (1 : Nat);let z26 := (↑g.a : Int);let z25 := (insOut g);let z24 := (9223372036854775807 : Int);let z23 := (-9223372036854775808 : Int);let z21 := (6 : Nat);let z14 := (0 : Nat);let z13 := (1 : Int);let z6 := (Sx.Ask ((100 : Go.FuncId) = (100 : Go.FuncId)) ∧ True);let z0 := (IntKind.i64 = IntKind.i64); let z8 := (Sx.Ask z0 ∧ Sx.Ask ((↑g.b : Int) = (↑g.b : Int))); let z7 := (Sx.Ask z0 ∧ Sx.Ask (z26 = z26));True ∧ Sx.Ask (z23 ≤ z26 + z13 ∧ z26 + z13 ≤ z24) ∧ True ∧ (∃ (g_1 : Nat), Sx.Ask (z25.pre g_1) ∧ True ∧ (True ∧ z7 ∧ z8 ∧ z6 ∧ (Sx.Ask z0 ∧ Sx.Ask (z26 + z13 = (↑g_1 : Int))) ∧ True) ∧ (Sx.Ask z29 ∧ ∀ (i : Nat), let z9 := (insF g.a g.f (g_1 - g.a - z27) i); i < g.n → (((((True ∧ Sx.Ask z0 ∧ Sx.Ask ((g.f i).x = z9.x)) ∧ Sx.Ask z0 ∧ Sx.Ask ((g.f i).y = z9.y)) ∧ Sx.Ask z0 ∧ Sx.Ask ((g.f i).en = z9.en)) ∧ Sx.Ask z0 ∧ Sx.Ask ((g.f i).dx = z9.dx)) ∧ Sx.Ask z0 ∧ Sx.Ask ((g.f i).dy = z9.dy)) ∧ Sx.Ask z0 ∧ Sx.Ask ((g.f i).s = z9.s)) ∧ True) ∧ ∀ (g_1 : Nat), let z28 := (insIn g g_1); let z19 := (↑g_1 : Int); let z15 := (z23 ≤ z19 + z13 ∧ z19 + z13 ≤ z24); let z5 := (g_1 - g.a - z27); z25.pre g_1 → True ∧ True ∧ True ∧ Sx.Br (decide (z19 < (↑g.b : Int))) (True ∧ True ∧ (∃ (g_2 : (Nat → Fla.Ed) × Nat), Sx.Ask (z28.pre g_2) ∧ True ∧ (True ∧ z7 ∧ z8 ∧ z6 ∧ (Sx.Ask z0 ∧ Sx.Ask (z19 = z19)) ∧ (Sx.Ask z0 ∧ Sx.Ask (z19 = (↑g_2.snd : Int))) ∧ True) ∧ (Sx.Ask z29 ∧ ∀ (i : Nat), let z30 := (g_2.fst i); let z17 := (insF g.a g.f z5 i); i < g.n → (((((True ∧ Sx.Ask z0 ∧ Sx.Ask (z17.x = z30.x)) ∧ Sx.Ask z0 ∧ Sx.Ask (z17.y = z30.y)) ∧ Sx.Ask z0 ∧ Sx.Ask (z17.en = z30.en)) ∧ Sx.Ask z0 ∧ Sx.Ask (z17.dx = z30.dx)) ∧ Sx.Ask z0 ∧ Sx.Ask (z17.dy = z30.dy)) ∧ Sx.Ask z0 ∧ Sx.Ask (z17.s = z30.s)) ∧ True) ∧ ∀ (g_2 : (Nat → Fla.Ed) × Nat), let z1 := (↑g_2.snd : Int); let z22 := (z1 - z13); let z20 := ((0 : Int) ≤ z1 ∧ z1 < (↑g.n : Int)); let z16 := ((0 : Int) ≤ z1 - z13 ∧ z1 - z13 < (↑g.n : Int)); let z4 := (g_2.fst z1.toNat); let z3 := (z23 ≤ z1 - z13 ∧ z1 - z13 ≤ z24); let z2 := (g_2.fst z22.toNat); z28.pre g_2 → True ∧ True ∧ True ∧ True ∧ Sx.Br (decide (z26 < z1)) (True ∧ True ∧ True ∧ Sx.Ask z20 ∧ Sx.Ask (z1.toNat < g.n) ∧ True ∧ True ∧ Sx.Ask z3 ∧ Sx.Ask z16 ∧ Sx.Ask (z22.toNat < g.n) ∧ ((((((((True ∧ Sx.Ask z0 ∧ Sx.Ask (z4.x = z4.x)) ∧ Sx.Ask z0 ∧ Sx.Ask (z4.y = z4.y)) ∧ Sx.Ask z0 ∧ Sx.Ask (z4.en = z4.en)) ∧ Sx.Ask z0 ∧ Sx.Ask (z4.dx = z4.dx)) ∧ Sx.Ask z0 ∧ Sx.Ask (z4.dy = z4.dy)) ∧ Sx.Ask z0 ∧ Sx.Ask (z4.s = z4.s)) ∧ ((((((True ∧ Sx.Ask z0 ∧ Sx.Ask (z2.x = z2.x)) ∧ Sx.Ask z0 ∧ Sx.Ask (z2.y = z2.y)) ∧ Sx.Ask z0 ∧ Sx.Ask (z2.en = z2.en)) ∧ Sx.Ask z0 ∧ Sx.Ask (z2.dx = z2.dx)) ∧ Sx.Ask z0 ∧ Sx.Ask (z2.dy = z2.dy)) ∧ Sx.Ask z0 ∧ Sx.Ask (z2.s = z2.s)) ∧ True) ∧ Sx.Ask True) ∧ True ∧ True ∧ Sx.Br (decide (cmpI z4.y z2.y < (0 : Int))) (True ∧ True ∧ True ∧ True ∧ Sx.Ask z3 ∧ True ∧ True ∧ Sx.Ask z3 ∧ Sx.Ask z16 ∧ Sx.Ask (z22.toNat < g.n) ∧ True ∧ True ∧ Sx.Ask z20 ∧ Sx.Ask (z1.toNat < g.n) ∧ Sx.Ask z20 ∧ Sx.Ask (z1.toNat < g.n) ∧ Sx.Ask z16 ∧ Sx.Ask (z22.toNat < g.n) ∧ True ∧ Sx.Ask z3 ∧ True ∧ ∃ (g' : (Nat → Fla.Ed) × Nat), Sx.Ask (z28.pre g') ∧ True ∧ ((True ∧ z7 ∧ z8 ∧ z6 ∧ (Sx.Ask z0 ∧ Sx.Ask (z19 = z19)) ∧ (Sx.Ask z0 ∧ Sx.Ask (z1 - z13 = (↑g'.snd : Int))) ∧ True) ∧ (Sx.Ask z29 ∧ ∀ (i : Nat), let z31 := (g_2.fst i); i < g.n → (((((True ∧ Sx.Ask z0 ∧ Sx.Ask ((bif decide (i = z22.toNat ∧ z14 ≤ z14 ∧ z14 < z14 + z21) then z4.x else bif decide (i = z1.toNat ∧ z14 ≤ z14 ∧ z14 < z14 + z21) then z2.x else z31.x) = (g'.fst i).x)) ∧ Sx.Ask z0 ∧ Sx.Ask ((bif decide (i = z22.toNat ∧ z14 ≤ z27 ∧ z27 < z14 + z21) then z4.y else bif decide (i = z1.toNat ∧ z14 ≤ z27 ∧ z27 < z14 + z21) then z2.y else z31.y) = (g'.fst i).y)) ∧ Sx.Ask z0 ∧ Sx.Ask ((bif decide (i = z22.toNat ∧ z14 ≤ (2 : Nat) ∧ (2 : Nat) < z14 + z21) then z4.en else bif decide (i = z1.toNat ∧ z14 ≤ (2 : Nat) ∧ (2 : Nat) < z14 + z21) then z2.en else z31.en) = (g'.fst i).en)) ∧ Sx.Ask z0 ∧ Sx.Ask ((bif decide (i = z22.toNat ∧ z14 ≤ (3 : Nat) ∧ (3 : Nat) < z14 + z21) then z4.dx else bif decide (i = z1.toNat ∧ z14 ≤ (3 : Nat) ∧ (3 : Nat) < z14 + z21) then z2.dx else z31.dx) = (g'.fst i).dx)) ∧ Sx.Ask z0 ∧ Sx.Ask ((bif decide (i = z22.toNat ∧ z14 ≤ (4 : Nat) ∧ (4 : Nat) < z14 + z21) then z4.dy else bif decide (i = z1.toNat ∧ z14 ≤ (4 : Nat) ∧ (4 : Nat) < z14 + z21) then z2.dy else z31.dy) = (g'.fst i).dy)) ∧ Sx.Ask z0 ∧ Sx.Ask ((bif decide (i = z22.toNat ∧ z14 ≤ (5 : Nat) ∧ (5 : Nat) < z14 + z21) then z4.s else bif decide (i = z1.toNat ∧ z14 ≤ (5 : Nat) ∧ (5 : Nat) < z14 + z21) then z2.s else z31.s) = (g'.fst i).s)) ∧ True) ∧ Sx.Ask (z28.meas g' < z28.meas g_2)) (True ∧ Sx.Ask z15 ∧ True ∧ ∃ (g' : Nat), Sx.Ask (z25.pre g') ∧ True ∧ ((True ∧ z7 ∧ z8 ∧ z6 ∧ (Sx.Ask z0 ∧ Sx.Ask (z19 + z13 = (↑g' : Int))) ∧ True) ∧ (Sx.Ask z29 ∧ ∀ (i : Nat), let z32 := (g_2.fst i); let z11 := (insF g.a g.f (g' - g.a - z27) i); i < g.n → (((((True ∧ Sx.Ask z0 ∧ Sx.Ask (z32.x = z11.x)) ∧ Sx.Ask z0 ∧ Sx.Ask (z32.y = z11.y)) ∧ Sx.Ask z0 ∧ Sx.Ask (z32.en = z11.en)) ∧ Sx.Ask z0 ∧ Sx.Ask (z32.dx = z11.dx)) ∧ Sx.Ask z0 ∧ Sx.Ask (z32.dy = z11.dy)) ∧ Sx.Ask z0 ∧ Sx.Ask (z32.s = z11.s)) ∧ True) ∧ Sx.Ask (z25.meas g' < z25.meas g_1))) (True ∧ True ∧ Sx.Ask z15 ∧ True ∧ ∃ (g' : Nat), Sx.Ask (z25.pre g') ∧ True ∧ ((True ∧ z7 ∧ z8 ∧ z6 ∧ (Sx.Ask z0 ∧ Sx.Ask (z19 + z13 = (↑g' : Int))) ∧ True) ∧ (Sx.Ask z29 ∧ ∀ (i : Nat), let z33 := (g_2.fst i); let z12 := (insF g.a g.f (g' - g.a - z27) i); i < g.n → (((((True ∧ Sx.Ask z0 ∧ Sx.Ask (z33.x = z12.x)) ∧ Sx.Ask z0 ∧ Sx.Ask (z33.y = z12.y)) ∧ Sx.Ask z0 ∧ Sx.Ask (z33.en = z12.en)) ∧ Sx.Ask z0 ∧ Sx.Ask (z33.dx = z12.dx)) ∧ Sx.Ask z0 ∧ Sx.Ask (z33.dy = z12.dy)) ∧ Sx.Ask z0 ∧ Sx.Ask (z33.s = z12.s)) ∧ True) ∧ Sx.Ask (z25.meas g' < z25.meas g_1))) (True ∧ True ∧ (True ∧ True) ∧ (Sx.Ask z29 ∧ ∀ (i : Nat), let z18 := (insF g.a g.f z5 i); let z10 := (insF g.a g.f (g.b - g.a - z27) i); i < g.n → (((((True ∧ Sx.Ask z0 ∧ Sx.Ask (z18.x = z10.x)) ∧ Sx.Ask z0 ∧ Sx.Ask (z18.y = z10.y)) ∧ Sx.Ask z0 ∧ Sx.Ask (z18.en = z10.en)) ∧ Sx.Ask z0 ∧ Sx.Ask (z18.dx = z10.dx)) ∧ Sx.Ask z0 ∧ Sx.Ask (z18.dy = z10.dy)) ∧ Sx.Ask z0 ∧ Sx.Ask (z18.s = z10.s)) ∧ True)) (by kernel_rfl) ?_
  simp only [ask_iff, br_iff, eq_self, true_and, and_true, implies_true, forall_const, decide_eq_true_eq, decide_eq_false_iff_not, ne_eq, Nat.mul_one, Nat.add_zero, Nat.zero_add, Int.toNat_natCast, and_self, List.append_assoc, false_and, and_false]
  obtain ⟨⟨hab, hbn⟩, hn⟩ := hg
  refine ⟨by omega, ⟨g.a + 1, ⟨Nat.le_refl _, .inr rfl⟩, rfl, fun k _ => same_of (by rw [show g.a + 1 - g.a - 1 = 0 by omega]; rfl)⟩, fun i hi => ⟨fun hlt => ⟨⟨(insF g.a g.f (i - g.a - 1), i), ?_, rfl, fun k _ => same_of rfl⟩, fun h hh => ?_⟩, fun hge k _ => same_of ?_⟩⟩
  · have hi : g.a + 1 ≤ i ∧ (i ≤ g.b ∨ i = g.a + 1) := hi
    refine ⟨show g.a ≤ i by omega, Nat.le_refl _, ?_⟩
    have key : ∀ k, k = i - g.a - 1 → bub g.a (insF g.a g.f k) i = insF g.a g.f (k + 1) := fun k hk => by
      show _ = bub g.a (insF g.a g.f k) (g.a + k + 1)
      rw [show g.a + k + 1 = i by omega]
    have := key _ rfl
    rw [show i - g.a - 1 + 1 = i - g.a by omega] at this
    exact this
  · have hi : g.a + 1 ≤ i ∧ (i ≤ g.b ∨ i = g.a + 1) := hi
    obtain ⟨h, j⟩ := h
    have hh : g.a ≤ j ∧ j ≤ i ∧ bub g.a h j = insF g.a g.f (i - g.a) := hh
    obtain ⟨q1, q2, q3⟩ := hh
    have hout : (insOut g).pre (i + 1) := ⟨by show g.a + 1 ≤ i + 1; omega, .inl (by show i + 1 ≤ g.b; omega)⟩
    have hmo : (insOut g).meas (i + 1) < (insOut g).meas i := by show g.b - (i + 1) < g.b - i; omega
    have e0 : i + 1 - g.a - 1 = i - g.a := by omega
    show (_ → _) ∧ (_ → _)
    simp only []
    refine ⟨fun hj => ?_, fun hj => ?_⟩
    · have ej : ((j : Int) - 1).toNat = j - 1 := by omega
      rw [ej]
      have eb : bub g.a h j = if (h j).y < (h (j - 1)).y then bub g.a (swp h j) (j - 1) else h := by
        obtain ⟨j', rfl⟩ : ∃ j', j = j' + 1 := ⟨j - 1, by omega⟩
        show (if g.a < j' + 1 ∧ (h (j' + 1)).y < (h j').y then bub g.a (swp h (j' + 1)) j' else h) = _
        have : g.a < j' + 1 := by omega
        simp only [this, true_and, Nat.add_sub_cancel]
      refine ⟨by omega, by omega, by omega, by omega, by omega, fun hc => ?_, fun hc => ?_⟩
      · rw [cmp_neg] at hc
        refine ⟨by omega, by omega, by omega, by omega, by omega, by omega, by omega, by omega, by omega, by omega, by omega, (swp h j, j - 1), ⟨show g.a ≤ j - 1 by omega, show j - 1 ≤ i by omega, ?_⟩, ⟨show (j : Int) - 1 = ((j - 1 : Nat) : Int) by omega, fun k _ => ?_⟩, show j - 1 < j by omega⟩
        · rw [← q3, eb, if_pos hc]
        · exact upd2 (p := k = j - 1) (q := k = j) (by
            show swp h j k = _
            unfold swp
            by_cases c1 : k = j - 1
            · have c2 : ¬ k = j := by omega
              rw [if_neg c2, if_pos c1, if_pos c1]
            · by_cases c2 : k = j
              · rw [if_pos c2, if_neg c1, if_pos c2]
              · rw [if_neg c2, if_neg c1, if_neg c1, if_neg c2]) ⟨by simp, by simp, by simp, by simp, by simp, by simp⟩ ⟨by simp, by simp, by simp, by simp, by simp, by simp⟩
      · rw [cmp_neg] at hc
        refine ⟨by omega, i + 1, hout, ⟨rfl, fun k _ => same_of ?_⟩, hmo⟩
        rw [e0, ← q3, eb, if_neg hc]
    · refine ⟨by omega, i + 1, hout, ⟨rfl, fun k _ => same_of ?_⟩, hmo⟩
      rw [e0, ← q3]
      obtain rfl : j = g.a := by omega
      show h k = bub g.a h g.a k
      cases g.a with
      | zero => rfl
      | succ a' =>
        show h k = (if a' + 1 < a' + 1 ∧ _ then _ else h) k
        rw [if_neg (fun hc => Nat.lt_irrefl _ hc.1)]
  · have hi : g.a + 1 ≤ i ∧ (i ≤ g.b ∨ i = g.a + 1) := hi
    rw [show i - g.a - 1 = g.b - g.a - 1 by omega]
/-! DeleteFunc. -/
def spOld : FSpec := mkSpecM 103 [.arg 1] (γ := Ed × Int) (fun | [.agg _ x, _], [.cells _ g _] => some (edD x, intOf (g 0)) | _, _ => none) (fun g => [edS g.1, .own 0 0]) (fun g => [.cells 1 (lst [.int .i64 g.2]) 3]) (fun _ => True) (fun g => .bool (decide (g.1.en ≤ g.2))) (fun g => [.cells 1 (lst [.int .i64 g.2]) 3])
theorem ok_old : SpecOK Try.prog spOld := by
  refine spec_soundM (specs := []) (all_ok trivial) (eqs := []) (fun _ _ h => (List.not_mem_nil h).elim) Aff.mixed Try.func103 rfl (by kernel_rfl) (fun _ _ => by kernel_rfl) (fun g => A0) true (fun g => Nat.le_of_ble_eq_true (by kernel_rfl)) ?_
  rintro ⟨x, y⟩ hx
  refine vc_of (B := True ∧ True ∧ True ∧ True ∧ True ∧ True ∧ True ∧ True ∧ True ∧ (Sx.Ask (decide (x.en ≤ y) = decide (x.en ≤ y)) ∧ True) ∧ (True ∧ Sx.Ask (IntKind.i64 = IntKind.i64) ∧ Sx.Ask (y = y)) ∧ True) (by kernel_rfl) ?_
  simp only [ask_iff, br_iff, eq_self, true_and, and_true, implies_true, forall_const, decide_eq_true_eq, decide_eq_false_iff_not, ne_eq, Nat.mul_one, Nat.add_zero, Nat.zero_add, Int.toNat_natCast, and_self, List.append_assoc, false_and, and_false]
structure DeG where
  n : Nat
  f : Nat → Ed
  y : Int
def deD : List SV → List SO → Option DeG
  | [_, _], [.row _ n _ g _, .cells _ h _] => some ⟨n, fun i => edD (g i), intOf (h 0)⟩
  | _, _ => none
def oldS : SV := .fn 103 1 (lst [.own 1 0])
def yCell (y : Int) : SO := .cells 1 (lst [.int .i64 y]) 3
def DeG.old (g : DeG) (i : Nat) : Bool := decide ((g.f i).en ≤ g.y)
/-- The first element that goes. -/
def lead (p : Nat → Bool) : Nat → Nat
  | 0 => 0
  | n + 1 => if lead p n < n then lead p n else if p n then n else n + 1
theorem lead_le (p : Nat → Bool) : ∀ n, lead p n ≤ n
  | 0 => Nat.le_refl _
  | n + 1 => by
    have := lead_le p n
    simp only [lead]
    split
    · omega
    · split <;> omega
theorem lead_spec (p : Nat → Bool) : ∀ n, (∀ k, k < lead p n → p k = false) ∧ (lead p n < n → p (lead p n) = true)
  | 0 => ⟨fun k hk => absurd hk (Nat.not_lt_zero _), fun h => absurd h (Nat.not_lt_zero _)⟩
  | n + 1 => by
    have h := lead_spec p n
    have hl := lead_le p n
    simp only [lead]
    split
    · rename_i hlt
      exact ⟨h.1, fun _ => h.2 hlt⟩
    · rename_i hlt
      have e : lead p n = n := by omega
      rw [e] at h
      split
      · rename_i hp
        exact ⟨h.1, fun _ => hp⟩
      · rename_i hp
        refine ⟨fun k hk => ?_, fun hc => absurd hc (Nat.lt_irrefl _)⟩
        by_cases hkn : k = n
        · subst hkn; simpa using hp
        · exact h.1 k (by omega)
theorem lead_false {p : Nat → Bool} {n k : Nat} (h : k < lead p n) : p k = false := (lead_spec p n).1 k h
theorem lead_true {p : Nat → Bool} {n : Nat} (h : lead p n < n) : p (lead p n) = true := (lead_spec p n).2 h
theorem lead_eq {p : Nat → Bool} {n i : Nat} (h : i < n) (h1 : ∀ k, k < i → p k = false) (h2 : p i = true) : lead p n = i := by
  rcases Nat.lt_trichotomy (lead p n) i with hc | hc | hc
  · have := h1 _ hc
    have t := lead_true (p := p) (n := n) (by omega)
    rw [t] at this
    cases this
  · exact hc
  · have := lead_false hc
    rw [h2] at this
    cases this
theorem lead_all {p : Nat → Bool} {n : Nat} (h : ∀ k, k < n → p k = false) : lead p n = n := by
  have hl := lead_le p n
  refine Classical.byContradiction fun hc => ?_
  have h1 : lead p n < n := by omega
  have := h _ h1
  rw [lead_true h1] at this
  cases this
theorem lead_none {p : Nat → Bool} {n : Nat} (h : lead p n = n) : ∀ k, k < n → p k = false := fun k hk => lead_false (by rw [h]; exact hk)
def ixInv (g : DeG) : Inv := ⟨Nat, fun i => i ≤ g.n ∧ ∀ k, k < i → g.old k = false, fun i => ⟨[(0, .osl 0 0), (1, oldS), (7, .int .i64 g.n), (8, .int .i64 i)], [edRow 0 g.n g.f, yCell g.y]⟩, fun i => g.n - i⟩
def DeG.ix (g : DeG) : Int := if lead g.old g.n < g.n then lead g.old g.n else -1
def spIx : FSpec := mkSpecM 126 [.arg 0, .part 1 0] deD (fun _ => [.osl 0 0, oldS]) (fun g => [edRow 0 g.n g.f, yCell g.y]) (fun g => g.n ≤ 4294967296) (fun g => .int .i64 g.ix) (fun g => [edRow 0 g.n g.f, yCell g.y])
theorem ok_ix : SpecOK Try.prog spIx := by
  refine spec_soundM (specs := [spOld]) (all_ok (⟨ok_old, trivial⟩)) (eqs := []) (fun _ _ h => (List.not_mem_nil h).elim) Aff.mixed Try.func126 rfl (by kernel_rfl) (fun _ _ => by kernel_rfl) (fun g => (⟨[(2, .inv (ixInv g))], []⟩ : Ann)) true (fun g => Nat.le_of_ble_eq_true (by kernel_rfl)) ?_
  rintro g hg
  refine vc_of (B := let z4 := (Sx.Ask ((103 : Go.FuncId) = (103 : Go.FuncId)) ∧ True ∧ Sx.Ask ((0 : Nat) = (0 : Nat)));let z1 := (IntKind.i64 = IntKind.i64); let z6 := (Sx.Ask z1 ∧ Sx.Ask ((↑g.n : Int) = (↑g.n : Int))); let z3 := (True ∧ Sx.Ask z1 ∧ Sx.Ask (g.y = g.y));let z0 := (Sx.Ask (g.n = g.n) ∧ ∀ (i : Nat), i < g.n → (((((True ∧ Sx.Ask z1 ∧ Sx.Ask ((g.f i).x = (g.f i).x)) ∧ Sx.Ask z1 ∧ Sx.Ask ((g.f i).y = (g.f i).y)) ∧ Sx.Ask z1 ∧ Sx.Ask ((g.f i).en = (g.f i).en)) ∧ Sx.Ask z1 ∧ Sx.Ask ((g.f i).dx = (g.f i).dx)) ∧ Sx.Ask z1 ∧ Sx.Ask ((g.f i).dy = (g.f i).dy)) ∧ Sx.Ask z1 ∧ Sx.Ask ((g.f i).s = (g.f i).s));True ∧ True ∧ True ∧ True ∧ (∃ (g_1 : Nat), Sx.Ask ((ixInv g).pre g_1) ∧ True ∧ (True ∧ z4 ∧ z6 ∧ (Sx.Ask z1 ∧ Sx.Ask ((0 : Int) = (↑g_1 : Int))) ∧ True) ∧ z0 ∧ z3 ∧ True) ∧ ∀ (g_1 : Nat), let z5 := (↑g_1 : Int); let z2 := (g.f z5.toNat); (ixInv g).pre g_1 → True ∧ Sx.Br (decide (z5 < (↑g.n : Int))) (True ∧ True ∧ True ∧ True ∧ True ∧ Sx.Ask ((0 : Int) ≤ z5 ∧ z5 < (↑g.n : Int)) ∧ Sx.Ask (z5.toNat < g.n) ∧ ((True ∧ (((((((True ∧ Sx.Ask z1 ∧ Sx.Ask (z2.x = z2.x)) ∧ Sx.Ask z1 ∧ Sx.Ask (z2.y = z2.y)) ∧ Sx.Ask z1 ∧ Sx.Ask (z2.en = z2.en)) ∧ Sx.Ask z1 ∧ Sx.Ask (z2.dx = z2.dx)) ∧ Sx.Ask z1 ∧ Sx.Ask (z2.dy = z2.dy)) ∧ Sx.Ask z1 ∧ Sx.Ask (z2.s = z2.s)) ∧ Sx.Ask ((0 : Nat) = (0 : Nat)) ∧ True) ∧ z3 ∧ True) ∧ Sx.Ask True) ∧ Sx.Br (decide (z2.en ≤ g.y)) (True ∧ True ∧ True ∧ True ∧ ((Sx.Ask z1 ∧ Sx.Ask (z5 = g.ix)) ∧ True) ∧ z0 ∧ z3 ∧ True) (Sx.Ask ((-9223372036854775808 : Int) ≤ z5 + (1 : Int) ∧ z5 + (1 : Int) ≤ (9223372036854775807 : Int)) ∧ True ∧ ∃ (g' : Nat), Sx.Ask ((ixInv g).pre g') ∧ True ∧ ((True ∧ z4 ∧ z6 ∧ (Sx.Ask z1 ∧ Sx.Ask (z5 + (1 : Int) = (↑g' : Int))) ∧ True) ∧ z0 ∧ z3 ∧ True) ∧ Sx.Ask ((ixInv g).meas g' < (ixInv g).meas g_1))) (True ∧ True ∧ True ∧ ((Sx.Ask z1 ∧ Sx.Ask ((-1 : Int) = g.ix)) ∧ True) ∧ z0 ∧ z3 ∧ True)) (by kernel_rfl) ?_
  simp only [ask_iff, br_iff, eq_self, true_and, and_true, implies_true, forall_const, decide_eq_true_eq, decide_eq_false_iff_not, ne_eq, Nat.mul_one, Nat.add_zero, Nat.zero_add, Int.toNat_natCast, and_self, List.append_assoc, false_and, and_false]
  refine ⟨⟨0, ⟨Nat.zero_le _, fun k hk => absurd hk (Nat.not_lt_zero _)⟩, rfl⟩, fun i hi => ⟨fun hlt => ⟨by omega, by omega, fun hc => ?_, fun hc => ⟨by omega, i + 1, ⟨show i + 1 ≤ g.n by omega, fun k hk => ?_⟩, rfl, show g.n - (i + 1) < g.n - i by omega⟩⟩, fun hge => ?_⟩⟩
  · have hi : i ≤ g.n ∧ ∀ k, k < i → g.old k = false := hi
    have e := lead_eq (show i < g.n by omega) hi.2 (show g.old i = true from decide_eq_true hc)
    unfold DeG.ix
    rw [e, if_pos (by omega)]
  · have hi : i ≤ g.n ∧ ∀ k, k < i → g.old k = false := hi
    by_cases hki : k = i
    · subst hki; exact decide_eq_false hc
    · exact hi.2 k (by omega)
  · have hi : i ≤ g.n ∧ ∀ k, k < i → g.old k = false := hi
    obtain rfl : i = g.n := by omega
    unfold DeG.ix
    rw [lead_all hi.2, if_neg (Nat.lt_irrefl _)]
def kept (g : DeG) (j : Nat) : List Ed := ((List.range j).map g.f).filter fun e => !decide (e.en ≤ g.y)
theorem eI_map {f : Nat → Ed} {n i : Nat} (h : i < n) : eI ((List.range n).map f) i = f i := by
  simp [eI, List.getD_eq_getElem?_getD, h]
theorem kept_succ (g : DeG) (j : Nat) : kept g (j + 1) = kept g j ++ if g.old j = true then [] else [g.f j] := by
  unfold kept
  rw [List.range_succ, List.map_append, List.filter_append]
  congr 1
  unfold DeG.old
  by_cases h : (g.f j).en ≤ g.y <;> simp [h]
theorem kept_all {g : DeG} : ∀ {j : Nat}, (∀ k, k < j → g.old k = false) → kept g j = (List.range j).map g.f
  | 0, _ => rfl
  | j + 1, h => by
    rw [kept_succ, h j (Nat.lt_succ_self j), if_neg (by decide), kept_all (fun k hk => h k (by omega)), List.range_succ, List.map_append]
    rfl
def deInv (g : DeG) : Inv := ⟨(Nat → Ed) × Nat, fun h => (h.2 ≤ g.n ∧ (kept g h.2).length < h.2) ∧ (∀ k, k < (kept g h.2).length → h.1 k = eI (kept g h.2) k) ∧ ∀ k, h.2 ≤ k → h.1 k = g.f k,
  fun h => ⟨[(0, .osl 0 0), (1, oldS), (5, .int .i64 (kept g h.2).length), (6, .int .i64 h.2)], [edRow 0 g.n h.1, yCell g.y]⟩, fun h => g.n - h.2⟩
def spDel : FSpec := mkSpecM 102 [.arg 0, .part 1 0] deD (fun _ => [.osl 0 0, oldS]) (fun g => [edRow 0 g.n g.f, yCell g.y]) (fun g => g.n ≤ 4294967296) (fun _ => .osl 0 1) (fun g => [edRow 1 (kept g g.n).length (eI (kept g g.n)), yCell g.y])
theorem ok_del : SpecOK Try.prog spDel := by
  refine spec_soundM (specs := [spIx, spOld]) (all_ok (⟨ok_ix, ok_old, trivial⟩)) (eqs := []) (fun _ _ h => (List.not_mem_nil h).elim) Aff.mixed Try.func102 rfl (by kernel_rfl) (fun _ _ => by kernel_rfl) (fun g => (⟨[(5, .inv (deInv g))], [(1000012, [.shrink 4])]⟩ : Ann)) true (fun g => Nat.le_of_ble_eq_true (by kernel_rfl)) ?_
  rintro g hg
  refine vc_of (B := let z22 := (↑g.n : Int);let z17 := (deInv g);let z15 := (0 : Int);let z14 := (1 : Int);let z12 := (9223372036854775807 : Int);let z11 := (-9223372036854775808 : Int);let z8 := (0 : Nat);let z6 := (kept g g.n);let z4 := (Sx.Ask ((103 : Go.FuncId) = (103 : Go.FuncId)) ∧ True ∧ Sx.Ask (z8 = z8));let z0 := (IntKind.i64 = IntKind.i64); let z5 := (True ∧ Sx.Ask z0 ∧ Sx.Ask (g.y = g.y));True ∧ True ∧ True ∧ ((True ∧ (True ∧ z4 ∧ True) ∧ (Sx.Ask (g.n = g.n) ∧ ∀ (i : Nat), i < g.n → (((((True ∧ Sx.Ask z0 ∧ Sx.Ask ((g.f i).x = (g.f i).x)) ∧ Sx.Ask z0 ∧ Sx.Ask ((g.f i).y = (g.f i).y)) ∧ Sx.Ask z0 ∧ Sx.Ask ((g.f i).en = (g.f i).en)) ∧ Sx.Ask z0 ∧ Sx.Ask ((g.f i).dx = (g.f i).dx)) ∧ Sx.Ask z0 ∧ Sx.Ask ((g.f i).dy = (g.f i).dy)) ∧ Sx.Ask z0 ∧ Sx.Ask ((g.f i).s = (g.f i).s)) ∧ z5 ∧ True) ∧ Sx.Ask (g.n ≤ (4294967296 : Nat))) ∧ True ∧ True ∧ True ∧ Sx.Br (decide (g.ix = (-1 : Int))) (True ∧ True ∧ True ∧ True ∧ (True ∧ True) ∧ (Sx.Ask (g.n = z6.length) ∧ ∀ (i : Nat), let z13 := (Fla.eI z6 i); i < z6.length → (((((True ∧ Sx.Ask z0 ∧ Sx.Ask ((g.f i).x = z13.x)) ∧ Sx.Ask z0 ∧ Sx.Ask ((g.f i).y = z13.y)) ∧ Sx.Ask z0 ∧ Sx.Ask ((g.f i).en = z13.en)) ∧ Sx.Ask z0 ∧ Sx.Ask ((g.f i).dx = z13.dx)) ∧ Sx.Ask z0 ∧ Sx.Ask ((g.f i).dy = z13.dy)) ∧ Sx.Ask z0 ∧ Sx.Ask ((g.f i).s = z13.s)) ∧ z5 ∧ True) (True ∧ Sx.Ask (z11 ≤ g.ix + z14 ∧ g.ix + z14 ≤ z12) ∧ True ∧ (∃ (g_1 : (Nat → Fla.Ed) × Nat), Sx.Ask (z17.pre g_1) ∧ True ∧ (True ∧ z4 ∧ (Sx.Ask z0 ∧ Sx.Ask (g.ix = (↑(kept g g_1.snd).length : Int))) ∧ (Sx.Ask z0 ∧ Sx.Ask (g.ix + z14 = (↑g_1.snd : Int))) ∧ True) ∧ (Sx.Ask (g.n = g.n) ∧ ∀ (i : Nat), let z18 := (g_1.fst i); i < g.n → (((((True ∧ Sx.Ask z0 ∧ Sx.Ask ((g.f i).x = z18.x)) ∧ Sx.Ask z0 ∧ Sx.Ask ((g.f i).y = z18.y)) ∧ Sx.Ask z0 ∧ Sx.Ask ((g.f i).en = z18.en)) ∧ Sx.Ask z0 ∧ Sx.Ask ((g.f i).dx = z18.dx)) ∧ Sx.Ask z0 ∧ Sx.Ask ((g.f i).dy = z18.dy)) ∧ Sx.Ask z0 ∧ Sx.Ask ((g.f i).s = z18.s)) ∧ z5 ∧ True) ∧ ∀ (g_1 : (Nat → Fla.Ed) × Nat), let z9 := (kept g g_1.snd); let z7 := (↑g_1.snd : Int); let z10 := (z11 ≤ z7 + z14 ∧ z7 + z14 ≤ z12); let z3 := (↑z9.length : Int); let z2 := (g_1.fst z7.toNat); z17.pre g_1 → True ∧ True ∧ True ∧ True ∧ Sx.Br (decide (z7 < z22)) (True ∧ True ∧ Sx.Ask (z15 ≤ z7 ∧ z7 < z22) ∧ Sx.Ask (z7.toNat < g.n) ∧ True ∧ True ∧ True ∧ True ∧ ((True ∧ (((((((True ∧ Sx.Ask z0 ∧ Sx.Ask (z2.x = z2.x)) ∧ Sx.Ask z0 ∧ Sx.Ask (z2.y = z2.y)) ∧ Sx.Ask z0 ∧ Sx.Ask (z2.en = z2.en)) ∧ Sx.Ask z0 ∧ Sx.Ask (z2.dx = z2.dx)) ∧ Sx.Ask z0 ∧ Sx.Ask (z2.dy = z2.dy)) ∧ Sx.Ask z0 ∧ Sx.Ask (z2.s = z2.s)) ∧ Sx.Ask (z8 = z8) ∧ True) ∧ z5 ∧ True) ∧ Sx.Ask True) ∧ True ∧ Sx.Br (!decide (z2.en ≤ g.y)) (True ∧ True ∧ True ∧ Sx.Ask (z15 ≤ z3 ∧ z3 < z22) ∧ Sx.Ask (z3.toNat < g.n) ∧ True ∧ Sx.Ask (z11 ≤ z3 + z14 ∧ z3 + z14 ≤ z12) ∧ True ∧ True ∧ Sx.Ask z10 ∧ True ∧ ∃ (g' : (Nat → Fla.Ed) × Nat), Sx.Ask (z17.pre g') ∧ True ∧ ((True ∧ z4 ∧ (Sx.Ask z0 ∧ Sx.Ask (z3 + z14 = (↑(kept g g'.snd).length : Int))) ∧ (Sx.Ask z0 ∧ Sx.Ask (z7 + z14 = (↑g'.snd : Int))) ∧ True) ∧ (Sx.Ask (g.n = g.n) ∧ ∀ (i : Nat), let z19 := (g_1.fst i); i < g.n → (((((True ∧ Sx.Ask z0 ∧ Sx.Ask ((bif decide (i = z3.toNat ∧ z8 ≤ z8 ∧ z8 < z8 + (6 : Nat)) then z2.x else z19.x) = (g'.fst i).x)) ∧ Sx.Ask z0 ∧ Sx.Ask ((bif decide (i = z3.toNat ∧ z8 ≤ (1 : Nat) ∧ (1 : Nat) < z8 + (6 : Nat)) then z2.y else z19.y) = (g'.fst i).y)) ∧ Sx.Ask z0 ∧ Sx.Ask ((bif decide (i = z3.toNat ∧ z8 ≤ (2 : Nat) ∧ (2 : Nat) < z8 + (6 : Nat)) then z2.en else z19.en) = (g'.fst i).en)) ∧ Sx.Ask z0 ∧ Sx.Ask ((bif decide (i = z3.toNat ∧ z8 ≤ (3 : Nat) ∧ (3 : Nat) < z8 + (6 : Nat)) then z2.dx else z19.dx) = (g'.fst i).dx)) ∧ Sx.Ask z0 ∧ Sx.Ask ((bif decide (i = z3.toNat ∧ z8 ≤ (4 : Nat) ∧ (4 : Nat) < z8 + (6 : Nat)) then z2.dy else z19.dy) = (g'.fst i).dy)) ∧ Sx.Ask z0 ∧ Sx.Ask ((bif decide (i = z3.toNat ∧ z8 ≤ (5 : Nat) ∧ (5 : Nat) < z8 + (6 : Nat)) then z2.s else z19.s) = (g'.fst i).s)) ∧ z5 ∧ True) ∧ Sx.Ask (z17.meas g' < z17.meas g_1)) (True ∧ Sx.Ask z10 ∧ True ∧ ∃ (g' : (Nat → Fla.Ed) × Nat), Sx.Ask (z17.pre g') ∧ True ∧ ((True ∧ z4 ∧ (Sx.Ask z0 ∧ Sx.Ask (z3 = (↑(kept g g'.snd).length : Int))) ∧ (Sx.Ask z0 ∧ Sx.Ask (z7 + z14 = (↑g'.snd : Int))) ∧ True) ∧ (Sx.Ask (g.n = g.n) ∧ ∀ (i : Nat), let z20 := (g_1.fst i); i < g.n → (((((True ∧ Sx.Ask z0 ∧ Sx.Ask (z20.x = (g'.fst i).x)) ∧ Sx.Ask z0 ∧ Sx.Ask (z20.y = (g'.fst i).y)) ∧ Sx.Ask z0 ∧ Sx.Ask (z20.en = (g'.fst i).en)) ∧ Sx.Ask z0 ∧ Sx.Ask (z20.dx = (g'.fst i).dx)) ∧ Sx.Ask z0 ∧ Sx.Ask (z20.dy = (g'.fst i).dy)) ∧ Sx.Ask z0 ∧ Sx.Ask (z20.s = (g'.fst i).s)) ∧ z5 ∧ True) ∧ Sx.Ask (z17.meas g' < z17.meas g_1))) (True ∧ True ∧ Sx.Ask (z15 ≤ Int.ofNat z9.length ∧ Int.ofNat z9.length ≤ Int.ofNat g.n ∧ Int.ofNat g.n ≤ Int.ofNat g.n ∧ Int.ofNat g.n ≤ z22) ∧ True ∧ True ∧ True ∧ Sx.Ask (z15 ≤ Int.ofNat z8 ∧ Int.ofNat z8 ≤ Int.ofNat z9.length ∧ Int.ofNat z9.length ≤ Int.ofNat g.n ∧ Int.ofNat g.n ≤ z22) ∧ True ∧ True ∧ True ∧ (True ∧ True) ∧ (Sx.Ask ((Int.ofNat z9.length - Int.ofNat z8).toNat = z6.length) ∧ ∀ (i : Nat), let z21 := (g_1.fst i); let z16 := (Fla.eI z6 i); let z1 := ((Int.ofNat z9.length).toNat ≤ i ∧ i < (Int.ofNat z9.length).toNat + (Int.ofNat g.n - Int.ofNat z9.length).toNat); i < z6.length → (((((True ∧ Sx.Ask z0 ∧ Sx.Ask ((bif decide z1 then z15 else z21.x) = z16.x)) ∧ Sx.Ask z0 ∧ Sx.Ask ((bif decide z1 then z15 else z21.y) = z16.y)) ∧ Sx.Ask z0 ∧ Sx.Ask ((bif decide z1 then z15 else z21.en) = z16.en)) ∧ Sx.Ask z0 ∧ Sx.Ask ((bif decide z1 then z15 else z21.dx) = z16.dx)) ∧ Sx.Ask z0 ∧ Sx.Ask ((bif decide z1 then z15 else z21.dy) = z16.dy)) ∧ Sx.Ask z0 ∧ Sx.Ask ((bif decide z1 then z15 else z21.s) = z16.s)) ∧ z5 ∧ True))) (by kernel_rfl) ?_
  simp only [ask_iff, br_iff, eq_self, true_and, and_true, implies_true, forall_const, decide_eq_true_eq, decide_eq_false_iff_not, ne_eq, Nat.mul_one, Nat.add_zero, Nat.zero_add, Int.toNat_natCast, and_self, List.append_assoc, false_and, and_false]
  have hle := lead_le g.old g.n
  refine ⟨hg, fun hx => ?_, fun hx => ?_⟩
  · have hall : ∀ k, k < g.n → g.old k = false := lead_none (by
      unfold DeG.ix at hx
      split at hx
      · omega
      · omega)
    have e := kept_all (fun k hk => hall k hk)
    exact ⟨by rw [e]; simp, fun i hi => same_of (by rw [e]; rw [e] at hi; rw [eI_map (by simpa using hi)])⟩
  · have hlt : lead g.old g.n < g.n := by
      unfold DeG.ix at hx
      split at hx
      · assumption
      · exact absurd rfl hx
    have ex : g.ix = lead g.old g.n := by unfold DeG.ix; rw [if_pos hlt]
    generalize hl : lead g.old g.n = l at *
    have hfl : ∀ k, k < l → g.old k = false := fun k hk => lead_false (by rw [hl]; exact hk)
    have hol : g.old l = true := by rw [← hl]; exact lead_true (by rw [hl]; exact hlt)
    have ek : kept g (l + 1) = (List.range l).map g.f := by
      rw [kept_succ, if_pos hol, List.append_nil]
      exact kept_all hfl
    have ekl : (kept g (l + 1)).length = l := by rw [ek]; simp
    rw [ex]
    refine ⟨by omega, ⟨(g.f, l + 1), ⟨⟨show l + 1 ≤ g.n by omega, by show (kept g (l + 1)).length < l + 1; omega⟩, fun k hk => ?_, fun k _ => rfl⟩, ⟨by show (l : Int) = ((kept g (l + 1)).length : Int); omega, rfl⟩, fun i _ => same_of rfl⟩, fun h hh => ?_⟩
    · have hk : k < (kept g (l + 1)).length := hk
      show g.f k = eI (kept g (l + 1)) k
      rw [ek, eI_map (by omega)]
    · obtain ⟨h, j⟩ := h
      have hh : (j ≤ g.n ∧ (kept g j).length < j) ∧ (∀ k, k < (kept g j).length → h k = eI (kept g j) k) ∧ ∀ k, j ≤ k → h k = g.f k := hh
      obtain ⟨⟨q1, q2⟩, q3, q4⟩ := hh
      simp only []
      refine ⟨fun hj => ?_, fun hj => ?_⟩
      · have ehj := q4 j (Nat.le_refl _)
        have ks := kept_succ g j
        refine ⟨by omega, by omega, fun hc => ?_, fun hc => ?_⟩
        · have ho : g.old j = false := by simpa [DeG.old, ehj] using hc
          rw [if_neg (by rw [ho]; decide)] at ks
          refine ⟨by omega, by omega, by omega, by omega, (fun k => if k = (kept g j).length then h j else h k, j + 1), ⟨⟨show j + 1 ≤ g.n by omega, by show (kept g (j + 1)).length < j + 1; rw [ks, List.length_append]; simp; omega⟩, fun k hk => ?_, fun k hk => ?_⟩, ⟨⟨by show ((kept g j).length : Int) + 1 = ((kept g (j + 1)).length : Int); rw [ks, List.length_append]; rfl, rfl⟩, fun k _ => upd1v (p := k = (kept g j).length) rfl ⟨by simp, by simp, by simp, by simp, by simp, by simp⟩⟩, show g.n - (j + 1) < g.n - j by omega⟩
          · have hk : k < (kept g (j + 1)).length := hk
            show (if k = (kept g j).length then h j else h k) = eI (kept g (j + 1)) k
            rw [ks, List.length_append] at hk
            rw [ks, eI_app _ _ _ hk]
            by_cases c : k = (kept g j).length
            · rw [if_pos c, if_neg (by omega), ehj]
            · rw [if_neg c, if_pos (by simp at hk; omega), q3 k (by simp at hk; omega)]
          · have hk : j + 1 ≤ k := hk
            show (if k = (kept g j).length then h j else h k) = g.f k
            rw [if_neg (by omega), q4 k (by omega)]
        · have ho : g.old j = true := by simpa [DeG.old, ehj] using hc
          rw [if_pos ho, List.append_nil] at ks
          refine ⟨by omega, (h, j + 1), ⟨⟨show j + 1 ≤ g.n by omega, by show (kept g (j + 1)).length < j + 1; rw [ks]; omega⟩, fun k hk => ?_, fun k hk => q4 k (by have hk : j + 1 ≤ k := hk; omega)⟩, ⟨⟨by rw [ks], rfl⟩, fun k _ => same_of rfl⟩, show g.n - (j + 1) < g.n - j by omega⟩
          have hk : k < (kept g (j + 1)).length := hk
          show h k = eI (kept g (j + 1)) k
          rw [ks] at hk ⊢
          exact q3 k hk
      · obtain rfl : j = g.n := by omega
        have e1 : ∀ m : Nat, (Int.ofNat m).toNat = m := fun _ => rfl
        have e2 : (Int.ofNat (kept g g.n).length - Int.ofNat 0).toNat = (kept g g.n).length := by
          rw [show (Int.ofNat 0) = 0 from rfl, Int.sub_zero, e1]
        have e3 : ∀ m : Nat, Int.ofNat m = (m : Int) := fun _ => rfl
        refine ⟨by simp only [e3]; omega, by simp only [e3]; omega, e2, fun k hk => upd1 (r := ⟨0, 0, 0, 0, 0, 0⟩) ?_⟩
        rw [e1, if_neg (by omega), q3 k hk]
end Go.Proofs.Ytfjbjbmbdadmhaa.Flb
