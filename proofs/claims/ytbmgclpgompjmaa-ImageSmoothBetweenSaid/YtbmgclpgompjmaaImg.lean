/- Package image, by the evaluation: Check, sample. -/
import Derived.Test.YtbmgclpgompjmaaAfi
import Derived.Test.YtbmgclpgompjmaaSxz
set_option linter.unusedSimpArgs false
set_option linter.unusedVariables false
namespace Go.Proofs.Ytbmgclpgompjmaa.Img
open Go.RowKit Sx Num Aff Afi
set_option maxRecDepth 100000
structure Ink where
  c0 : Int
  c1 : Int
  c2 : Int
  c3 : Int
  c4 : Int
  c5 : Int
  c6 : Int
  c7 : Int
def inkD (f : Nat → SV) : Ink := ⟨intOf (f 0), intOf (f 1), intOf (f 2), intOf (f 3), intOf (f 4), intOf (f 5), intOf (f 6), intOf (f 7)⟩
structure ImgG where
  w : Int
  h : Int
  n : Nat
  px : Nat → Ink
  sn : Nat
  sf : Nat → Int
  m : Mat
  smooth : Bool
  rep : Bool
def inkL (f : Ink) : List SV := [.int .u8 f.c0, .int .u8 f.c1, .int .u8 f.c2, .int .u8 f.c3, .int .u8 f.c4, .int .u8 f.c5, .int .u8 f.c6, .int .u8 f.c7]
def imgL (g : ImgG) : List SV := [.int .i64 g.w, .int .i64 g.h, .sl g.n 8 (fun i => lst (inkL (g.px i))), .sl g.sn 1 (fun i _ => .int .u8 (g.sf i)),
  .int .i64 g.m.a, .int .i64 g.m.b, .int .i64 g.m.c, .int .i64 g.m.d, .int .i64 g.m.e, .int .i64 g.m.f, .bool g.smooth, .bool g.rep]
def imgS (g : ImgG) : SV := .agg 12 (lst (imgL g))
def pxD : SV → Nat → Ink
  | .sl _ _ f => fun i => inkD (f i)
  | _ => fun _ => ⟨0, 0, 0, 0, 0, 0, 0, 0⟩
def imgD (g : Nat → SV) : ImgG := ⟨intOf (g 0), intOf (g 1), slLen (g 2), pxD (g 2), slLen (g 3), slCell 0 (g 3), ⟨intOf (g 4), intOf (g 5), intOf (g 6), intOf (g 7), intOf (g 8), intOf (g 9)⟩, boolOf (g 10), boolOf (g 11)⟩
def ImgG.chk (g : ImgG) : Int :=
  if g.w < 1 ∨ 256 < g.w ∨ g.h < 1 ∨ 256 < g.h then 3 else if (g.n : Int) ≠ g.w * g.h ∨ (g.sn ≠ 0 ∧ (g.sn : Int) ≠ g.w * g.h) then 4 else invE g.m
def spCheckI : FSpec := mkSpec 58 (γ := ImgG) (fun | [.agg _ g] => some (imgD g) | _ => none) (fun g => [imgS g]) (fun _ => True) (fun g => .int .i64 g.chk)
theorem ok_checkI : SpecOK Try.prog spCheckI := by
  refine spec_sound (specs := [spInvert]) (all_ok (⟨ok_invert, trivial⟩)) (eqs := []) (fun _ _ h => (List.not_mem_nil h).elim) Aff.mixed Try.func58 rfl (by kernel_rfl) (fun _ _ => by kernel_rfl) (fun g => A0) (fun g => Nat.le_of_ble_eq_true (by kernel_rfl)) ?_
  rintro g _
  refine vc_of (B := True ∧ True ∧ True ∧ True ∧ True ∧ True ∧ Sx.Br (decide (g.w < (1 : Int))) (True ∧ True ∧ True ∧ True ∧ True ∧ True ∧ True ∧ Sx.Ask (IntKind.i64 = IntKind.i64) ∧ Sx.Ask ((3 : Int) = g.chk)) (True ∧ True ∧ True ∧ True ∧ True ∧ Sx.Br (decide ((256 : Int) < g.w)) (True ∧ True ∧ True ∧ True ∧ True ∧ Sx.Ask (IntKind.i64 = IntKind.i64) ∧ Sx.Ask ((3 : Int) = g.chk)) (True ∧ True ∧ True ∧ True ∧ True ∧ Sx.Br (decide (g.h < (1 : Int))) (True ∧ True ∧ True ∧ Sx.Ask (IntKind.i64 = IntKind.i64) ∧ Sx.Ask ((3 : Int) = g.chk)) (True ∧ True ∧ True ∧ True ∧ Sx.Br (decide ((256 : Int) < g.h)) (True ∧ True ∧ Sx.Ask (IntKind.i64 = IntKind.i64) ∧ Sx.Ask ((3 : Int) = g.chk)) (True ∧ True ∧ True ∧ True ∧ Sx.Ask ((-9223372036854775808 : Int) ≤ g.w * g.h ∧ g.w * g.h ≤ (9223372036854775807 : Int)) ∧ True ∧ True ∧ True ∧ True ∧ True ∧ True ∧ True ∧ Sx.Br (decide ((↑g.n : Int) ≠ g.w * g.h)) (True ∧ True ∧ True ∧ Sx.Ask (IntKind.i64 = IntKind.i64) ∧ Sx.Ask ((4 : Int) = g.chk)) (True ∧ True ∧ True ∧ True ∧ True ∧ Sx.Br (decide ((↑g.sn : Int) ≠ (0 : Int))) (True ∧ True ∧ True ∧ True ∧ True ∧ True ∧ True ∧ Sx.Br (decide ((↑g.sn : Int) ≠ g.w * g.h)) (True ∧ True ∧ Sx.Ask (IntKind.i64 = IntKind.i64) ∧ Sx.Ask ((4 : Int) = g.chk)) (True ∧ True ∧ ((((((((True ∧ Sx.Ask (IntKind.i64 = IntKind.i64) ∧ Sx.Ask (g.m.a = g.m.a)) ∧ Sx.Ask (IntKind.i64 = IntKind.i64) ∧ Sx.Ask (g.m.b = g.m.b)) ∧ Sx.Ask (IntKind.i64 = IntKind.i64) ∧ Sx.Ask (g.m.c = g.m.c)) ∧ Sx.Ask (IntKind.i64 = IntKind.i64) ∧ Sx.Ask (g.m.d = g.m.d)) ∧ Sx.Ask (IntKind.i64 = IntKind.i64) ∧ Sx.Ask (g.m.e = g.m.e)) ∧ Sx.Ask (IntKind.i64 = IntKind.i64) ∧ Sx.Ask (g.m.f = g.m.f)) ∧ True) ∧ Sx.Ask True) ∧ True ∧ True ∧ True ∧ True ∧ True ∧ True ∧ True ∧ True ∧ True ∧ Sx.Ask (IntKind.i64 = IntKind.i64) ∧ Sx.Ask (Go.Proofs.Ytbmgclpgompjmaa.Afi.invE g.m = g.chk))) (True ∧ True ∧ True ∧ True ∧ ((((((((True ∧ Sx.Ask (IntKind.i64 = IntKind.i64) ∧ Sx.Ask (g.m.a = g.m.a)) ∧ Sx.Ask (IntKind.i64 = IntKind.i64) ∧ Sx.Ask (g.m.b = g.m.b)) ∧ Sx.Ask (IntKind.i64 = IntKind.i64) ∧ Sx.Ask (g.m.c = g.m.c)) ∧ Sx.Ask (IntKind.i64 = IntKind.i64) ∧ Sx.Ask (g.m.d = g.m.d)) ∧ Sx.Ask (IntKind.i64 = IntKind.i64) ∧ Sx.Ask (g.m.e = g.m.e)) ∧ Sx.Ask (IntKind.i64 = IntKind.i64) ∧ Sx.Ask (g.m.f = g.m.f)) ∧ True) ∧ Sx.Ask True) ∧ True ∧ True ∧ True ∧ True ∧ True ∧ True ∧ True ∧ True ∧ True ∧ Sx.Ask (IntKind.i64 = IntKind.i64) ∧ Sx.Ask (Go.Proofs.Ytbmgclpgompjmaa.Afi.invE g.m = g.chk)))))))) (by kernel_rfl) ?_
  simp only [ask_iff, br_iff, eq_self, true_and, and_true, implies_true, forall_const, decide_eq_true_eq, decide_eq_false_iff_not, ne_eq, Nat.mul_one, Nat.add_zero, Nat.zero_add]
  have hp : (1 ≤ g.w ∧ g.w ≤ 256) → (1 ≤ g.h ∧ g.h ≤ 256) → 0 ≤ g.w * g.h ∧ g.w * g.h ≤ 256 * 256 := fun h1 h2 => ⟨Int.mul_nonneg (by omega) (by omega), Int.mul_le_mul h1.2 h2.2 (by omega) (by omega)⟩
  unfold ImgG.chk
  generalize hP : g.w * g.h = Q at hp ⊢
  generalize invE g.m = E
  refine ⟨fun h1 => by omega, fun h1 => ⟨fun h2 => by omega, fun h2 => ⟨fun h3 => by omega, fun h3 => ⟨fun h4 => by omega, fun h4 => ?_⟩⟩⟩⟩
  have hq := hp ⟨by omega, by omega⟩ ⟨by omega, by omega⟩
  refine ⟨by omega, fun h5 => by omega, fun h5 => ⟨fun h6 => ⟨fun h7 => by omega, fun h7 => by omega⟩, fun h6 => by omega⟩⟩
structure SmG where
  g : ImgG
  u : Int
  v : Int
def ImgG.ok (g : ImgG) : Prop := ((1 ≤ g.w ∧ g.w ≤ 256) ∧ 1 ≤ g.h ∧ g.h ≤ 256) ∧ (g.n : Int) = g.w * g.h ∧ g.sn = 0
def SmG.ok (s : SmG) : Prop := s.g.ok ∧ (-1099511627776 ≤ s.u ∧ s.u ≤ 1099511627776) ∧ -1099511627776 ≤ s.v ∧ s.v ≤ 1099511627776
def SmG.out (s : SmG) : Bool := !s.g.rep && decide (s.u < 0 ∨ s.v < 0 ∨ s.g.w ≤ s.u ∨ s.g.h ≤ s.v)
def SmG.at (s : SmG) : Nat := (bif s.g.rep then (s.v % s.g.h) * s.g.w + s.u % s.g.w else s.v * s.g.w + s.u).toNat
def SmG.ink (s : SmG) : Ink := bif s.out then ⟨0, 0, 0, 0, 0, 0, 0, 0⟩ else s.g.px s.at
def SmG.soft (s : SmG) : Int := bif s.out then 0 else 255
def spSample : FSpec := mkSpec 94 (γ := SmG) (fun | [.agg _ g, .int _ u, .int _ v] => some ⟨imgD g, u, v⟩ | _ => none) (fun s => [imgS s.g, .int .i64 s.u, .int .i64 s.v]) SmG.ok (fun s => .tup 2 (lst [.agg 8 (lst (inkL s.ink)), .int .u8 s.soft]))
theorem ok_sample : SpecOK Try.prog spSample := by
  refine spec_sound (specs := [spQuo]) (all_ok (⟨ok_quo, trivial⟩)) (eqs := []) (fun _ _ h => (List.not_mem_nil h).elim) Aff.mixed Try.func94 rfl (by kernel_rfl) (fun _ _ => by kernel_rfl) (fun g => A0) (fun g => Nat.le_of_ble_eq_true (by kernel_rfl)) ?_
  rintro ⟨g, u, v⟩ hs
  refine vc_of (B := True ∧ True ∧ True ∧ True ∧ True ∧ Sx.Br g.rep (True ∧ True ∧ True ∧ True ∧ (((Sx.Ask (IntKind.i64 = IntKind.i64) ∧ Sx.Ask (u = u)) ∧ (Sx.Ask (IntKind.i64 = IntKind.i64) ∧ Sx.Ask (g.w = g.w)) ∧ True) ∧ Sx.Ask (((-4611686018427387904 : Int) ≤ u ∧ u ≤ (4611686018427387904 : Int)) ∧ (1 : Int) ≤ g.w ∧ g.w ≤ (9223372036854775807 : Int))) ∧ True ∧ True ∧ Sx.Ask ((-9223372036854775808 : Int) ≤ u / g.w * g.w ∧ u / g.w * g.w ≤ (9223372036854775807 : Int)) ∧ Sx.Ask ((-9223372036854775808 : Int) ≤ u - u / g.w * g.w ∧ u - u / g.w * g.w ≤ (9223372036854775807 : Int)) ∧ True ∧ True ∧ True ∧ True ∧ (((Sx.Ask (IntKind.i64 = IntKind.i64) ∧ Sx.Ask (v = v)) ∧ (Sx.Ask (IntKind.i64 = IntKind.i64) ∧ Sx.Ask (g.h = g.h)) ∧ True) ∧ Sx.Ask (((-4611686018427387904 : Int) ≤ v ∧ v ≤ (4611686018427387904 : Int)) ∧ (1 : Int) ≤ g.h ∧ g.h ≤ (9223372036854775807 : Int))) ∧ True ∧ True ∧ Sx.Ask ((-9223372036854775808 : Int) ≤ v / g.h * g.h ∧ v / g.h * g.h ≤ (9223372036854775807 : Int)) ∧ Sx.Ask ((-9223372036854775808 : Int) ≤ v - v / g.h * g.h ∧ v - v / g.h * g.h ≤ (9223372036854775807 : Int)) ∧ True ∧ True ∧ True ∧ True ∧ True ∧ Sx.Ask ((-9223372036854775808 : Int) ≤ (v - v / g.h * g.h) * g.w ∧ (v - v / g.h * g.h) * g.w ≤ (9223372036854775807 : Int)) ∧ True ∧ Sx.Ask ((-9223372036854775808 : Int) ≤ (v - v / g.h * g.h) * g.w + (u - u / g.w * g.w) ∧ (v - v / g.h * g.h) * g.w + (u - u / g.w * g.w) ≤ (9223372036854775807 : Int)) ∧ True ∧ True ∧ True ∧ True ∧ True ∧ Sx.Br (decide ((↑g.sn : Int) = (0 : Int))) (True ∧ True ∧ True ∧ Sx.Ask ((0 : Int) ≤ (v - v / g.h * g.h) * g.w + (u - u / g.w * g.w) ∧ (v - v / g.h * g.h) * g.w + (u - u / g.w * g.w) < (↑g.n : Int)) ∧ True ∧ True ∧ True ∧ (True ∧ True) ∧ (True ∧ (((((((True ∧ Sx.Ask (IntKind.u8 = IntKind.u8) ∧ Sx.Ask ((g.px ((v - v / g.h * g.h) * g.w + (u - u / g.w * g.w)).toNat).c0 = (SmG.mk g u v).ink.c0)) ∧ Sx.Ask (IntKind.u8 = IntKind.u8) ∧ Sx.Ask ((g.px ((v - v / g.h * g.h) * g.w + (u - u / g.w * g.w)).toNat).c1 = (SmG.mk g u v).ink.c1)) ∧ Sx.Ask (IntKind.u8 = IntKind.u8) ∧ Sx.Ask ((g.px ((v - v / g.h * g.h) * g.w + (u - u / g.w * g.w)).toNat).c2 = (SmG.mk g u v).ink.c2)) ∧ Sx.Ask (IntKind.u8 = IntKind.u8) ∧ Sx.Ask ((g.px ((v - v / g.h * g.h) * g.w + (u - u / g.w * g.w)).toNat).c3 = (SmG.mk g u v).ink.c3)) ∧ Sx.Ask (IntKind.u8 = IntKind.u8) ∧ Sx.Ask ((g.px ((v - v / g.h * g.h) * g.w + (u - u / g.w * g.w)).toNat).c4 = (SmG.mk g u v).ink.c4)) ∧ Sx.Ask (IntKind.u8 = IntKind.u8) ∧ Sx.Ask ((g.px ((v - v / g.h * g.h) * g.w + (u - u / g.w * g.w)).toNat).c5 = (SmG.mk g u v).ink.c5)) ∧ Sx.Ask (IntKind.u8 = IntKind.u8) ∧ Sx.Ask ((g.px ((v - v / g.h * g.h) * g.w + (u - u / g.w * g.w)).toNat).c6 = (SmG.mk g u v).ink.c6)) ∧ Sx.Ask (IntKind.u8 = IntKind.u8) ∧ Sx.Ask ((g.px ((v - v / g.h * g.h) * g.w + (u - u / g.w * g.w)).toNat).c7 = (SmG.mk g u v).ink.c7)) ∧ Sx.Ask (IntKind.u8 = IntKind.u8) ∧ Sx.Ask ((255 : Int) = (SmG.mk g u v).soft)) False) (True ∧ True ∧ True ∧ Sx.Br (decide (u < (0 : Int))) (True ∧ True ∧ True ∧ True ∧ True ∧ True ∧ True ∧ True ∧ (True ∧ True) ∧ (True ∧ (((((((True ∧ Sx.Ask (IntKind.u8 = IntKind.u8) ∧ Sx.Ask ((0 : Int) = (SmG.mk g u v).ink.c0)) ∧ Sx.Ask (IntKind.u8 = IntKind.u8) ∧ Sx.Ask ((0 : Int) = (SmG.mk g u v).ink.c1)) ∧ Sx.Ask (IntKind.u8 = IntKind.u8) ∧ Sx.Ask ((0 : Int) = (SmG.mk g u v).ink.c2)) ∧ Sx.Ask (IntKind.u8 = IntKind.u8) ∧ Sx.Ask ((0 : Int) = (SmG.mk g u v).ink.c3)) ∧ Sx.Ask (IntKind.u8 = IntKind.u8) ∧ Sx.Ask ((0 : Int) = (SmG.mk g u v).ink.c4)) ∧ Sx.Ask (IntKind.u8 = IntKind.u8) ∧ Sx.Ask ((0 : Int) = (SmG.mk g u v).ink.c5)) ∧ Sx.Ask (IntKind.u8 = IntKind.u8) ∧ Sx.Ask ((0 : Int) = (SmG.mk g u v).ink.c6)) ∧ Sx.Ask (IntKind.u8 = IntKind.u8) ∧ Sx.Ask ((0 : Int) = (SmG.mk g u v).ink.c7)) ∧ Sx.Ask (IntKind.u8 = IntKind.u8) ∧ Sx.Ask ((0 : Int) = (SmG.mk g u v).soft)) (True ∧ True ∧ True ∧ True ∧ Sx.Br (decide (v < (0 : Int))) (True ∧ True ∧ True ∧ True ∧ True ∧ True ∧ (True ∧ True) ∧ (True ∧ (((((((True ∧ Sx.Ask (IntKind.u8 = IntKind.u8) ∧ Sx.Ask ((0 : Int) = (SmG.mk g u v).ink.c0)) ∧ Sx.Ask (IntKind.u8 = IntKind.u8) ∧ Sx.Ask ((0 : Int) = (SmG.mk g u v).ink.c1)) ∧ Sx.Ask (IntKind.u8 = IntKind.u8) ∧ Sx.Ask ((0 : Int) = (SmG.mk g u v).ink.c2)) ∧ Sx.Ask (IntKind.u8 = IntKind.u8) ∧ Sx.Ask ((0 : Int) = (SmG.mk g u v).ink.c3)) ∧ Sx.Ask (IntKind.u8 = IntKind.u8) ∧ Sx.Ask ((0 : Int) = (SmG.mk g u v).ink.c4)) ∧ Sx.Ask (IntKind.u8 = IntKind.u8) ∧ Sx.Ask ((0 : Int) = (SmG.mk g u v).ink.c5)) ∧ Sx.Ask (IntKind.u8 = IntKind.u8) ∧ Sx.Ask ((0 : Int) = (SmG.mk g u v).ink.c6)) ∧ Sx.Ask (IntKind.u8 = IntKind.u8) ∧ Sx.Ask ((0 : Int) = (SmG.mk g u v).ink.c7)) ∧ Sx.Ask (IntKind.u8 = IntKind.u8) ∧ Sx.Ask ((0 : Int) = (SmG.mk g u v).soft)) (True ∧ True ∧ True ∧ True ∧ True ∧ True ∧ Sx.Br (decide (g.w ≤ u)) (True ∧ True ∧ True ∧ True ∧ (True ∧ True) ∧ (True ∧ (((((((True ∧ Sx.Ask (IntKind.u8 = IntKind.u8) ∧ Sx.Ask ((0 : Int) = (SmG.mk g u v).ink.c0)) ∧ Sx.Ask (IntKind.u8 = IntKind.u8) ∧ Sx.Ask ((0 : Int) = (SmG.mk g u v).ink.c1)) ∧ Sx.Ask (IntKind.u8 = IntKind.u8) ∧ Sx.Ask ((0 : Int) = (SmG.mk g u v).ink.c2)) ∧ Sx.Ask (IntKind.u8 = IntKind.u8) ∧ Sx.Ask ((0 : Int) = (SmG.mk g u v).ink.c3)) ∧ Sx.Ask (IntKind.u8 = IntKind.u8) ∧ Sx.Ask ((0 : Int) = (SmG.mk g u v).ink.c4)) ∧ Sx.Ask (IntKind.u8 = IntKind.u8) ∧ Sx.Ask ((0 : Int) = (SmG.mk g u v).ink.c5)) ∧ Sx.Ask (IntKind.u8 = IntKind.u8) ∧ Sx.Ask ((0 : Int) = (SmG.mk g u v).ink.c6)) ∧ Sx.Ask (IntKind.u8 = IntKind.u8) ∧ Sx.Ask ((0 : Int) = (SmG.mk g u v).ink.c7)) ∧ Sx.Ask (IntKind.u8 = IntKind.u8) ∧ Sx.Ask ((0 : Int) = (SmG.mk g u v).soft)) (True ∧ True ∧ True ∧ True ∧ True ∧ Sx.Br (decide (g.h ≤ v)) (True ∧ True ∧ True ∧ (True ∧ True) ∧ (True ∧ (((((((True ∧ Sx.Ask (IntKind.u8 = IntKind.u8) ∧ Sx.Ask ((0 : Int) = (SmG.mk g u v).ink.c0)) ∧ Sx.Ask (IntKind.u8 = IntKind.u8) ∧ Sx.Ask ((0 : Int) = (SmG.mk g u v).ink.c1)) ∧ Sx.Ask (IntKind.u8 = IntKind.u8) ∧ Sx.Ask ((0 : Int) = (SmG.mk g u v).ink.c2)) ∧ Sx.Ask (IntKind.u8 = IntKind.u8) ∧ Sx.Ask ((0 : Int) = (SmG.mk g u v).ink.c3)) ∧ Sx.Ask (IntKind.u8 = IntKind.u8) ∧ Sx.Ask ((0 : Int) = (SmG.mk g u v).ink.c4)) ∧ Sx.Ask (IntKind.u8 = IntKind.u8) ∧ Sx.Ask ((0 : Int) = (SmG.mk g u v).ink.c5)) ∧ Sx.Ask (IntKind.u8 = IntKind.u8) ∧ Sx.Ask ((0 : Int) = (SmG.mk g u v).ink.c6)) ∧ Sx.Ask (IntKind.u8 = IntKind.u8) ∧ Sx.Ask ((0 : Int) = (SmG.mk g u v).ink.c7)) ∧ Sx.Ask (IntKind.u8 = IntKind.u8) ∧ Sx.Ask ((0 : Int) = (SmG.mk g u v).soft)) (True ∧ True ∧ True ∧ Sx.Ask ((-9223372036854775808 : Int) ≤ v * g.w ∧ v * g.w ≤ (9223372036854775807 : Int)) ∧ True ∧ Sx.Ask ((-9223372036854775808 : Int) ≤ v * g.w + u ∧ v * g.w + u ≤ (9223372036854775807 : Int)) ∧ True ∧ True ∧ True ∧ True ∧ True ∧ Sx.Br (decide ((↑g.sn : Int) = (0 : Int))) (True ∧ True ∧ True ∧ Sx.Ask ((0 : Int) ≤ v * g.w + u ∧ v * g.w + u < (↑g.n : Int)) ∧ True ∧ True ∧ True ∧ (True ∧ True) ∧ (True ∧ (((((((True ∧ Sx.Ask (IntKind.u8 = IntKind.u8) ∧ Sx.Ask ((g.px (v * g.w + u).toNat).c0 = (SmG.mk g u v).ink.c0)) ∧ Sx.Ask (IntKind.u8 = IntKind.u8) ∧ Sx.Ask ((g.px (v * g.w + u).toNat).c1 = (SmG.mk g u v).ink.c1)) ∧ Sx.Ask (IntKind.u8 = IntKind.u8) ∧ Sx.Ask ((g.px (v * g.w + u).toNat).c2 = (SmG.mk g u v).ink.c2)) ∧ Sx.Ask (IntKind.u8 = IntKind.u8) ∧ Sx.Ask ((g.px (v * g.w + u).toNat).c3 = (SmG.mk g u v).ink.c3)) ∧ Sx.Ask (IntKind.u8 = IntKind.u8) ∧ Sx.Ask ((g.px (v * g.w + u).toNat).c4 = (SmG.mk g u v).ink.c4)) ∧ Sx.Ask (IntKind.u8 = IntKind.u8) ∧ Sx.Ask ((g.px (v * g.w + u).toNat).c5 = (SmG.mk g u v).ink.c5)) ∧ Sx.Ask (IntKind.u8 = IntKind.u8) ∧ Sx.Ask ((g.px (v * g.w + u).toNat).c6 = (SmG.mk g u v).ink.c6)) ∧ Sx.Ask (IntKind.u8 = IntKind.u8) ∧ Sx.Ask ((g.px (v * g.w + u).toNat).c7 = (SmG.mk g u v).ink.c7)) ∧ Sx.Ask (IntKind.u8 = IntKind.u8) ∧ Sx.Ask ((255 : Int) = (SmG.mk g u v).soft)) False)))))) (by kernel_rfl) ?_
  simp only [ask_iff, br_iff, eq_self, true_and, and_true, implies_true, forall_const, decide_eq_true_eq, decide_eq_false_iff_not, ne_eq, Nat.mul_one, Nat.add_zero, Nat.zero_add]
  obtain ⟨⟨⟨⟨w1, w2⟩, h1, h2⟩, hn, hsn⟩, ⟨hu, hu'⟩, hv, hv'⟩ := hs
  simp only at w1 w2 h1 h2 hn hsn hu hu' hv hv'
  have hsn' : (g.sn : Int) = 0 := by omega
  have mu := Int.emod_add_mul_ediv u g.w
  have mv := Int.emod_add_mul_ediv v g.h
  have bu := Int.emod_nonneg u (b := g.w) (by omega)
  have bu' := Int.emod_lt_of_pos u (b := g.w) (by omega)
  have bv := Int.emod_nonneg v (b := g.h) (by omega)
  have bv' := Int.emod_lt_of_pos v (b := g.h) (by omega)
  rw [Int.mul_comm] at mu mv
  have eu : u - u / g.w * g.w = u % g.w := by omega
  have ev : v - v / g.h * g.h = v % g.h := by omega
  simp only [eu, ev]
  have rb : ∀ a b : Int, 0 ≤ a → a < g.h → 0 ≤ b → b < g.w → 0 ≤ a * g.w ∧ a * g.w + b < g.n ∧ g.n ≤ 65536 := fun a b a1 a2 b1 b2 => by
    have q0 : 0 ≤ a * g.w := Int.mul_nonneg a1 (by omega)
    have q1 : (a + 1) * g.w ≤ g.h * g.w := Int.mul_le_mul_of_nonneg_right (by omega) (by omega)
    have q2 : g.w * g.h ≤ 256 * 256 := Int.mul_le_mul w2 h2 (by omega) (by omega)
    rw [Int.add_mul, Int.mul_comm g.h] at q1
    omega
  have out0 : g.rep = false → (u < 0 ∨ v < 0 ∨ g.w ≤ u ∨ g.h ≤ v) → (⟨0, 0, 0, 0, 0, 0, 0, 0⟩ : Ink) = SmG.ink ⟨g, u, v⟩ ∧ 0 = SmG.soft ⟨g, u, v⟩ := fun hr ho => by
    have e : SmG.out ⟨g, u, v⟩ = true := by unfold SmG.out; rw [hr]; exact decide_eq_true ho
    unfold SmG.ink SmG.soft
    rw [e]
    exact ⟨rfl, rfl⟩
  have in0 : g.rep = false → ¬(u < 0 ∨ v < 0 ∨ g.w ≤ u ∨ g.h ≤ v) → g.px (v * g.w + u).toNat = SmG.ink ⟨g, u, v⟩ ∧ 255 = SmG.soft ⟨g, u, v⟩ := fun hr ho => by
    have e : SmG.out ⟨g, u, v⟩ = false := by unfold SmG.out; rw [hr]; exact decide_eq_false ho
    unfold SmG.ink SmG.soft SmG.at
    rw [e, hr]
    exact ⟨rfl, rfl⟩
  have in1 : g.rep = true → g.px (v % g.h * g.w + u % g.w).toNat = SmG.ink ⟨g, u, v⟩ ∧ 255 = SmG.soft ⟨g, u, v⟩ := fun hr => by
    have e : SmG.out ⟨g, u, v⟩ = false := by unfold SmG.out; rw [hr]; rfl
    unfold SmG.ink SmG.soft SmG.at
    rw [e, hr]
    exact ⟨rfl, rfl⟩
  have all : ∀ {f k : Ink} {a b : Int}, f = k ∧ a = b → (((((((f.c0 = k.c0 ∧ f.c1 = k.c1) ∧ f.c2 = k.c2) ∧ f.c3 = k.c3) ∧ f.c4 = k.c4) ∧ f.c5 = k.c5) ∧ f.c6 = k.c6) ∧ f.c7 = k.c7) ∧ a = b := fun h => by rw [h.1]; exact ⟨⟨⟨⟨⟨⟨⟨⟨rfl, rfl⟩, rfl⟩, rfl⟩, rfl⟩, rfl⟩, rfl⟩, rfl⟩, h.2⟩
  refine ⟨fun hr => ?_, fun hr => ⟨fun c1 => all (out0 hr (by omega)), fun c1 => ⟨fun c2 => all (out0 hr (by omega)), fun c2 => ⟨fun c3 => all (out0 hr (by omega)), fun c3 => ⟨fun c4 => all (out0 hr (by omega)), fun c4 => ?_⟩⟩⟩⟩⟩
  · have r := rb _ _ bv bv' bu bu'
    exact ⟨by omega, by omega, by omega, by omega, by omega, by omega, by omega, by omega, fun _ => ⟨by omega, all (in1 hr)⟩, fun h => absurd hsn' h⟩
  · have r := rb v u (by omega) (by omega) (by omega) (by omega)
    exact ⟨by omega, by omega, fun _ => ⟨by omega, all (in0 hr (by omega))⟩, fun h => absurd hsn' h⟩
end Go.Proofs.Ytbmgclpgompjmaa.Img
