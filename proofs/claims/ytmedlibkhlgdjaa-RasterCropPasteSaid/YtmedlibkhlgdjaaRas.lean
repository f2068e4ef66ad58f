/- Package raster, by the evaluation: Check, build with its closures, Turn, Mirror, Crop, Make. -/
import Derived.Test.YtmedlibkhlgdjaaSxz
import Derived.Test.YtmedlibkhlgdjaaAff
namespace Go.Proofs.Ytmedlibkhlgdjaa.Ras
open Go.RowKit Sx Num Aff
set_option maxRecDepth 100000
structure Grid where
  w : Int
  h : Int
  len : Nat
  pix : Nat → Int
def gridL (g : Grid) : List SV := [.int .i64 g.w, .int .i64 g.h, .sl g.len 1 (fun i _ => .int .u8 (g.pix i))]
def gridS (g : Grid) : SV := .agg 3 (lst (gridL g))
def gridD (g : Nat → SV) : Grid := ⟨intOf (g 0), intOf (g 1), slLen (g 2), slCell 0 (g 2)⟩
def Grid.sized (g : Grid) : Prop := (1 ≤ g.w ∧ g.w ≤ 1024) ∧ 1 ≤ g.h ∧ g.h ≤ 1024
def Grid.ok (g : Grid) : Prop := g.sized ∧ (g.len : Int) = g.w * g.h
def spSized : FSpec := mkSpec 55 (γ := Int × Int) (fun | [.int _ w, .int _ h] => some (w, h) | _ => none) (fun g => [.int .i64 g.1, .int .i64 g.2]) (fun g => (1 ≤ g.1 ∧ g.1 ≤ 1024) ∧ 1 ≤ g.2 ∧ g.2 ≤ 1024) (fun _ => .bool true)
theorem ok_sized : SpecOK Try.prog spSized := by
  refine spec_sound (specs := []) (all_ok trivial) (eqs := []) (fun _ _ h => (List.not_mem_nil h).elim) Aff.mixed Try.func55 rfl (by kernel_rfl) (fun _ _ => by kernel_rfl) (fun g => A0) (fun g => Nat.le_of_ble_eq_true (by kernel_rfl)) ?_
  rintro ⟨w, h⟩ ⟨⟨h1, h2⟩, h3, h4⟩
  simp only at h1 h2 h3 h4
  refine vc_of (B := True ∧ True ∧ True ∧ True ∧ Sx.Br (decide ((1 : Int) ≤ w)) (True ∧ True ∧ True ∧ True ∧ Sx.Br (decide (w ≤ (1024 : Int))) (True ∧ True ∧ True ∧ True ∧ Sx.Br (decide ((1 : Int) ≤ h)) (True ∧ True ∧ True ∧ True ∧ True ∧ Sx.Ask (decide (h ≤ (1024 : Int)) = true)) (True ∧ True ∧ True ∧ Sx.Ask (false = true))) (True ∧ True ∧ True ∧ True ∧ True ∧ Sx.Ask (false = true))) (True ∧ True ∧ True ∧ True ∧ True ∧ True ∧ True ∧ Sx.Ask (false = true))) (by kernel_rfl) ?_
  simp [ask_iff, br_iff]
  omega
def spCheck : FSpec := mkSpec 46 (γ := Grid) (fun | [.agg _ g] => some (gridD g) | _ => none) (fun g => [gridS g]) Grid.ok (fun _ => .int .i64 0)
theorem ok_check : SpecOK Try.prog spCheck := by
  refine spec_sound (specs := [spSized]) (all_ok (⟨ok_sized, trivial⟩)) (eqs := []) (fun _ _ h => (List.not_mem_nil h).elim) Aff.mixed Try.func46 rfl (by kernel_rfl) (fun _ _ => by kernel_rfl) (fun g => A0) (fun g => Nat.le_of_ble_eq_true (by kernel_rfl)) ?_
  rintro g ⟨⟨⟨h1, h2⟩, h3, h4⟩, h5⟩
  have hb : g.w * g.h ≤ 1024 * 1024 := Int.mul_le_mul h2 h4 (by omega) (by omega)
  have hc : 0 ≤ g.w * g.h := Int.mul_nonneg (by omega) (by omega)
  refine vc_of (B := True ∧ True ∧ True ∧ True ∧ True ∧ True ∧ (((Sx.Ask (IntKind.i64 = IntKind.i64) ∧ Sx.Ask (g.w = g.w)) ∧ (Sx.Ask (IntKind.i64 = IntKind.i64) ∧ Sx.Ask (g.h = g.h)) ∧ True) ∧ Sx.Ask (((1 : Int) ≤ g.w ∧ g.w ≤ (1024 : Int)) ∧ (1 : Int) ≤ g.h ∧ g.h ≤ (1024 : Int))) ∧ True ∧ True ∧ True ∧ True ∧ True ∧ True ∧ True ∧ True ∧ Sx.Ask ((-9223372036854775808 : Int) ≤ g.w * g.h ∧ g.w * g.h ≤ (9223372036854775807 : Int)) ∧ True ∧ Sx.Br (decide ((↑g.len : Int) ≠ g.w * g.h)) (True ∧ True ∧ Sx.Ask (IntKind.i64 = IntKind.i64) ∧ Sx.Ask ((4 : Int) = (0 : Int))) (True ∧ True ∧ Sx.Ask (IntKind.i64 = IntKind.i64) ∧ Sx.Ask ((0 : Int) = (0 : Int)))) (by kernel_rfl) ?_
  simp [ask_iff, br_iff, h5]
  omega
/-! The closures that hand out pixels. -/
inductive Cl : Type
  | t1 (g : Grid)
  | t2 (g : Grid)
  | t3 (g : Grid)
  | mir (g : Grid)
  | crop (g : Grid) (x y : Int)
  | mk (v : Int)
def i1 (x : Int) : SV := .ref 1 (lst [.int .i64 x])
def clS : Cl → SV
  | .t1 g => .fn 48 3 (lst [.ref 3 (lst (gridL g)), i1 g.h, i1 g.w])
  | .t2 g => .fn 49 3 (lst [.ref 3 (lst (gridL g)), i1 g.h, i1 g.w])
  | .t3 g => .fn 50 2 (lst [.ref 3 (lst (gridL g)), i1 g.w])
  | .mir g => .fn 52 1 (lst [.ref 3 (lst (gridL g))])
  | .crop g x y => .fn 54 3 (lst [.ref 3 (lst (gridL g)), i1 y, i1 x])
  | .mk v => .fn 56 1 (lst [.ref 1 (lst [.int .u8 v])])
/-- The place of a pixel. -/
def clI : Cl → Int → Int → Int
  | .t1 g, x, y => (g.h - 1 - x) * g.w + y
  | .t2 g, x, y => (g.h - 1 - y) * g.w + g.w - 1 - x
  | .t3 g, x, y => x * g.w + g.w - 1 - y
  | .mir g, x, y => y * g.w + g.w - 1 - x
  | .crop g x0 y0, x, y => (y0 + y) * g.w + x0 + x
  | .mk _, _, _ => 0
def clG : Cl → Option Grid
  | .t1 g => some g
  | .t2 g => some g
  | .t3 g => some g
  | .mir g => some g
  | .crop g _ _ => some g
  | .mk _ => none
def clV (c : Cl) (x y : Int) : Int := match c with
  | .t1 g => g.pix (clI (.t1 g) x y).toNat
  | .t2 g => g.pix (clI (.t2 g) x y).toNat
  | .t3 g => g.pix (clI (.t3 g) x y).toNat
  | .mir g => g.pix (clI (.mir g) x y).toNat
  | .crop g x0 y0 => g.pix (clI (.crop g x0 y0) x y).toNat
  | .mk v => v
/-- A place within. -/
def Grid.at (g : Grid) (i : Int) : Prop := g.ok ∧ 0 ≤ i ∧ i < g.len
def clOK : Cl → Int → Int → Prop
  | .t1 g, x, y => (g.at (clI (.t1 g) x y) ∧ 0 ≤ x ∧ x < 1024) ∧ 0 ≤ y ∧ y < 1024
  | .t2 g, x, y => (g.at (clI (.t2 g) x y) ∧ 0 ≤ x ∧ x < 1024) ∧ 0 ≤ y ∧ y < 1024
  | .t3 g, x, y => (g.at (clI (.t3 g) x y) ∧ 0 ≤ x ∧ x < 1024) ∧ 0 ≤ y ∧ y < 1024
  | .mir g, x, y => (g.at (clI (.mir g) x y) ∧ 0 ≤ x ∧ x < 1024) ∧ 0 ≤ y ∧ y < 1024
  | .crop g x0 y0, x, y => (g.at (clI (.crop g x0 y0) x y) ∧ (0 ≤ x ∧ x < 1024) ∧ 0 ≤ x0 ∧ x0 ≤ 1024) ∧ (0 ≤ y ∧ y < 1024) ∧ 0 ≤ y0 ∧ y0 ≤ 1024
  | .mk _, _, _ => True
def refF : SV → Nat → SV
  | .ref _ g => g
  | _ => fun _ => .any
structure ClG where
  c : Cl
  x : Int
  y : Int
def spT1 : FSpec := mkSpec 48 (γ := Grid × Int × Int) (fun | [.int _ x, .int _ y, .ref _ g, _, _] => some (gridD g, x, y) | _ => none) (fun g => [.int .i64 g.2.1, .int .i64 g.2.2, .ref 3 (lst (gridL g.1)), i1 g.1.h, i1 g.1.w])
  (fun g => clOK (.t1 g.1) g.2.1 g.2.2) (fun g => .int .u8 (clV (.t1 g.1) g.2.1 g.2.2))
def spT2 : FSpec := mkSpec 49 (γ := Grid × Int × Int) (fun | [.int _ x, .int _ y, .ref _ g, _, _] => some (gridD g, x, y) | _ => none) (fun g => [.int .i64 g.2.1, .int .i64 g.2.2, .ref 3 (lst (gridL g.1)), i1 g.1.h, i1 g.1.w])
  (fun g => clOK (.t2 g.1) g.2.1 g.2.2) (fun g => .int .u8 (clV (.t2 g.1) g.2.1 g.2.2))
def spT3 : FSpec := mkSpec 50 (γ := Grid × Int × Int) (fun | [.int _ x, .int _ y, .ref _ g, _] => some (gridD g, x, y) | _ => none) (fun g => [.int .i64 g.2.1, .int .i64 g.2.2, .ref 3 (lst (gridL g.1)), i1 g.1.w])
  (fun g => clOK (.t3 g.1) g.2.1 g.2.2) (fun g => .int .u8 (clV (.t3 g.1) g.2.1 g.2.2))
def spMir1 : FSpec := mkSpec 52 (γ := Grid × Int × Int) (fun | [.int _ x, .int _ y, .ref _ g] => some (gridD g, x, y) | _ => none) (fun g => [.int .i64 g.2.1, .int .i64 g.2.2, .ref 3 (lst (gridL g.1))])
  (fun g => clOK (.mir g.1) g.2.1 g.2.2) (fun g => .int .u8 (clV (.mir g.1) g.2.1 g.2.2))
def spCrop1 : FSpec := mkSpec 54 (γ := (Grid × Int × Int) × Int × Int) (fun | [.int _ x, .int _ y, .ref _ g, .ref _ b, .ref _ a] => some ((gridD g, intOf (a 0), intOf (b 0)), x, y) | _ => none)
  (fun g => [.int .i64 g.2.1, .int .i64 g.2.2, .ref 3 (lst (gridL g.1.1)), i1 g.1.2.2, i1 g.1.2.1]) (fun g => clOK (.crop g.1.1 g.1.2.1 g.1.2.2) g.2.1 g.2.2) (fun g => .int .u8 (clV (.crop g.1.1 g.1.2.1 g.1.2.2) g.2.1 g.2.2))
def spMk1 : FSpec := mkSpec 56 (γ := Int × Int × Int) (fun | [.int _ x, .int _ y, .ref _ g] => some (intOf (g 0), x, y) | _ => none) (fun g => [.int .i64 g.2.1, .int .i64 g.2.2, .ref 1 (lst [.int .u8 g.1])])
  (fun _ => True) (fun g => .int .u8 g.1)
theorem w_bound {g : Grid} (h : g.ok) {a : Int} (h1 : -2048 ≤ a) (h2 : a ≤ 2048) : -2097152 ≤ a * g.w ∧ a * g.w ≤ 2097152 := by
  obtain ⟨⟨⟨w1, w2⟩, _⟩, _⟩ := h
  have := mul_in (a := a) (x := g.w) (A := 2048) (X := 1024) (by omega) (by omega)
  omega
theorem ok_t1 : SpecOK Try.prog spT1 := by
  refine spec_sound (specs := []) (all_ok trivial) (eqs := []) (fun _ _ h => (List.not_mem_nil h).elim) Aff.mixed Try.func48 rfl (by kernel_rfl) (fun _ _ => by kernel_rfl) (fun g => A0) (fun g => Nat.le_of_ble_eq_true (by kernel_rfl)) ?_
  rintro ⟨g, x, y⟩ ⟨⟨⟨hg, hi, hi'⟩, hx, hx'⟩, hy, hy'⟩
  obtain ⟨⟨⟨w1, w2⟩, h1, h2⟩, h3⟩ := id hg
  simp only at *
  have b := w_bound hg (a := g.h - 1 - x) (by omega) (by omega)
  simp only [clI] at hi hi'
  refine vc_of (B := True ∧ True ∧ True ∧ True ∧ Sx.Ask ((-9223372036854775808 : Int) ≤ g.h - (1 : Int) ∧ g.h - (1 : Int) ≤ (9223372036854775807 : Int)) ∧ True ∧ Sx.Ask ((-9223372036854775808 : Int) ≤ g.h - (1 : Int) - x ∧ g.h - (1 : Int) - x ≤ (9223372036854775807 : Int)) ∧ True ∧ Sx.Ask ((-9223372036854775808 : Int) ≤ (g.h - (1 : Int) - x) * g.w ∧ (g.h - (1 : Int) - x) * g.w ≤ (9223372036854775807 : Int)) ∧ True ∧ Sx.Ask ((-9223372036854775808 : Int) ≤ (g.h - (1 : Int) - x) * g.w + y ∧ (g.h - (1 : Int) - x) * g.w + y ≤ (9223372036854775807 : Int)) ∧ Sx.Ask ((0 : Int) ≤ (g.h - (1 : Int) - x) * g.w + y ∧ (g.h - (1 : Int) - x) * g.w + y < (↑g.len : Int)) ∧ True ∧ True ∧ True ∧ Sx.Ask (IntKind.u8 = IntKind.u8) ∧ Sx.Ask (g.pix ((g.h - (1 : Int) - x) * g.w + y).toNat = clV (Cl.t1 g) x y)) (by kernel_rfl) ?_
  simp [ask_iff, br_iff, clV, clI, inLen]
  omega
theorem ok_t2 : SpecOK Try.prog spT2 := by
  refine spec_sound (specs := []) (all_ok trivial) (eqs := []) (fun _ _ h => (List.not_mem_nil h).elim) Aff.mixed Try.func49 rfl (by kernel_rfl) (fun _ _ => by kernel_rfl) (fun g => A0) (fun g => Nat.le_of_ble_eq_true (by kernel_rfl)) ?_
  rintro ⟨g, x, y⟩ ⟨⟨⟨hg, hi, hi'⟩, hx, hx'⟩, hy, hy'⟩
  obtain ⟨⟨⟨w1, w2⟩, h1, h2⟩, h3⟩ := id hg
  simp only at *
  have b := w_bound hg (a := g.h - 1 - y) (by omega) (by omega)
  simp only [clI] at hi hi'
  refine vc_of (B := True ∧ True ∧ True ∧ True ∧ Sx.Ask ((-9223372036854775808 : Int) ≤ g.h - (1 : Int) ∧ g.h - (1 : Int) ≤ (9223372036854775807 : Int)) ∧ True ∧ Sx.Ask ((-9223372036854775808 : Int) ≤ g.h - (1 : Int) - y ∧ g.h - (1 : Int) - y ≤ (9223372036854775807 : Int)) ∧ True ∧ Sx.Ask ((-9223372036854775808 : Int) ≤ (g.h - (1 : Int) - y) * g.w ∧ (g.h - (1 : Int) - y) * g.w ≤ (9223372036854775807 : Int)) ∧ True ∧ Sx.Ask ((-9223372036854775808 : Int) ≤ (g.h - (1 : Int) - y) * g.w + g.w ∧ (g.h - (1 : Int) - y) * g.w + g.w ≤ (9223372036854775807 : Int)) ∧ Sx.Ask ((-9223372036854775808 : Int) ≤ (g.h - (1 : Int) - y) * g.w + g.w - (1 : Int) ∧ (g.h - (1 : Int) - y) * g.w + g.w - (1 : Int) ≤ (9223372036854775807 : Int)) ∧ True ∧ Sx.Ask ((-9223372036854775808 : Int) ≤ (g.h - (1 : Int) - y) * g.w + g.w - (1 : Int) - x ∧ (g.h - (1 : Int) - y) * g.w + g.w - (1 : Int) - x ≤ (9223372036854775807 : Int)) ∧ Sx.Ask ((0 : Int) ≤ (g.h - (1 : Int) - y) * g.w + g.w - (1 : Int) - x ∧ (g.h - (1 : Int) - y) * g.w + g.w - (1 : Int) - x < (↑g.len : Int)) ∧ True ∧ True ∧ True ∧ Sx.Ask (IntKind.u8 = IntKind.u8) ∧ Sx.Ask (g.pix ((g.h - (1 : Int) - y) * g.w + g.w - (1 : Int) - x).toNat = clV (Cl.t2 g) x y)) (by kernel_rfl) ?_
  simp [ask_iff, br_iff, clV, clI, inLen]
  omega
theorem ok_t3 : SpecOK Try.prog spT3 := by
  refine spec_sound (specs := []) (all_ok trivial) (eqs := []) (fun _ _ h => (List.not_mem_nil h).elim) Aff.mixed Try.func50 rfl (by kernel_rfl) (fun _ _ => by kernel_rfl) (fun g => A0) (fun g => Nat.le_of_ble_eq_true (by kernel_rfl)) ?_
  rintro ⟨g, x, y⟩ ⟨⟨⟨hg, hi, hi'⟩, hx, hx'⟩, hy, hy'⟩
  obtain ⟨⟨⟨w1, w2⟩, h1, h2⟩, h3⟩ := id hg
  simp only at *
  have b := w_bound hg (a := x) (by omega) (by omega)
  simp only [clI] at hi hi'
  refine vc_of (B := True ∧ True ∧ True ∧ True ∧ True ∧ Sx.Ask ((-9223372036854775808 : Int) ≤ x * g.w ∧ x * g.w ≤ (9223372036854775807 : Int)) ∧ True ∧ Sx.Ask ((-9223372036854775808 : Int) ≤ x * g.w + g.w ∧ x * g.w + g.w ≤ (9223372036854775807 : Int)) ∧ Sx.Ask ((-9223372036854775808 : Int) ≤ x * g.w + g.w - (1 : Int) ∧ x * g.w + g.w - (1 : Int) ≤ (9223372036854775807 : Int)) ∧ True ∧ Sx.Ask ((-9223372036854775808 : Int) ≤ x * g.w + g.w - (1 : Int) - y ∧ x * g.w + g.w - (1 : Int) - y ≤ (9223372036854775807 : Int)) ∧ Sx.Ask ((0 : Int) ≤ x * g.w + g.w - (1 : Int) - y ∧ x * g.w + g.w - (1 : Int) - y < (↑g.len : Int)) ∧ True ∧ True ∧ True ∧ Sx.Ask (IntKind.u8 = IntKind.u8) ∧ Sx.Ask (g.pix (x * g.w + g.w - (1 : Int) - y).toNat = clV (Cl.t3 g) x y)) (by kernel_rfl) ?_
  simp [ask_iff, br_iff, clV, clI, inLen]
  omega
theorem ok_mir1 : SpecOK Try.prog spMir1 := by
  refine spec_sound (specs := []) (all_ok trivial) (eqs := []) (fun _ _ h => (List.not_mem_nil h).elim) Aff.mixed Try.func52 rfl (by kernel_rfl) (fun _ _ => by kernel_rfl) (fun g => A0) (fun g => Nat.le_of_ble_eq_true (by kernel_rfl)) ?_
  rintro ⟨g, x, y⟩ ⟨⟨⟨hg, hi, hi'⟩, hx, hx'⟩, hy, hy'⟩
  obtain ⟨⟨⟨w1, w2⟩, h1, h2⟩, h3⟩ := id hg
  simp only at *
  have b := w_bound hg (a := y) (by omega) (by omega)
  simp only [clI] at hi hi'
  refine vc_of (B := True ∧ True ∧ True ∧ True ∧ True ∧ True ∧ Sx.Ask ((-9223372036854775808 : Int) ≤ y * g.w ∧ y * g.w ≤ (9223372036854775807 : Int)) ∧ True ∧ True ∧ Sx.Ask ((-9223372036854775808 : Int) ≤ y * g.w + g.w ∧ y * g.w + g.w ≤ (9223372036854775807 : Int)) ∧ Sx.Ask ((-9223372036854775808 : Int) ≤ y * g.w + g.w - (1 : Int) ∧ y * g.w + g.w - (1 : Int) ≤ (9223372036854775807 : Int)) ∧ True ∧ Sx.Ask ((-9223372036854775808 : Int) ≤ y * g.w + g.w - (1 : Int) - x ∧ y * g.w + g.w - (1 : Int) - x ≤ (9223372036854775807 : Int)) ∧ Sx.Ask ((0 : Int) ≤ y * g.w + g.w - (1 : Int) - x ∧ y * g.w + g.w - (1 : Int) - x < (↑g.len : Int)) ∧ True ∧ True ∧ True ∧ Sx.Ask (IntKind.u8 = IntKind.u8) ∧ Sx.Ask (g.pix (y * g.w + g.w - (1 : Int) - x).toNat = clV (Cl.mir g) x y)) (by kernel_rfl) ?_
  simp [ask_iff, br_iff, clV, clI, inLen]
  omega
theorem ok_crop1 : SpecOK Try.prog spCrop1 := by
  refine spec_sound (specs := []) (all_ok trivial) (eqs := []) (fun _ _ h => (List.not_mem_nil h).elim) Aff.mixed Try.func54 rfl (by kernel_rfl) (fun _ _ => by kernel_rfl) (fun g => A0) (fun g => Nat.le_of_ble_eq_true (by kernel_rfl)) ?_
  rintro ⟨⟨g, x0, y0⟩, x, y⟩ ⟨⟨⟨hg, hi, hi'⟩, ⟨hx, hx'⟩, hx0, hx0'⟩, ⟨hy, hy'⟩, hy0, hy0'⟩
  obtain ⟨⟨⟨w1, w2⟩, h1, h2⟩, h3⟩ := id hg
  simp only at *
  have b := w_bound hg (a := y0 + y) (by omega) (by omega)
  simp only [clI] at hi hi'
  refine vc_of (B := True ∧ True ∧ True ∧ True ∧ True ∧ Sx.Ask ((-9223372036854775808 : Int) ≤ y0 + y ∧ y0 + y ≤ (9223372036854775807 : Int)) ∧ True ∧ True ∧ Sx.Ask ((-9223372036854775808 : Int) ≤ (y0 + y) * g.w ∧ (y0 + y) * g.w ≤ (9223372036854775807 : Int)) ∧ True ∧ Sx.Ask ((-9223372036854775808 : Int) ≤ (y0 + y) * g.w + x0 ∧ (y0 + y) * g.w + x0 ≤ (9223372036854775807 : Int)) ∧ True ∧ Sx.Ask ((-9223372036854775808 : Int) ≤ (y0 + y) * g.w + x0 + x ∧ (y0 + y) * g.w + x0 + x ≤ (9223372036854775807 : Int)) ∧ Sx.Ask ((0 : Int) ≤ (y0 + y) * g.w + x0 + x ∧ (y0 + y) * g.w + x0 + x < (↑g.len : Int)) ∧ True ∧ True ∧ True ∧ Sx.Ask (IntKind.u8 = IntKind.u8) ∧ Sx.Ask (g.pix ((y0 + y) * g.w + x0 + x).toNat = clV (Cl.crop g x0 y0) x y)) (by kernel_rfl) ?_
  simp [ask_iff, br_iff, clV, clI, inLen]
  omega
theorem ok_mk1 : SpecOK Try.prog spMk1 := by
  refine spec_sound (specs := []) (all_ok trivial) (eqs := []) (fun _ _ h => (List.not_mem_nil h).elim) Aff.mixed Try.func56 rfl (by kernel_rfl) (fun _ _ => by kernel_rfl) (fun g => A0) (fun g => Nat.le_of_ble_eq_true (by kernel_rfl)) ?_
  rintro ⟨v, x, y⟩ _
  refine vc_of (B := True ∧ True ∧ True ∧ True ∧ Sx.Ask (IntKind.u8 = IntKind.u8) ∧ Sx.Ask (v = v)) (by kernel_rfl) ?_
  simp [ask_iff, br_iff]
/-! build. -/
structure BuildG where
  w : Int
  h : Int
  c : Cl
def clD (F : Nat) (g : Nat → SV) : Option Cl :=
  if F = 48 then some (.t1 (gridD (refF (g 0))))
  else if F = 49 then some (.t2 (gridD (refF (g 0))))
  else if F = 50 then some (.t3 (gridD (refF (g 0))))
  else if F = 52 then some (.mir (gridD (refF (g 0))))
  else if F = 54 then some (.crop (gridD (refF (g 0))) (intOf (refF (g 2) 0)) (intOf (refF (g 1) 0)))
  else if F = 56 then some (.mk (intOf (refF (g 0) 0)))
  else none
/-- Pixel i of what is built. -/
def BuildG.pix (g : BuildG) (i : Nat) : Int := clV g.c ((i : Int) % g.w) ((i : Int) / g.w)
def BuildG.out (g : BuildG) : Grid := ⟨g.w, g.h, (g.w * g.h).toNat, g.pix⟩
def BuildG.ok (g : BuildG) : Prop := ((1 ≤ g.w ∧ g.w ≤ 1024) ∧ 1 ≤ g.h ∧ g.h ≤ 1024) ∧ ∀ x y, 0 ≤ x → x < g.w → 0 ≤ y → y < g.h → clOK g.c x y
def bdOut (g : BuildG) : Inv := ⟨Int, fun y => 0 ≤ y ∧ y ≤ g.h,
  fun y => ⟨[(0, .int .i64 g.w), (1, .int .i64 g.h), (2, clS g.c), (6, .own 0 0), (7, .own 2 0), (17, .int .i64 g.h), (18, .int .i64 y)],
    [.cells 3 (fun _ => .any) 25, .row 0 (y * g.w).toNat 1 (fun i _ => .int .u8 (g.pix i)) 5, .cells 3 (lst [.int .i64 g.w, .int .i64 g.h, .osl 1 0]) 25]⟩,
  fun y => (g.h - y).toNat⟩
def bdIn (g : BuildG) (y : Int) : Inv := ⟨Int, fun x => 0 ≤ x ∧ x ≤ g.w,
  fun x => ⟨[(0, .int .i64 g.w), (1, .int .i64 g.h), (2, clS g.c), (6, .own 0 0), (7, .own 2 0), (8, .int .i64 y), (17, .int .i64 g.h), (18, .int .i64 y), (21, .int .i64 g.w), (22, .int .i64 x)],
    [.cells 3 (fun _ => .any) 25, .row 0 (y * g.w + x).toNat 1 (fun i _ => .int .u8 (g.pix i)) 5, .cells 3 (lst [.int .i64 g.w, .int .i64 g.h, .osl 1 0]) 25]⟩,
  fun x => (g.w - x).toNat⟩
def spBuild : FSpec := mkSpec 47 (γ := BuildG) (fun | [.int _ w, .int _ h, .fn F _ g] => (clD F g).map fun c => ⟨w, h, c⟩ | _ => none) (fun g => [.int .i64 g.w, .int .i64 g.h, clS g.c]) BuildG.ok (fun g => gridS g.out)
theorem div_mod_at {w x y : Int} (hw : 1 ≤ w) (hx : 0 ≤ x) (hx' : x < w) (hy : 0 ≤ y) : (((y * w + x).toNat : Nat) : Int) % w = x ∧ (((y * w + x).toNat : Nat) : Int) / w = y := by
  have h0 : 0 ≤ y * w := Int.mul_nonneg hy (by omega)
  rw [Int.toNat_of_nonneg (by omega)]
  refine ⟨?_, ?_⟩
  · rw [Int.add_comm, Int.add_mul_emod_self_right, Int.emod_eq_of_lt hx hx']
  · rw [Int.add_comm, Int.add_mul_ediv_right _ _ (by omega), Int.ediv_eq_zero_of_lt hx hx', Int.zero_add]
theorem row_bound {w h y x : Int} (w1 : 1 ≤ w) (w2 : w ≤ 1024) (h2 : h ≤ 1024) (hy : 0 ≤ y) (hy' : y < h) (hx : 0 ≤ x) (hx' : x ≤ w) : 0 ≤ y * w ∧ y * w + x ≤ w * h ∧ w * h ≤ 1048576 := by
  have a0 : 0 ≤ y * w := Int.mul_nonneg hy (by omega)
  have a1 : (y + 1) * w ≤ h * w := Int.mul_le_mul_of_nonneg_right (by omega) (by omega)
  have a2 : w * h ≤ 1024 * 1024 := Int.mul_le_mul w2 h2 (by omega) (by omega)
  rw [Int.add_mul, Int.mul_comm h w] at a1
  omega
theorem ok_build : SpecOK Try.prog spBuild := by
  refine spec_sound (specs := [spT1, spT2, spT3, spMir1, spCrop1, spMk1]) (all_ok (⟨ok_t1, ok_t2, ok_t3, ok_mir1, ok_crop1, ok_mk1, trivial⟩)) (eqs := []) (fun _ _ h => (List.not_mem_nil h).elim) Aff.mixed Try.func47 rfl (by kernel_rfl) (fun _ _ => by kernel_rfl) (fun g => (⟨[(3, .nest (bdOut g) (fun y => [(6, .inv (bdIn g y))]))], []⟩ : Ann)) (fun g => Nat.le_of_ble_eq_true (by kernel_rfl)) ?_
  rintro ⟨w, h, c⟩ ⟨⟨⟨w1, w2⟩, h1, h2⟩, hc⟩
  simp only at w1 w2 h1 h2 hc
  cases c with
  | t1 g =>
    refine vc_of (B := True ∧ True ∧ True ∧ True ∧ True ∧ Sx.Ask ((-9223372036854775808 : Int) ≤ w * h ∧ w * h ≤ (9223372036854775807 : Int)) ∧ Sx.Ask ((0 : Int) ≤ (0 : Int) ∧ (0 : Int) ≤ w * h ∧ (↑(1 : Nat) : Int) * (w * h) ≤ (140737488355328 : Int) ∧ w * h ≤ (9223372036854775807 : Int)) ∧ True ∧ True ∧ True ∧ True ∧ True ∧ (∃ (g_1 : Int), Sx.Ask ((bdOut (BuildG.mk w h (Cl.t1 g))).pre g_1) ∧ ((Sx.Ask (IntKind.i64 = IntKind.i64) ∧ Sx.Ask (w = w)) ∧ (Sx.Ask (IntKind.i64 = IntKind.i64) ∧ Sx.Ask (h = h)) ∧ (Sx.Ask ((48 : Go.FuncId) = (48 : Go.FuncId)) ∧ ((True ∧ ((True ∧ Sx.Ask (IntKind.i64 = IntKind.i64) ∧ Sx.Ask (g.w = g.w)) ∧ Sx.Ask (IntKind.i64 = IntKind.i64) ∧ Sx.Ask (g.h = g.h)) ∧ Sx.Ask (g.len = g.len) ∧ ∀ (i : Nat), i < g.len → True ∧ Sx.Ask (IntKind.u8 = IntKind.u8) ∧ Sx.Ask (g.pix i = g.pix i)) ∧ True ∧ Sx.Ask (IntKind.i64 = IntKind.i64) ∧ Sx.Ask (g.h = g.h)) ∧ True ∧ Sx.Ask (IntKind.i64 = IntKind.i64) ∧ Sx.Ask (g.w = g.w)) ∧ Sx.Ask ((0 : Nat) = (0 : Nat)) ∧ Sx.Ask ((0 : Nat) = (0 : Nat)) ∧ (Sx.Ask (IntKind.i64 = IntKind.i64) ∧ Sx.Ask (h = h)) ∧ (Sx.Ask (IntKind.i64 = IntKind.i64) ∧ Sx.Ask ((0 : Int) = g_1)) ∧ True) ∧ (((True ∧ True) ∧ True) ∧ True) ∧ (Sx.Ask (Int.toNat (0 : Int) = (g_1 * w).toNat) ∧ ∀ (i : Nat), i < (g_1 * w).toNat → True ∧ Sx.Ask (IntKind.u8 = IntKind.u8) ∧ Sx.Ask ((0 : Int) = (BuildG.mk w h (Cl.t1 g)).pix i)) ∧ (((True ∧ Sx.Ask (IntKind.i64 = IntKind.i64) ∧ Sx.Ask (w = w)) ∧ Sx.Ask (IntKind.i64 = IntKind.i64) ∧ Sx.Ask (h = h)) ∧ True) ∧ True) ∧ ∀ (g_1 : Int), (bdOut (BuildG.mk w h (Cl.t1 g))).pre g_1 → True ∧ Sx.Br (decide (g_1 < h)) (True ∧ True ∧ True ∧ True ∧ (∃ (g_2 : Int), Sx.Ask ((bdIn (BuildG.mk w h (Cl.t1 g)) g_1).pre g_2) ∧ ((Sx.Ask (IntKind.i64 = IntKind.i64) ∧ Sx.Ask (w = w)) ∧ (Sx.Ask (IntKind.i64 = IntKind.i64) ∧ Sx.Ask (h = h)) ∧ (Sx.Ask ((48 : Go.FuncId) = (48 : Go.FuncId)) ∧ ((True ∧ ((True ∧ Sx.Ask (IntKind.i64 = IntKind.i64) ∧ Sx.Ask (g.w = g.w)) ∧ Sx.Ask (IntKind.i64 = IntKind.i64) ∧ Sx.Ask (g.h = g.h)) ∧ Sx.Ask (g.len = g.len) ∧ ∀ (i : Nat), i < g.len → True ∧ Sx.Ask (IntKind.u8 = IntKind.u8) ∧ Sx.Ask (g.pix i = g.pix i)) ∧ True ∧ Sx.Ask (IntKind.i64 = IntKind.i64) ∧ Sx.Ask (g.h = g.h)) ∧ True ∧ Sx.Ask (IntKind.i64 = IntKind.i64) ∧ Sx.Ask (g.w = g.w)) ∧ Sx.Ask ((0 : Nat) = (0 : Nat)) ∧ Sx.Ask ((0 : Nat) = (0 : Nat)) ∧ (Sx.Ask (IntKind.i64 = IntKind.i64) ∧ Sx.Ask (g_1 = g_1)) ∧ (Sx.Ask (IntKind.i64 = IntKind.i64) ∧ Sx.Ask (h = h)) ∧ (Sx.Ask (IntKind.i64 = IntKind.i64) ∧ Sx.Ask (g_1 = g_1)) ∧ (Sx.Ask (IntKind.i64 = IntKind.i64) ∧ Sx.Ask (w = w)) ∧ (Sx.Ask (IntKind.i64 = IntKind.i64) ∧ Sx.Ask ((0 : Int) = g_2)) ∧ True) ∧ (((True ∧ True) ∧ True) ∧ True) ∧ (Sx.Ask ((g_1 * w).toNat = (g_1 * w + g_2).toNat) ∧ ∀ (i : Nat), i < (g_1 * w + g_2).toNat → True ∧ Sx.Ask (IntKind.u8 = IntKind.u8) ∧ Sx.Ask ((BuildG.mk w h (Cl.t1 g)).pix i = (BuildG.mk w h (Cl.t1 g)).pix i)) ∧ (((True ∧ Sx.Ask (IntKind.i64 = IntKind.i64) ∧ Sx.Ask (w = w)) ∧ Sx.Ask (IntKind.i64 = IntKind.i64) ∧ Sx.Ask (h = h)) ∧ True) ∧ True) ∧ ∀ (g_2 : Int), (bdIn (BuildG.mk w h (Cl.t1 g)) g_1).pre g_2 → True ∧ Sx.Br (decide (g_2 < w)) (True ∧ True ∧ True ∧ True ∧ True ∧ True ∧ True ∧ (((Sx.Ask (IntKind.i64 = IntKind.i64) ∧ Sx.Ask (g_2 = g_2)) ∧ (Sx.Ask (IntKind.i64 = IntKind.i64) ∧ Sx.Ask (g_1 = g_1)) ∧ (((True ∧ Sx.Ask (IntKind.i64 = IntKind.i64) ∧ Sx.Ask (g.w = g.w)) ∧ Sx.Ask (IntKind.i64 = IntKind.i64) ∧ Sx.Ask (g.h = g.h)) ∧ Sx.Ask (g.len = g.len) ∧ ∀ (i : Nat), i < g.len → True ∧ Sx.Ask (IntKind.u8 = IntKind.u8) ∧ Sx.Ask (g.pix i = g.pix i)) ∧ (True ∧ Sx.Ask (IntKind.i64 = IntKind.i64) ∧ Sx.Ask (g.h = g.h)) ∧ (True ∧ Sx.Ask (IntKind.i64 = IntKind.i64) ∧ Sx.Ask (g.w = g.w)) ∧ True) ∧ Sx.Ask (clOK (Cl.t1 g) g_2 g_1)) ∧ True ∧ Sx.Ask ((g_1 * w + g_2).toNat + (1 : Nat) ≤ (9223372036854775807 : Nat) ∧ ((g_1 * w + g_2).toNat + (1 : Nat)) * (1 : Nat) ≤ (140737488355328 : Nat)) ∧ True ∧ True ∧ Sx.Ask ((-9223372036854775808 : Int) ≤ g_2 + (1 : Int) ∧ g_2 + (1 : Int) ≤ (9223372036854775807 : Int)) ∧ True ∧ ∃ (g' : Int), Sx.Ask ((bdIn (BuildG.mk w h (Cl.t1 g)) g_1).pre g') ∧ (((Sx.Ask (IntKind.i64 = IntKind.i64) ∧ Sx.Ask (w = w)) ∧ (Sx.Ask (IntKind.i64 = IntKind.i64) ∧ Sx.Ask (h = h)) ∧ (Sx.Ask ((48 : Go.FuncId) = (48 : Go.FuncId)) ∧ ((True ∧ ((True ∧ Sx.Ask (IntKind.i64 = IntKind.i64) ∧ Sx.Ask (g.w = g.w)) ∧ Sx.Ask (IntKind.i64 = IntKind.i64) ∧ Sx.Ask (g.h = g.h)) ∧ Sx.Ask (g.len = g.len) ∧ ∀ (i : Nat), i < g.len → True ∧ Sx.Ask (IntKind.u8 = IntKind.u8) ∧ Sx.Ask (g.pix i = g.pix i)) ∧ True ∧ Sx.Ask (IntKind.i64 = IntKind.i64) ∧ Sx.Ask (g.h = g.h)) ∧ True ∧ Sx.Ask (IntKind.i64 = IntKind.i64) ∧ Sx.Ask (g.w = g.w)) ∧ Sx.Ask ((0 : Nat) = (0 : Nat)) ∧ Sx.Ask ((0 : Nat) = (0 : Nat)) ∧ (Sx.Ask (IntKind.i64 = IntKind.i64) ∧ Sx.Ask (g_1 = g_1)) ∧ (Sx.Ask (IntKind.i64 = IntKind.i64) ∧ Sx.Ask (h = h)) ∧ (Sx.Ask (IntKind.i64 = IntKind.i64) ∧ Sx.Ask (g_1 = g_1)) ∧ (Sx.Ask (IntKind.i64 = IntKind.i64) ∧ Sx.Ask (w = w)) ∧ (Sx.Ask (IntKind.i64 = IntKind.i64) ∧ Sx.Ask (g_2 + (1 : Int) = g')) ∧ True) ∧ (((True ∧ True) ∧ True) ∧ True) ∧ (Sx.Ask ((g_1 * w + g_2).toNat + (1 : Nat) = (g_1 * w + g').toNat) ∧ ∀ (i : Nat), i < (g_1 * w + g').toNat → True ∧ Sx.Ask (IntKind.u8 = IntKind.u8) ∧ Sx.Ask ((bif decide (i < (g_1 * w + g_2).toNat) then (BuildG.mk w h (Cl.t1 g)).pix i else clV (Cl.t1 g) g_2 g_1) = (BuildG.mk w h (Cl.t1 g)).pix i)) ∧ (((True ∧ Sx.Ask (IntKind.i64 = IntKind.i64) ∧ Sx.Ask (w = w)) ∧ Sx.Ask (IntKind.i64 = IntKind.i64) ∧ Sx.Ask (h = h)) ∧ True) ∧ True) ∧ Sx.Ask ((bdIn (BuildG.mk w h (Cl.t1 g)) g_1).meas g' < (bdIn (BuildG.mk w h (Cl.t1 g)) g_1).meas g_2)) (Sx.Ask ((-9223372036854775808 : Int) ≤ g_1 + (1 : Int) ∧ g_1 + (1 : Int) ≤ (9223372036854775807 : Int)) ∧ True ∧ ∃ (g' : Int), Sx.Ask ((bdOut (BuildG.mk w h (Cl.t1 g))).pre g') ∧ (((Sx.Ask (IntKind.i64 = IntKind.i64) ∧ Sx.Ask (w = w)) ∧ (Sx.Ask (IntKind.i64 = IntKind.i64) ∧ Sx.Ask (h = h)) ∧ (Sx.Ask ((48 : Go.FuncId) = (48 : Go.FuncId)) ∧ ((True ∧ ((True ∧ Sx.Ask (IntKind.i64 = IntKind.i64) ∧ Sx.Ask (g.w = g.w)) ∧ Sx.Ask (IntKind.i64 = IntKind.i64) ∧ Sx.Ask (g.h = g.h)) ∧ Sx.Ask (g.len = g.len) ∧ ∀ (i : Nat), i < g.len → True ∧ Sx.Ask (IntKind.u8 = IntKind.u8) ∧ Sx.Ask (g.pix i = g.pix i)) ∧ True ∧ Sx.Ask (IntKind.i64 = IntKind.i64) ∧ Sx.Ask (g.h = g.h)) ∧ True ∧ Sx.Ask (IntKind.i64 = IntKind.i64) ∧ Sx.Ask (g.w = g.w)) ∧ Sx.Ask ((0 : Nat) = (0 : Nat)) ∧ Sx.Ask ((0 : Nat) = (0 : Nat)) ∧ (Sx.Ask (IntKind.i64 = IntKind.i64) ∧ Sx.Ask (h = h)) ∧ (Sx.Ask (IntKind.i64 = IntKind.i64) ∧ Sx.Ask (g_1 + (1 : Int) = g')) ∧ True) ∧ (((True ∧ True) ∧ True) ∧ True) ∧ (Sx.Ask ((g_1 * w + g_2).toNat = (g' * w).toNat) ∧ ∀ (i : Nat), i < (g' * w).toNat → True ∧ Sx.Ask (IntKind.u8 = IntKind.u8) ∧ Sx.Ask ((BuildG.mk w h (Cl.t1 g)).pix i = (BuildG.mk w h (Cl.t1 g)).pix i)) ∧ (((True ∧ Sx.Ask (IntKind.i64 = IntKind.i64) ∧ Sx.Ask (w = w)) ∧ Sx.Ask (IntKind.i64 = IntKind.i64) ∧ Sx.Ask (h = h)) ∧ True) ∧ True) ∧ Sx.Ask ((bdOut (BuildG.mk w h (Cl.t1 g))).meas g' < (bdOut (BuildG.mk w h (Cl.t1 g))).meas g_1))) (True ∧ True ∧ (True ∧ True) ∧ ((True ∧ Sx.Ask (IntKind.i64 = IntKind.i64) ∧ Sx.Ask (w = w)) ∧ Sx.Ask (IntKind.i64 = IntKind.i64) ∧ Sx.Ask (h = h)) ∧ Sx.Ask ((g_1 * w).toNat = (w * h).toNat) ∧ ∀ (i : Nat), i < (w * h).toNat → True ∧ Sx.Ask (IntKind.u8 = IntKind.u8) ∧ Sx.Ask ((BuildG.mk w h (Cl.t1 g)).pix i = (BuildG.mk w h (Cl.t1 g)).out.pix i))) (by kernel_rfl) ?_
    simp only [ask_iff, br_iff, eq_self, true_and, and_true, implies_true, forall_const, decide_eq_true_eq, decide_eq_false_iff_not, ne_eq, Nat.mul_one, Nat.add_zero, Nat.zero_add]
    have hwh : 0 ≤ w * h ∧ w * h ≤ 1048576 := ⟨Int.mul_nonneg (by omega) (by omega), by have : w * h ≤ 1024 * 1024 := Int.mul_le_mul w2 h2 (by omega) (by omega); omega⟩
    refine ⟨by omega, by omega, ⟨(0 : Int), ⟨Int.le_refl 0, show (0 : Int) ≤ h by omega⟩, rfl, by simp, fun i hi => by simp at hi⟩, fun y hy => ?_⟩
    have hy' : 0 ≤ y ∧ y ≤ h := hy
    refine ⟨fun hlt => ⟨⟨(0 : Int), ⟨Int.le_refl 0, show (0 : Int) ≤ w by omega⟩, rfl, by simp⟩, fun x hp => ?_⟩, fun hge => ?_⟩
    · have hp' : 0 ≤ x ∧ x ≤ w := hp
      obtain ⟨q3, q4⟩ := hp'
      have b1 := row_bound w1 w2 h2 hy'.1 hlt q3 q4
      refine ⟨fun hx => ⟨hc x y q3 hx hy'.1 hlt, by omega, by omega, (x + 1 : Int), ⟨show 0 ≤ x + 1 by omega, show x + 1 ≤ w by omega⟩, ⟨rfl, by omega, fun i hi => ?_⟩, ?_⟩, fun hx => ⟨by omega, (y + 1 : Int), ⟨show 0 ≤ y + 1 by omega, show y + 1 ≤ h by omega⟩, ⟨rfl, ?_⟩, ?_⟩⟩
      · by_cases hil : i < (y * w + x).toNat
        · rw [decide_eq_true hil]; rfl
        · rw [decide_eq_false hil]
          have hi2 : i < (y * w + (x + 1)).toNat := hi
          obtain rfl : i = (y * w + x).toNat := by omega
          have dm := div_mod_at (w := w) (x := x) (y := y) w1 q3 hx hy'.1
          unfold BuildG.pix
          rw [dm.1, dm.2]
          rfl
      · show (w - (x + 1)).toNat < (w - x).toNat
        omega
      · rw [Int.add_mul]
        omega
      · show (h - (y + 1)).toNat < (h - y).toNat
        omega
    · obtain rfl : y = h := by omega
      exact ⟨by rw [Int.mul_comm], fun i hi => rfl⟩
  | t2 g =>
    refine vc_of (B := True ∧ True ∧ True ∧ True ∧ True ∧ Sx.Ask ((-9223372036854775808 : Int) ≤ w * h ∧ w * h ≤ (9223372036854775807 : Int)) ∧ Sx.Ask ((0 : Int) ≤ (0 : Int) ∧ (0 : Int) ≤ w * h ∧ (↑(1 : Nat) : Int) * (w * h) ≤ (140737488355328 : Int) ∧ w * h ≤ (9223372036854775807 : Int)) ∧ True ∧ True ∧ True ∧ True ∧ True ∧ (∃ (g_1 : Int), Sx.Ask ((bdOut (BuildG.mk w h (Cl.t2 g))).pre g_1) ∧ ((Sx.Ask (IntKind.i64 = IntKind.i64) ∧ Sx.Ask (w = w)) ∧ (Sx.Ask (IntKind.i64 = IntKind.i64) ∧ Sx.Ask (h = h)) ∧ (Sx.Ask ((49 : Go.FuncId) = (49 : Go.FuncId)) ∧ ((True ∧ ((True ∧ Sx.Ask (IntKind.i64 = IntKind.i64) ∧ Sx.Ask (g.w = g.w)) ∧ Sx.Ask (IntKind.i64 = IntKind.i64) ∧ Sx.Ask (g.h = g.h)) ∧ Sx.Ask (g.len = g.len) ∧ ∀ (i : Nat), i < g.len → True ∧ Sx.Ask (IntKind.u8 = IntKind.u8) ∧ Sx.Ask (g.pix i = g.pix i)) ∧ True ∧ Sx.Ask (IntKind.i64 = IntKind.i64) ∧ Sx.Ask (g.h = g.h)) ∧ True ∧ Sx.Ask (IntKind.i64 = IntKind.i64) ∧ Sx.Ask (g.w = g.w)) ∧ Sx.Ask ((0 : Nat) = (0 : Nat)) ∧ Sx.Ask ((0 : Nat) = (0 : Nat)) ∧ (Sx.Ask (IntKind.i64 = IntKind.i64) ∧ Sx.Ask (h = h)) ∧ (Sx.Ask (IntKind.i64 = IntKind.i64) ∧ Sx.Ask ((0 : Int) = g_1)) ∧ True) ∧ (((True ∧ True) ∧ True) ∧ True) ∧ (Sx.Ask (Int.toNat (0 : Int) = (g_1 * w).toNat) ∧ ∀ (i : Nat), i < (g_1 * w).toNat → True ∧ Sx.Ask (IntKind.u8 = IntKind.u8) ∧ Sx.Ask ((0 : Int) = (BuildG.mk w h (Cl.t2 g)).pix i)) ∧ (((True ∧ Sx.Ask (IntKind.i64 = IntKind.i64) ∧ Sx.Ask (w = w)) ∧ Sx.Ask (IntKind.i64 = IntKind.i64) ∧ Sx.Ask (h = h)) ∧ True) ∧ True) ∧ ∀ (g_1 : Int), (bdOut (BuildG.mk w h (Cl.t2 g))).pre g_1 → True ∧ Sx.Br (decide (g_1 < h)) (True ∧ True ∧ True ∧ True ∧ (∃ (g_2 : Int), Sx.Ask ((bdIn (BuildG.mk w h (Cl.t2 g)) g_1).pre g_2) ∧ ((Sx.Ask (IntKind.i64 = IntKind.i64) ∧ Sx.Ask (w = w)) ∧ (Sx.Ask (IntKind.i64 = IntKind.i64) ∧ Sx.Ask (h = h)) ∧ (Sx.Ask ((49 : Go.FuncId) = (49 : Go.FuncId)) ∧ ((True ∧ ((True ∧ Sx.Ask (IntKind.i64 = IntKind.i64) ∧ Sx.Ask (g.w = g.w)) ∧ Sx.Ask (IntKind.i64 = IntKind.i64) ∧ Sx.Ask (g.h = g.h)) ∧ Sx.Ask (g.len = g.len) ∧ ∀ (i : Nat), i < g.len → True ∧ Sx.Ask (IntKind.u8 = IntKind.u8) ∧ Sx.Ask (g.pix i = g.pix i)) ∧ True ∧ Sx.Ask (IntKind.i64 = IntKind.i64) ∧ Sx.Ask (g.h = g.h)) ∧ True ∧ Sx.Ask (IntKind.i64 = IntKind.i64) ∧ Sx.Ask (g.w = g.w)) ∧ Sx.Ask ((0 : Nat) = (0 : Nat)) ∧ Sx.Ask ((0 : Nat) = (0 : Nat)) ∧ (Sx.Ask (IntKind.i64 = IntKind.i64) ∧ Sx.Ask (g_1 = g_1)) ∧ (Sx.Ask (IntKind.i64 = IntKind.i64) ∧ Sx.Ask (h = h)) ∧ (Sx.Ask (IntKind.i64 = IntKind.i64) ∧ Sx.Ask (g_1 = g_1)) ∧ (Sx.Ask (IntKind.i64 = IntKind.i64) ∧ Sx.Ask (w = w)) ∧ (Sx.Ask (IntKind.i64 = IntKind.i64) ∧ Sx.Ask ((0 : Int) = g_2)) ∧ True) ∧ (((True ∧ True) ∧ True) ∧ True) ∧ (Sx.Ask ((g_1 * w).toNat = (g_1 * w + g_2).toNat) ∧ ∀ (i : Nat), i < (g_1 * w + g_2).toNat → True ∧ Sx.Ask (IntKind.u8 = IntKind.u8) ∧ Sx.Ask ((BuildG.mk w h (Cl.t2 g)).pix i = (BuildG.mk w h (Cl.t2 g)).pix i)) ∧ (((True ∧ Sx.Ask (IntKind.i64 = IntKind.i64) ∧ Sx.Ask (w = w)) ∧ Sx.Ask (IntKind.i64 = IntKind.i64) ∧ Sx.Ask (h = h)) ∧ True) ∧ True) ∧ ∀ (g_2 : Int), (bdIn (BuildG.mk w h (Cl.t2 g)) g_1).pre g_2 → True ∧ Sx.Br (decide (g_2 < w)) (True ∧ True ∧ True ∧ True ∧ True ∧ True ∧ True ∧ (((Sx.Ask (IntKind.i64 = IntKind.i64) ∧ Sx.Ask (g_2 = g_2)) ∧ (Sx.Ask (IntKind.i64 = IntKind.i64) ∧ Sx.Ask (g_1 = g_1)) ∧ (((True ∧ Sx.Ask (IntKind.i64 = IntKind.i64) ∧ Sx.Ask (g.w = g.w)) ∧ Sx.Ask (IntKind.i64 = IntKind.i64) ∧ Sx.Ask (g.h = g.h)) ∧ Sx.Ask (g.len = g.len) ∧ ∀ (i : Nat), i < g.len → True ∧ Sx.Ask (IntKind.u8 = IntKind.u8) ∧ Sx.Ask (g.pix i = g.pix i)) ∧ (True ∧ Sx.Ask (IntKind.i64 = IntKind.i64) ∧ Sx.Ask (g.h = g.h)) ∧ (True ∧ Sx.Ask (IntKind.i64 = IntKind.i64) ∧ Sx.Ask (g.w = g.w)) ∧ True) ∧ Sx.Ask (clOK (Cl.t2 g) g_2 g_1)) ∧ True ∧ Sx.Ask ((g_1 * w + g_2).toNat + (1 : Nat) ≤ (9223372036854775807 : Nat) ∧ ((g_1 * w + g_2).toNat + (1 : Nat)) * (1 : Nat) ≤ (140737488355328 : Nat)) ∧ True ∧ True ∧ Sx.Ask ((-9223372036854775808 : Int) ≤ g_2 + (1 : Int) ∧ g_2 + (1 : Int) ≤ (9223372036854775807 : Int)) ∧ True ∧ ∃ (g' : Int), Sx.Ask ((bdIn (BuildG.mk w h (Cl.t2 g)) g_1).pre g') ∧ (((Sx.Ask (IntKind.i64 = IntKind.i64) ∧ Sx.Ask (w = w)) ∧ (Sx.Ask (IntKind.i64 = IntKind.i64) ∧ Sx.Ask (h = h)) ∧ (Sx.Ask ((49 : Go.FuncId) = (49 : Go.FuncId)) ∧ ((True ∧ ((True ∧ Sx.Ask (IntKind.i64 = IntKind.i64) ∧ Sx.Ask (g.w = g.w)) ∧ Sx.Ask (IntKind.i64 = IntKind.i64) ∧ Sx.Ask (g.h = g.h)) ∧ Sx.Ask (g.len = g.len) ∧ ∀ (i : Nat), i < g.len → True ∧ Sx.Ask (IntKind.u8 = IntKind.u8) ∧ Sx.Ask (g.pix i = g.pix i)) ∧ True ∧ Sx.Ask (IntKind.i64 = IntKind.i64) ∧ Sx.Ask (g.h = g.h)) ∧ True ∧ Sx.Ask (IntKind.i64 = IntKind.i64) ∧ Sx.Ask (g.w = g.w)) ∧ Sx.Ask ((0 : Nat) = (0 : Nat)) ∧ Sx.Ask ((0 : Nat) = (0 : Nat)) ∧ (Sx.Ask (IntKind.i64 = IntKind.i64) ∧ Sx.Ask (g_1 = g_1)) ∧ (Sx.Ask (IntKind.i64 = IntKind.i64) ∧ Sx.Ask (h = h)) ∧ (Sx.Ask (IntKind.i64 = IntKind.i64) ∧ Sx.Ask (g_1 = g_1)) ∧ (Sx.Ask (IntKind.i64 = IntKind.i64) ∧ Sx.Ask (w = w)) ∧ (Sx.Ask (IntKind.i64 = IntKind.i64) ∧ Sx.Ask (g_2 + (1 : Int) = g')) ∧ True) ∧ (((True ∧ True) ∧ True) ∧ True) ∧ (Sx.Ask ((g_1 * w + g_2).toNat + (1 : Nat) = (g_1 * w + g').toNat) ∧ ∀ (i : Nat), i < (g_1 * w + g').toNat → True ∧ Sx.Ask (IntKind.u8 = IntKind.u8) ∧ Sx.Ask ((bif decide (i < (g_1 * w + g_2).toNat) then (BuildG.mk w h (Cl.t2 g)).pix i else clV (Cl.t2 g) g_2 g_1) = (BuildG.mk w h (Cl.t2 g)).pix i)) ∧ (((True ∧ Sx.Ask (IntKind.i64 = IntKind.i64) ∧ Sx.Ask (w = w)) ∧ Sx.Ask (IntKind.i64 = IntKind.i64) ∧ Sx.Ask (h = h)) ∧ True) ∧ True) ∧ Sx.Ask ((bdIn (BuildG.mk w h (Cl.t2 g)) g_1).meas g' < (bdIn (BuildG.mk w h (Cl.t2 g)) g_1).meas g_2)) (Sx.Ask ((-9223372036854775808 : Int) ≤ g_1 + (1 : Int) ∧ g_1 + (1 : Int) ≤ (9223372036854775807 : Int)) ∧ True ∧ ∃ (g' : Int), Sx.Ask ((bdOut (BuildG.mk w h (Cl.t2 g))).pre g') ∧ (((Sx.Ask (IntKind.i64 = IntKind.i64) ∧ Sx.Ask (w = w)) ∧ (Sx.Ask (IntKind.i64 = IntKind.i64) ∧ Sx.Ask (h = h)) ∧ (Sx.Ask ((49 : Go.FuncId) = (49 : Go.FuncId)) ∧ ((True ∧ ((True ∧ Sx.Ask (IntKind.i64 = IntKind.i64) ∧ Sx.Ask (g.w = g.w)) ∧ Sx.Ask (IntKind.i64 = IntKind.i64) ∧ Sx.Ask (g.h = g.h)) ∧ Sx.Ask (g.len = g.len) ∧ ∀ (i : Nat), i < g.len → True ∧ Sx.Ask (IntKind.u8 = IntKind.u8) ∧ Sx.Ask (g.pix i = g.pix i)) ∧ True ∧ Sx.Ask (IntKind.i64 = IntKind.i64) ∧ Sx.Ask (g.h = g.h)) ∧ True ∧ Sx.Ask (IntKind.i64 = IntKind.i64) ∧ Sx.Ask (g.w = g.w)) ∧ Sx.Ask ((0 : Nat) = (0 : Nat)) ∧ Sx.Ask ((0 : Nat) = (0 : Nat)) ∧ (Sx.Ask (IntKind.i64 = IntKind.i64) ∧ Sx.Ask (h = h)) ∧ (Sx.Ask (IntKind.i64 = IntKind.i64) ∧ Sx.Ask (g_1 + (1 : Int) = g')) ∧ True) ∧ (((True ∧ True) ∧ True) ∧ True) ∧ (Sx.Ask ((g_1 * w + g_2).toNat = (g' * w).toNat) ∧ ∀ (i : Nat), i < (g' * w).toNat → True ∧ Sx.Ask (IntKind.u8 = IntKind.u8) ∧ Sx.Ask ((BuildG.mk w h (Cl.t2 g)).pix i = (BuildG.mk w h (Cl.t2 g)).pix i)) ∧ (((True ∧ Sx.Ask (IntKind.i64 = IntKind.i64) ∧ Sx.Ask (w = w)) ∧ Sx.Ask (IntKind.i64 = IntKind.i64) ∧ Sx.Ask (h = h)) ∧ True) ∧ True) ∧ Sx.Ask ((bdOut (BuildG.mk w h (Cl.t2 g))).meas g' < (bdOut (BuildG.mk w h (Cl.t2 g))).meas g_1))) (True ∧ True ∧ (True ∧ True) ∧ ((True ∧ Sx.Ask (IntKind.i64 = IntKind.i64) ∧ Sx.Ask (w = w)) ∧ Sx.Ask (IntKind.i64 = IntKind.i64) ∧ Sx.Ask (h = h)) ∧ Sx.Ask ((g_1 * w).toNat = (w * h).toNat) ∧ ∀ (i : Nat), i < (w * h).toNat → True ∧ Sx.Ask (IntKind.u8 = IntKind.u8) ∧ Sx.Ask ((BuildG.mk w h (Cl.t2 g)).pix i = (BuildG.mk w h (Cl.t2 g)).out.pix i))) (by kernel_rfl) ?_
    simp only [ask_iff, br_iff, eq_self, true_and, and_true, implies_true, forall_const, decide_eq_true_eq, decide_eq_false_iff_not, ne_eq, Nat.mul_one, Nat.add_zero, Nat.zero_add]
    have hwh : 0 ≤ w * h ∧ w * h ≤ 1048576 := ⟨Int.mul_nonneg (by omega) (by omega), by have : w * h ≤ 1024 * 1024 := Int.mul_le_mul w2 h2 (by omega) (by omega); omega⟩
    refine ⟨by omega, by omega, ⟨(0 : Int), ⟨Int.le_refl 0, show (0 : Int) ≤ h by omega⟩, rfl, by simp, fun i hi => by simp at hi⟩, fun y hy => ?_⟩
    have hy' : 0 ≤ y ∧ y ≤ h := hy
    refine ⟨fun hlt => ⟨⟨(0 : Int), ⟨Int.le_refl 0, show (0 : Int) ≤ w by omega⟩, rfl, by simp⟩, fun x hp => ?_⟩, fun hge => ?_⟩
    · have hp' : 0 ≤ x ∧ x ≤ w := hp
      obtain ⟨q3, q4⟩ := hp'
      have b1 := row_bound w1 w2 h2 hy'.1 hlt q3 q4
      refine ⟨fun hx => ⟨hc x y q3 hx hy'.1 hlt, by omega, by omega, (x + 1 : Int), ⟨show 0 ≤ x + 1 by omega, show x + 1 ≤ w by omega⟩, ⟨rfl, by omega, fun i hi => ?_⟩, ?_⟩, fun hx => ⟨by omega, (y + 1 : Int), ⟨show 0 ≤ y + 1 by omega, show y + 1 ≤ h by omega⟩, ⟨rfl, ?_⟩, ?_⟩⟩
      · by_cases hil : i < (y * w + x).toNat
        · rw [decide_eq_true hil]; rfl
        · rw [decide_eq_false hil]
          have hi2 : i < (y * w + (x + 1)).toNat := hi
          obtain rfl : i = (y * w + x).toNat := by omega
          have dm := div_mod_at (w := w) (x := x) (y := y) w1 q3 hx hy'.1
          unfold BuildG.pix
          rw [dm.1, dm.2]
          rfl
      · show (w - (x + 1)).toNat < (w - x).toNat
        omega
      · rw [Int.add_mul]
        omega
      · show (h - (y + 1)).toNat < (h - y).toNat
        omega
    · obtain rfl : y = h := by omega
      exact ⟨by rw [Int.mul_comm], fun i hi => rfl⟩
  | t3 g =>
    refine vc_of (B := True ∧ True ∧ True ∧ True ∧ True ∧ Sx.Ask ((-9223372036854775808 : Int) ≤ w * h ∧ w * h ≤ (9223372036854775807 : Int)) ∧ Sx.Ask ((0 : Int) ≤ (0 : Int) ∧ (0 : Int) ≤ w * h ∧ (↑(1 : Nat) : Int) * (w * h) ≤ (140737488355328 : Int) ∧ w * h ≤ (9223372036854775807 : Int)) ∧ True ∧ True ∧ True ∧ True ∧ True ∧ (∃ (g_1 : Int), Sx.Ask ((bdOut (BuildG.mk w h (Cl.t3 g))).pre g_1) ∧ ((Sx.Ask (IntKind.i64 = IntKind.i64) ∧ Sx.Ask (w = w)) ∧ (Sx.Ask (IntKind.i64 = IntKind.i64) ∧ Sx.Ask (h = h)) ∧ (Sx.Ask ((50 : Go.FuncId) = (50 : Go.FuncId)) ∧ (True ∧ ((True ∧ Sx.Ask (IntKind.i64 = IntKind.i64) ∧ Sx.Ask (g.w = g.w)) ∧ Sx.Ask (IntKind.i64 = IntKind.i64) ∧ Sx.Ask (g.h = g.h)) ∧ Sx.Ask (g.len = g.len) ∧ ∀ (i : Nat), i < g.len → True ∧ Sx.Ask (IntKind.u8 = IntKind.u8) ∧ Sx.Ask (g.pix i = g.pix i)) ∧ True ∧ Sx.Ask (IntKind.i64 = IntKind.i64) ∧ Sx.Ask (g.w = g.w)) ∧ Sx.Ask ((0 : Nat) = (0 : Nat)) ∧ Sx.Ask ((0 : Nat) = (0 : Nat)) ∧ (Sx.Ask (IntKind.i64 = IntKind.i64) ∧ Sx.Ask (h = h)) ∧ (Sx.Ask (IntKind.i64 = IntKind.i64) ∧ Sx.Ask ((0 : Int) = g_1)) ∧ True) ∧ (((True ∧ True) ∧ True) ∧ True) ∧ (Sx.Ask (Int.toNat (0 : Int) = (g_1 * w).toNat) ∧ ∀ (i : Nat), i < (g_1 * w).toNat → True ∧ Sx.Ask (IntKind.u8 = IntKind.u8) ∧ Sx.Ask ((0 : Int) = (BuildG.mk w h (Cl.t3 g)).pix i)) ∧ (((True ∧ Sx.Ask (IntKind.i64 = IntKind.i64) ∧ Sx.Ask (w = w)) ∧ Sx.Ask (IntKind.i64 = IntKind.i64) ∧ Sx.Ask (h = h)) ∧ True) ∧ True) ∧ ∀ (g_1 : Int), (bdOut (BuildG.mk w h (Cl.t3 g))).pre g_1 → True ∧ Sx.Br (decide (g_1 < h)) (True ∧ True ∧ True ∧ True ∧ (∃ (g_2 : Int), Sx.Ask ((bdIn (BuildG.mk w h (Cl.t3 g)) g_1).pre g_2) ∧ ((Sx.Ask (IntKind.i64 = IntKind.i64) ∧ Sx.Ask (w = w)) ∧ (Sx.Ask (IntKind.i64 = IntKind.i64) ∧ Sx.Ask (h = h)) ∧ (Sx.Ask ((50 : Go.FuncId) = (50 : Go.FuncId)) ∧ (True ∧ ((True ∧ Sx.Ask (IntKind.i64 = IntKind.i64) ∧ Sx.Ask (g.w = g.w)) ∧ Sx.Ask (IntKind.i64 = IntKind.i64) ∧ Sx.Ask (g.h = g.h)) ∧ Sx.Ask (g.len = g.len) ∧ ∀ (i : Nat), i < g.len → True ∧ Sx.Ask (IntKind.u8 = IntKind.u8) ∧ Sx.Ask (g.pix i = g.pix i)) ∧ True ∧ Sx.Ask (IntKind.i64 = IntKind.i64) ∧ Sx.Ask (g.w = g.w)) ∧ Sx.Ask ((0 : Nat) = (0 : Nat)) ∧ Sx.Ask ((0 : Nat) = (0 : Nat)) ∧ (Sx.Ask (IntKind.i64 = IntKind.i64) ∧ Sx.Ask (g_1 = g_1)) ∧ (Sx.Ask (IntKind.i64 = IntKind.i64) ∧ Sx.Ask (h = h)) ∧ (Sx.Ask (IntKind.i64 = IntKind.i64) ∧ Sx.Ask (g_1 = g_1)) ∧ (Sx.Ask (IntKind.i64 = IntKind.i64) ∧ Sx.Ask (w = w)) ∧ (Sx.Ask (IntKind.i64 = IntKind.i64) ∧ Sx.Ask ((0 : Int) = g_2)) ∧ True) ∧ (((True ∧ True) ∧ True) ∧ True) ∧ (Sx.Ask ((g_1 * w).toNat = (g_1 * w + g_2).toNat) ∧ ∀ (i : Nat), i < (g_1 * w + g_2).toNat → True ∧ Sx.Ask (IntKind.u8 = IntKind.u8) ∧ Sx.Ask ((BuildG.mk w h (Cl.t3 g)).pix i = (BuildG.mk w h (Cl.t3 g)).pix i)) ∧ (((True ∧ Sx.Ask (IntKind.i64 = IntKind.i64) ∧ Sx.Ask (w = w)) ∧ Sx.Ask (IntKind.i64 = IntKind.i64) ∧ Sx.Ask (h = h)) ∧ True) ∧ True) ∧ ∀ (g_2 : Int), (bdIn (BuildG.mk w h (Cl.t3 g)) g_1).pre g_2 → True ∧ Sx.Br (decide (g_2 < w)) (True ∧ True ∧ True ∧ True ∧ True ∧ True ∧ True ∧ (((Sx.Ask (IntKind.i64 = IntKind.i64) ∧ Sx.Ask (g_2 = g_2)) ∧ (Sx.Ask (IntKind.i64 = IntKind.i64) ∧ Sx.Ask (g_1 = g_1)) ∧ (((True ∧ Sx.Ask (IntKind.i64 = IntKind.i64) ∧ Sx.Ask (g.w = g.w)) ∧ Sx.Ask (IntKind.i64 = IntKind.i64) ∧ Sx.Ask (g.h = g.h)) ∧ Sx.Ask (g.len = g.len) ∧ ∀ (i : Nat), i < g.len → True ∧ Sx.Ask (IntKind.u8 = IntKind.u8) ∧ Sx.Ask (g.pix i = g.pix i)) ∧ (True ∧ Sx.Ask (IntKind.i64 = IntKind.i64) ∧ Sx.Ask (g.w = g.w)) ∧ True) ∧ Sx.Ask (clOK (Cl.t3 g) g_2 g_1)) ∧ True ∧ Sx.Ask ((g_1 * w + g_2).toNat + (1 : Nat) ≤ (9223372036854775807 : Nat) ∧ ((g_1 * w + g_2).toNat + (1 : Nat)) * (1 : Nat) ≤ (140737488355328 : Nat)) ∧ True ∧ True ∧ Sx.Ask ((-9223372036854775808 : Int) ≤ g_2 + (1 : Int) ∧ g_2 + (1 : Int) ≤ (9223372036854775807 : Int)) ∧ True ∧ ∃ (g' : Int), Sx.Ask ((bdIn (BuildG.mk w h (Cl.t3 g)) g_1).pre g') ∧ (((Sx.Ask (IntKind.i64 = IntKind.i64) ∧ Sx.Ask (w = w)) ∧ (Sx.Ask (IntKind.i64 = IntKind.i64) ∧ Sx.Ask (h = h)) ∧ (Sx.Ask ((50 : Go.FuncId) = (50 : Go.FuncId)) ∧ (True ∧ ((True ∧ Sx.Ask (IntKind.i64 = IntKind.i64) ∧ Sx.Ask (g.w = g.w)) ∧ Sx.Ask (IntKind.i64 = IntKind.i64) ∧ Sx.Ask (g.h = g.h)) ∧ Sx.Ask (g.len = g.len) ∧ ∀ (i : Nat), i < g.len → True ∧ Sx.Ask (IntKind.u8 = IntKind.u8) ∧ Sx.Ask (g.pix i = g.pix i)) ∧ True ∧ Sx.Ask (IntKind.i64 = IntKind.i64) ∧ Sx.Ask (g.w = g.w)) ∧ Sx.Ask ((0 : Nat) = (0 : Nat)) ∧ Sx.Ask ((0 : Nat) = (0 : Nat)) ∧ (Sx.Ask (IntKind.i64 = IntKind.i64) ∧ Sx.Ask (g_1 = g_1)) ∧ (Sx.Ask (IntKind.i64 = IntKind.i64) ∧ Sx.Ask (h = h)) ∧ (Sx.Ask (IntKind.i64 = IntKind.i64) ∧ Sx.Ask (g_1 = g_1)) ∧ (Sx.Ask (IntKind.i64 = IntKind.i64) ∧ Sx.Ask (w = w)) ∧ (Sx.Ask (IntKind.i64 = IntKind.i64) ∧ Sx.Ask (g_2 + (1 : Int) = g')) ∧ True) ∧ (((True ∧ True) ∧ True) ∧ True) ∧ (Sx.Ask ((g_1 * w + g_2).toNat + (1 : Nat) = (g_1 * w + g').toNat) ∧ ∀ (i : Nat), i < (g_1 * w + g').toNat → True ∧ Sx.Ask (IntKind.u8 = IntKind.u8) ∧ Sx.Ask ((bif decide (i < (g_1 * w + g_2).toNat) then (BuildG.mk w h (Cl.t3 g)).pix i else clV (Cl.t3 g) g_2 g_1) = (BuildG.mk w h (Cl.t3 g)).pix i)) ∧ (((True ∧ Sx.Ask (IntKind.i64 = IntKind.i64) ∧ Sx.Ask (w = w)) ∧ Sx.Ask (IntKind.i64 = IntKind.i64) ∧ Sx.Ask (h = h)) ∧ True) ∧ True) ∧ Sx.Ask ((bdIn (BuildG.mk w h (Cl.t3 g)) g_1).meas g' < (bdIn (BuildG.mk w h (Cl.t3 g)) g_1).meas g_2)) (Sx.Ask ((-9223372036854775808 : Int) ≤ g_1 + (1 : Int) ∧ g_1 + (1 : Int) ≤ (9223372036854775807 : Int)) ∧ True ∧ ∃ (g' : Int), Sx.Ask ((bdOut (BuildG.mk w h (Cl.t3 g))).pre g') ∧ (((Sx.Ask (IntKind.i64 = IntKind.i64) ∧ Sx.Ask (w = w)) ∧ (Sx.Ask (IntKind.i64 = IntKind.i64) ∧ Sx.Ask (h = h)) ∧ (Sx.Ask ((50 : Go.FuncId) = (50 : Go.FuncId)) ∧ (True ∧ ((True ∧ Sx.Ask (IntKind.i64 = IntKind.i64) ∧ Sx.Ask (g.w = g.w)) ∧ Sx.Ask (IntKind.i64 = IntKind.i64) ∧ Sx.Ask (g.h = g.h)) ∧ Sx.Ask (g.len = g.len) ∧ ∀ (i : Nat), i < g.len → True ∧ Sx.Ask (IntKind.u8 = IntKind.u8) ∧ Sx.Ask (g.pix i = g.pix i)) ∧ True ∧ Sx.Ask (IntKind.i64 = IntKind.i64) ∧ Sx.Ask (g.w = g.w)) ∧ Sx.Ask ((0 : Nat) = (0 : Nat)) ∧ Sx.Ask ((0 : Nat) = (0 : Nat)) ∧ (Sx.Ask (IntKind.i64 = IntKind.i64) ∧ Sx.Ask (h = h)) ∧ (Sx.Ask (IntKind.i64 = IntKind.i64) ∧ Sx.Ask (g_1 + (1 : Int) = g')) ∧ True) ∧ (((True ∧ True) ∧ True) ∧ True) ∧ (Sx.Ask ((g_1 * w + g_2).toNat = (g' * w).toNat) ∧ ∀ (i : Nat), i < (g' * w).toNat → True ∧ Sx.Ask (IntKind.u8 = IntKind.u8) ∧ Sx.Ask ((BuildG.mk w h (Cl.t3 g)).pix i = (BuildG.mk w h (Cl.t3 g)).pix i)) ∧ (((True ∧ Sx.Ask (IntKind.i64 = IntKind.i64) ∧ Sx.Ask (w = w)) ∧ Sx.Ask (IntKind.i64 = IntKind.i64) ∧ Sx.Ask (h = h)) ∧ True) ∧ True) ∧ Sx.Ask ((bdOut (BuildG.mk w h (Cl.t3 g))).meas g' < (bdOut (BuildG.mk w h (Cl.t3 g))).meas g_1))) (True ∧ True ∧ (True ∧ True) ∧ ((True ∧ Sx.Ask (IntKind.i64 = IntKind.i64) ∧ Sx.Ask (w = w)) ∧ Sx.Ask (IntKind.i64 = IntKind.i64) ∧ Sx.Ask (h = h)) ∧ Sx.Ask ((g_1 * w).toNat = (w * h).toNat) ∧ ∀ (i : Nat), i < (w * h).toNat → True ∧ Sx.Ask (IntKind.u8 = IntKind.u8) ∧ Sx.Ask ((BuildG.mk w h (Cl.t3 g)).pix i = (BuildG.mk w h (Cl.t3 g)).out.pix i))) (by kernel_rfl) ?_
    simp only [ask_iff, br_iff, eq_self, true_and, and_true, implies_true, forall_const, decide_eq_true_eq, decide_eq_false_iff_not, ne_eq, Nat.mul_one, Nat.add_zero, Nat.zero_add]
    have hwh : 0 ≤ w * h ∧ w * h ≤ 1048576 := ⟨Int.mul_nonneg (by omega) (by omega), by have : w * h ≤ 1024 * 1024 := Int.mul_le_mul w2 h2 (by omega) (by omega); omega⟩
    refine ⟨by omega, by omega, ⟨(0 : Int), ⟨Int.le_refl 0, show (0 : Int) ≤ h by omega⟩, rfl, by simp, fun i hi => by simp at hi⟩, fun y hy => ?_⟩
    have hy' : 0 ≤ y ∧ y ≤ h := hy
    refine ⟨fun hlt => ⟨⟨(0 : Int), ⟨Int.le_refl 0, show (0 : Int) ≤ w by omega⟩, rfl, by simp⟩, fun x hp => ?_⟩, fun hge => ?_⟩
    · have hp' : 0 ≤ x ∧ x ≤ w := hp
      obtain ⟨q3, q4⟩ := hp'
      have b1 := row_bound w1 w2 h2 hy'.1 hlt q3 q4
      refine ⟨fun hx => ⟨hc x y q3 hx hy'.1 hlt, by omega, by omega, (x + 1 : Int), ⟨show 0 ≤ x + 1 by omega, show x + 1 ≤ w by omega⟩, ⟨rfl, by omega, fun i hi => ?_⟩, ?_⟩, fun hx => ⟨by omega, (y + 1 : Int), ⟨show 0 ≤ y + 1 by omega, show y + 1 ≤ h by omega⟩, ⟨rfl, ?_⟩, ?_⟩⟩
      · by_cases hil : i < (y * w + x).toNat
        · rw [decide_eq_true hil]; rfl
        · rw [decide_eq_false hil]
          have hi2 : i < (y * w + (x + 1)).toNat := hi
          obtain rfl : i = (y * w + x).toNat := by omega
          have dm := div_mod_at (w := w) (x := x) (y := y) w1 q3 hx hy'.1
          unfold BuildG.pix
          rw [dm.1, dm.2]
          rfl
      · show (w - (x + 1)).toNat < (w - x).toNat
        omega
      · rw [Int.add_mul]
        omega
      · show (h - (y + 1)).toNat < (h - y).toNat
        omega
    · obtain rfl : y = h := by omega
      exact ⟨by rw [Int.mul_comm], fun i hi => rfl⟩
  | mir g =>
    refine vc_of (B := True ∧ True ∧ True ∧ True ∧ True ∧ Sx.Ask ((-9223372036854775808 : Int) ≤ w * h ∧ w * h ≤ (9223372036854775807 : Int)) ∧ Sx.Ask ((0 : Int) ≤ (0 : Int) ∧ (0 : Int) ≤ w * h ∧ (↑(1 : Nat) : Int) * (w * h) ≤ (140737488355328 : Int) ∧ w * h ≤ (9223372036854775807 : Int)) ∧ True ∧ True ∧ True ∧ True ∧ True ∧ (∃ (g_1 : Int), Sx.Ask ((bdOut (BuildG.mk w h (Cl.mir g))).pre g_1) ∧ ((Sx.Ask (IntKind.i64 = IntKind.i64) ∧ Sx.Ask (w = w)) ∧ (Sx.Ask (IntKind.i64 = IntKind.i64) ∧ Sx.Ask (h = h)) ∧ (Sx.Ask ((52 : Go.FuncId) = (52 : Go.FuncId)) ∧ True ∧ ((True ∧ Sx.Ask (IntKind.i64 = IntKind.i64) ∧ Sx.Ask (g.w = g.w)) ∧ Sx.Ask (IntKind.i64 = IntKind.i64) ∧ Sx.Ask (g.h = g.h)) ∧ Sx.Ask (g.len = g.len) ∧ ∀ (i : Nat), i < g.len → True ∧ Sx.Ask (IntKind.u8 = IntKind.u8) ∧ Sx.Ask (g.pix i = g.pix i)) ∧ Sx.Ask ((0 : Nat) = (0 : Nat)) ∧ Sx.Ask ((0 : Nat) = (0 : Nat)) ∧ (Sx.Ask (IntKind.i64 = IntKind.i64) ∧ Sx.Ask (h = h)) ∧ (Sx.Ask (IntKind.i64 = IntKind.i64) ∧ Sx.Ask ((0 : Int) = g_1)) ∧ True) ∧ (((True ∧ True) ∧ True) ∧ True) ∧ (Sx.Ask (Int.toNat (0 : Int) = (g_1 * w).toNat) ∧ ∀ (i : Nat), i < (g_1 * w).toNat → True ∧ Sx.Ask (IntKind.u8 = IntKind.u8) ∧ Sx.Ask ((0 : Int) = (BuildG.mk w h (Cl.mir g)).pix i)) ∧ (((True ∧ Sx.Ask (IntKind.i64 = IntKind.i64) ∧ Sx.Ask (w = w)) ∧ Sx.Ask (IntKind.i64 = IntKind.i64) ∧ Sx.Ask (h = h)) ∧ True) ∧ True) ∧ ∀ (g_1 : Int), (bdOut (BuildG.mk w h (Cl.mir g))).pre g_1 → True ∧ Sx.Br (decide (g_1 < h)) (True ∧ True ∧ True ∧ True ∧ (∃ (g_2 : Int), Sx.Ask ((bdIn (BuildG.mk w h (Cl.mir g)) g_1).pre g_2) ∧ ((Sx.Ask (IntKind.i64 = IntKind.i64) ∧ Sx.Ask (w = w)) ∧ (Sx.Ask (IntKind.i64 = IntKind.i64) ∧ Sx.Ask (h = h)) ∧ (Sx.Ask ((52 : Go.FuncId) = (52 : Go.FuncId)) ∧ True ∧ ((True ∧ Sx.Ask (IntKind.i64 = IntKind.i64) ∧ Sx.Ask (g.w = g.w)) ∧ Sx.Ask (IntKind.i64 = IntKind.i64) ∧ Sx.Ask (g.h = g.h)) ∧ Sx.Ask (g.len = g.len) ∧ ∀ (i : Nat), i < g.len → True ∧ Sx.Ask (IntKind.u8 = IntKind.u8) ∧ Sx.Ask (g.pix i = g.pix i)) ∧ Sx.Ask ((0 : Nat) = (0 : Nat)) ∧ Sx.Ask ((0 : Nat) = (0 : Nat)) ∧ (Sx.Ask (IntKind.i64 = IntKind.i64) ∧ Sx.Ask (g_1 = g_1)) ∧ (Sx.Ask (IntKind.i64 = IntKind.i64) ∧ Sx.Ask (h = h)) ∧ (Sx.Ask (IntKind.i64 = IntKind.i64) ∧ Sx.Ask (g_1 = g_1)) ∧ (Sx.Ask (IntKind.i64 = IntKind.i64) ∧ Sx.Ask (w = w)) ∧ (Sx.Ask (IntKind.i64 = IntKind.i64) ∧ Sx.Ask ((0 : Int) = g_2)) ∧ True) ∧ (((True ∧ True) ∧ True) ∧ True) ∧ (Sx.Ask ((g_1 * w).toNat = (g_1 * w + g_2).toNat) ∧ ∀ (i : Nat), i < (g_1 * w + g_2).toNat → True ∧ Sx.Ask (IntKind.u8 = IntKind.u8) ∧ Sx.Ask ((BuildG.mk w h (Cl.mir g)).pix i = (BuildG.mk w h (Cl.mir g)).pix i)) ∧ (((True ∧ Sx.Ask (IntKind.i64 = IntKind.i64) ∧ Sx.Ask (w = w)) ∧ Sx.Ask (IntKind.i64 = IntKind.i64) ∧ Sx.Ask (h = h)) ∧ True) ∧ True) ∧ ∀ (g_2 : Int), (bdIn (BuildG.mk w h (Cl.mir g)) g_1).pre g_2 → True ∧ Sx.Br (decide (g_2 < w)) (True ∧ True ∧ True ∧ True ∧ True ∧ True ∧ True ∧ (((Sx.Ask (IntKind.i64 = IntKind.i64) ∧ Sx.Ask (g_2 = g_2)) ∧ (Sx.Ask (IntKind.i64 = IntKind.i64) ∧ Sx.Ask (g_1 = g_1)) ∧ (((True ∧ Sx.Ask (IntKind.i64 = IntKind.i64) ∧ Sx.Ask (g.w = g.w)) ∧ Sx.Ask (IntKind.i64 = IntKind.i64) ∧ Sx.Ask (g.h = g.h)) ∧ Sx.Ask (g.len = g.len) ∧ ∀ (i : Nat), i < g.len → True ∧ Sx.Ask (IntKind.u8 = IntKind.u8) ∧ Sx.Ask (g.pix i = g.pix i)) ∧ True) ∧ Sx.Ask (clOK (Cl.mir g) g_2 g_1)) ∧ True ∧ Sx.Ask ((g_1 * w + g_2).toNat + (1 : Nat) ≤ (9223372036854775807 : Nat) ∧ ((g_1 * w + g_2).toNat + (1 : Nat)) * (1 : Nat) ≤ (140737488355328 : Nat)) ∧ True ∧ True ∧ Sx.Ask ((-9223372036854775808 : Int) ≤ g_2 + (1 : Int) ∧ g_2 + (1 : Int) ≤ (9223372036854775807 : Int)) ∧ True ∧ ∃ (g' : Int), Sx.Ask ((bdIn (BuildG.mk w h (Cl.mir g)) g_1).pre g') ∧ (((Sx.Ask (IntKind.i64 = IntKind.i64) ∧ Sx.Ask (w = w)) ∧ (Sx.Ask (IntKind.i64 = IntKind.i64) ∧ Sx.Ask (h = h)) ∧ (Sx.Ask ((52 : Go.FuncId) = (52 : Go.FuncId)) ∧ True ∧ ((True ∧ Sx.Ask (IntKind.i64 = IntKind.i64) ∧ Sx.Ask (g.w = g.w)) ∧ Sx.Ask (IntKind.i64 = IntKind.i64) ∧ Sx.Ask (g.h = g.h)) ∧ Sx.Ask (g.len = g.len) ∧ ∀ (i : Nat), i < g.len → True ∧ Sx.Ask (IntKind.u8 = IntKind.u8) ∧ Sx.Ask (g.pix i = g.pix i)) ∧ Sx.Ask ((0 : Nat) = (0 : Nat)) ∧ Sx.Ask ((0 : Nat) = (0 : Nat)) ∧ (Sx.Ask (IntKind.i64 = IntKind.i64) ∧ Sx.Ask (g_1 = g_1)) ∧ (Sx.Ask (IntKind.i64 = IntKind.i64) ∧ Sx.Ask (h = h)) ∧ (Sx.Ask (IntKind.i64 = IntKind.i64) ∧ Sx.Ask (g_1 = g_1)) ∧ (Sx.Ask (IntKind.i64 = IntKind.i64) ∧ Sx.Ask (w = w)) ∧ (Sx.Ask (IntKind.i64 = IntKind.i64) ∧ Sx.Ask (g_2 + (1 : Int) = g')) ∧ True) ∧ (((True ∧ True) ∧ True) ∧ True) ∧ (Sx.Ask ((g_1 * w + g_2).toNat + (1 : Nat) = (g_1 * w + g').toNat) ∧ ∀ (i : Nat), i < (g_1 * w + g').toNat → True ∧ Sx.Ask (IntKind.u8 = IntKind.u8) ∧ Sx.Ask ((bif decide (i < (g_1 * w + g_2).toNat) then (BuildG.mk w h (Cl.mir g)).pix i else clV (Cl.mir g) g_2 g_1) = (BuildG.mk w h (Cl.mir g)).pix i)) ∧ (((True ∧ Sx.Ask (IntKind.i64 = IntKind.i64) ∧ Sx.Ask (w = w)) ∧ Sx.Ask (IntKind.i64 = IntKind.i64) ∧ Sx.Ask (h = h)) ∧ True) ∧ True) ∧ Sx.Ask ((bdIn (BuildG.mk w h (Cl.mir g)) g_1).meas g' < (bdIn (BuildG.mk w h (Cl.mir g)) g_1).meas g_2)) (Sx.Ask ((-9223372036854775808 : Int) ≤ g_1 + (1 : Int) ∧ g_1 + (1 : Int) ≤ (9223372036854775807 : Int)) ∧ True ∧ ∃ (g' : Int), Sx.Ask ((bdOut (BuildG.mk w h (Cl.mir g))).pre g') ∧ (((Sx.Ask (IntKind.i64 = IntKind.i64) ∧ Sx.Ask (w = w)) ∧ (Sx.Ask (IntKind.i64 = IntKind.i64) ∧ Sx.Ask (h = h)) ∧ (Sx.Ask ((52 : Go.FuncId) = (52 : Go.FuncId)) ∧ True ∧ ((True ∧ Sx.Ask (IntKind.i64 = IntKind.i64) ∧ Sx.Ask (g.w = g.w)) ∧ Sx.Ask (IntKind.i64 = IntKind.i64) ∧ Sx.Ask (g.h = g.h)) ∧ Sx.Ask (g.len = g.len) ∧ ∀ (i : Nat), i < g.len → True ∧ Sx.Ask (IntKind.u8 = IntKind.u8) ∧ Sx.Ask (g.pix i = g.pix i)) ∧ Sx.Ask ((0 : Nat) = (0 : Nat)) ∧ Sx.Ask ((0 : Nat) = (0 : Nat)) ∧ (Sx.Ask (IntKind.i64 = IntKind.i64) ∧ Sx.Ask (h = h)) ∧ (Sx.Ask (IntKind.i64 = IntKind.i64) ∧ Sx.Ask (g_1 + (1 : Int) = g')) ∧ True) ∧ (((True ∧ True) ∧ True) ∧ True) ∧ (Sx.Ask ((g_1 * w + g_2).toNat = (g' * w).toNat) ∧ ∀ (i : Nat), i < (g' * w).toNat → True ∧ Sx.Ask (IntKind.u8 = IntKind.u8) ∧ Sx.Ask ((BuildG.mk w h (Cl.mir g)).pix i = (BuildG.mk w h (Cl.mir g)).pix i)) ∧ (((True ∧ Sx.Ask (IntKind.i64 = IntKind.i64) ∧ Sx.Ask (w = w)) ∧ Sx.Ask (IntKind.i64 = IntKind.i64) ∧ Sx.Ask (h = h)) ∧ True) ∧ True) ∧ Sx.Ask ((bdOut (BuildG.mk w h (Cl.mir g))).meas g' < (bdOut (BuildG.mk w h (Cl.mir g))).meas g_1))) (True ∧ True ∧ (True ∧ True) ∧ ((True ∧ Sx.Ask (IntKind.i64 = IntKind.i64) ∧ Sx.Ask (w = w)) ∧ Sx.Ask (IntKind.i64 = IntKind.i64) ∧ Sx.Ask (h = h)) ∧ Sx.Ask ((g_1 * w).toNat = (w * h).toNat) ∧ ∀ (i : Nat), i < (w * h).toNat → True ∧ Sx.Ask (IntKind.u8 = IntKind.u8) ∧ Sx.Ask ((BuildG.mk w h (Cl.mir g)).pix i = (BuildG.mk w h (Cl.mir g)).out.pix i))) (by kernel_rfl) ?_
    simp only [ask_iff, br_iff, eq_self, true_and, and_true, implies_true, forall_const, decide_eq_true_eq, decide_eq_false_iff_not, ne_eq, Nat.mul_one, Nat.add_zero, Nat.zero_add]
    have hwh : 0 ≤ w * h ∧ w * h ≤ 1048576 := ⟨Int.mul_nonneg (by omega) (by omega), by have : w * h ≤ 1024 * 1024 := Int.mul_le_mul w2 h2 (by omega) (by omega); omega⟩
    refine ⟨by omega, by omega, ⟨(0 : Int), ⟨Int.le_refl 0, show (0 : Int) ≤ h by omega⟩, rfl, by simp, fun i hi => by simp at hi⟩, fun y hy => ?_⟩
    have hy' : 0 ≤ y ∧ y ≤ h := hy
    refine ⟨fun hlt => ⟨⟨(0 : Int), ⟨Int.le_refl 0, show (0 : Int) ≤ w by omega⟩, rfl, by simp⟩, fun x hp => ?_⟩, fun hge => ?_⟩
    · have hp' : 0 ≤ x ∧ x ≤ w := hp
      obtain ⟨q3, q4⟩ := hp'
      have b1 := row_bound w1 w2 h2 hy'.1 hlt q3 q4
      refine ⟨fun hx => ⟨hc x y q3 hx hy'.1 hlt, by omega, by omega, (x + 1 : Int), ⟨show 0 ≤ x + 1 by omega, show x + 1 ≤ w by omega⟩, ⟨rfl, by omega, fun i hi => ?_⟩, ?_⟩, fun hx => ⟨by omega, (y + 1 : Int), ⟨show 0 ≤ y + 1 by omega, show y + 1 ≤ h by omega⟩, ⟨rfl, ?_⟩, ?_⟩⟩
      · by_cases hil : i < (y * w + x).toNat
        · rw [decide_eq_true hil]; rfl
        · rw [decide_eq_false hil]
          have hi2 : i < (y * w + (x + 1)).toNat := hi
          obtain rfl : i = (y * w + x).toNat := by omega
          have dm := div_mod_at (w := w) (x := x) (y := y) w1 q3 hx hy'.1
          unfold BuildG.pix
          rw [dm.1, dm.2]
          rfl
      · show (w - (x + 1)).toNat < (w - x).toNat
        omega
      · rw [Int.add_mul]
        omega
      · show (h - (y + 1)).toNat < (h - y).toNat
        omega
    · obtain rfl : y = h := by omega
      exact ⟨by rw [Int.mul_comm], fun i hi => rfl⟩
  | crop g x0 y0 =>
    refine vc_of (B := True ∧ True ∧ True ∧ True ∧ True ∧ Sx.Ask ((-9223372036854775808 : Int) ≤ w * h ∧ w * h ≤ (9223372036854775807 : Int)) ∧ Sx.Ask ((0 : Int) ≤ (0 : Int) ∧ (0 : Int) ≤ w * h ∧ (↑(1 : Nat) : Int) * (w * h) ≤ (140737488355328 : Int) ∧ w * h ≤ (9223372036854775807 : Int)) ∧ True ∧ True ∧ True ∧ True ∧ True ∧ (∃ (g_1 : Int), Sx.Ask ((bdOut (BuildG.mk w h (Cl.crop g x0 y0))).pre g_1) ∧ ((Sx.Ask (IntKind.i64 = IntKind.i64) ∧ Sx.Ask (w = w)) ∧ (Sx.Ask (IntKind.i64 = IntKind.i64) ∧ Sx.Ask (h = h)) ∧ (Sx.Ask ((54 : Go.FuncId) = (54 : Go.FuncId)) ∧ ((True ∧ ((True ∧ Sx.Ask (IntKind.i64 = IntKind.i64) ∧ Sx.Ask (g.w = g.w)) ∧ Sx.Ask (IntKind.i64 = IntKind.i64) ∧ Sx.Ask (g.h = g.h)) ∧ Sx.Ask (g.len = g.len) ∧ ∀ (i : Nat), i < g.len → True ∧ Sx.Ask (IntKind.u8 = IntKind.u8) ∧ Sx.Ask (g.pix i = g.pix i)) ∧ True ∧ Sx.Ask (IntKind.i64 = IntKind.i64) ∧ Sx.Ask (y0 = y0)) ∧ True ∧ Sx.Ask (IntKind.i64 = IntKind.i64) ∧ Sx.Ask (x0 = x0)) ∧ Sx.Ask ((0 : Nat) = (0 : Nat)) ∧ Sx.Ask ((0 : Nat) = (0 : Nat)) ∧ (Sx.Ask (IntKind.i64 = IntKind.i64) ∧ Sx.Ask (h = h)) ∧ (Sx.Ask (IntKind.i64 = IntKind.i64) ∧ Sx.Ask ((0 : Int) = g_1)) ∧ True) ∧ (((True ∧ True) ∧ True) ∧ True) ∧ (Sx.Ask (Int.toNat (0 : Int) = (g_1 * w).toNat) ∧ ∀ (i : Nat), i < (g_1 * w).toNat → True ∧ Sx.Ask (IntKind.u8 = IntKind.u8) ∧ Sx.Ask ((0 : Int) = (BuildG.mk w h (Cl.crop g x0 y0)).pix i)) ∧ (((True ∧ Sx.Ask (IntKind.i64 = IntKind.i64) ∧ Sx.Ask (w = w)) ∧ Sx.Ask (IntKind.i64 = IntKind.i64) ∧ Sx.Ask (h = h)) ∧ True) ∧ True) ∧ ∀ (g_1 : Int), (bdOut (BuildG.mk w h (Cl.crop g x0 y0))).pre g_1 → True ∧ Sx.Br (decide (g_1 < h)) (True ∧ True ∧ True ∧ True ∧ (∃ (g_2 : Int), Sx.Ask ((bdIn (BuildG.mk w h (Cl.crop g x0 y0)) g_1).pre g_2) ∧ ((Sx.Ask (IntKind.i64 = IntKind.i64) ∧ Sx.Ask (w = w)) ∧ (Sx.Ask (IntKind.i64 = IntKind.i64) ∧ Sx.Ask (h = h)) ∧ (Sx.Ask ((54 : Go.FuncId) = (54 : Go.FuncId)) ∧ ((True ∧ ((True ∧ Sx.Ask (IntKind.i64 = IntKind.i64) ∧ Sx.Ask (g.w = g.w)) ∧ Sx.Ask (IntKind.i64 = IntKind.i64) ∧ Sx.Ask (g.h = g.h)) ∧ Sx.Ask (g.len = g.len) ∧ ∀ (i : Nat), i < g.len → True ∧ Sx.Ask (IntKind.u8 = IntKind.u8) ∧ Sx.Ask (g.pix i = g.pix i)) ∧ True ∧ Sx.Ask (IntKind.i64 = IntKind.i64) ∧ Sx.Ask (y0 = y0)) ∧ True ∧ Sx.Ask (IntKind.i64 = IntKind.i64) ∧ Sx.Ask (x0 = x0)) ∧ Sx.Ask ((0 : Nat) = (0 : Nat)) ∧ Sx.Ask ((0 : Nat) = (0 : Nat)) ∧ (Sx.Ask (IntKind.i64 = IntKind.i64) ∧ Sx.Ask (g_1 = g_1)) ∧ (Sx.Ask (IntKind.i64 = IntKind.i64) ∧ Sx.Ask (h = h)) ∧ (Sx.Ask (IntKind.i64 = IntKind.i64) ∧ Sx.Ask (g_1 = g_1)) ∧ (Sx.Ask (IntKind.i64 = IntKind.i64) ∧ Sx.Ask (w = w)) ∧ (Sx.Ask (IntKind.i64 = IntKind.i64) ∧ Sx.Ask ((0 : Int) = g_2)) ∧ True) ∧ (((True ∧ True) ∧ True) ∧ True) ∧ (Sx.Ask ((g_1 * w).toNat = (g_1 * w + g_2).toNat) ∧ ∀ (i : Nat), i < (g_1 * w + g_2).toNat → True ∧ Sx.Ask (IntKind.u8 = IntKind.u8) ∧ Sx.Ask ((BuildG.mk w h (Cl.crop g x0 y0)).pix i = (BuildG.mk w h (Cl.crop g x0 y0)).pix i)) ∧ (((True ∧ Sx.Ask (IntKind.i64 = IntKind.i64) ∧ Sx.Ask (w = w)) ∧ Sx.Ask (IntKind.i64 = IntKind.i64) ∧ Sx.Ask (h = h)) ∧ True) ∧ True) ∧ ∀ (g_2 : Int), (bdIn (BuildG.mk w h (Cl.crop g x0 y0)) g_1).pre g_2 → True ∧ Sx.Br (decide (g_2 < w)) (True ∧ True ∧ True ∧ True ∧ True ∧ True ∧ True ∧ (((Sx.Ask (IntKind.i64 = IntKind.i64) ∧ Sx.Ask (g_2 = g_2)) ∧ (Sx.Ask (IntKind.i64 = IntKind.i64) ∧ Sx.Ask (g_1 = g_1)) ∧ (((True ∧ Sx.Ask (IntKind.i64 = IntKind.i64) ∧ Sx.Ask (g.w = g.w)) ∧ Sx.Ask (IntKind.i64 = IntKind.i64) ∧ Sx.Ask (g.h = g.h)) ∧ Sx.Ask (g.len = g.len) ∧ ∀ (i : Nat), i < g.len → True ∧ Sx.Ask (IntKind.u8 = IntKind.u8) ∧ Sx.Ask (g.pix i = g.pix i)) ∧ (True ∧ Sx.Ask (IntKind.i64 = IntKind.i64) ∧ Sx.Ask (y0 = y0)) ∧ (True ∧ Sx.Ask (IntKind.i64 = IntKind.i64) ∧ Sx.Ask (x0 = x0)) ∧ True) ∧ Sx.Ask (clOK (Cl.crop g x0 y0) g_2 g_1)) ∧ True ∧ Sx.Ask ((g_1 * w + g_2).toNat + (1 : Nat) ≤ (9223372036854775807 : Nat) ∧ ((g_1 * w + g_2).toNat + (1 : Nat)) * (1 : Nat) ≤ (140737488355328 : Nat)) ∧ True ∧ True ∧ Sx.Ask ((-9223372036854775808 : Int) ≤ g_2 + (1 : Int) ∧ g_2 + (1 : Int) ≤ (9223372036854775807 : Int)) ∧ True ∧ ∃ (g' : Int), Sx.Ask ((bdIn (BuildG.mk w h (Cl.crop g x0 y0)) g_1).pre g') ∧ (((Sx.Ask (IntKind.i64 = IntKind.i64) ∧ Sx.Ask (w = w)) ∧ (Sx.Ask (IntKind.i64 = IntKind.i64) ∧ Sx.Ask (h = h)) ∧ (Sx.Ask ((54 : Go.FuncId) = (54 : Go.FuncId)) ∧ ((True ∧ ((True ∧ Sx.Ask (IntKind.i64 = IntKind.i64) ∧ Sx.Ask (g.w = g.w)) ∧ Sx.Ask (IntKind.i64 = IntKind.i64) ∧ Sx.Ask (g.h = g.h)) ∧ Sx.Ask (g.len = g.len) ∧ ∀ (i : Nat), i < g.len → True ∧ Sx.Ask (IntKind.u8 = IntKind.u8) ∧ Sx.Ask (g.pix i = g.pix i)) ∧ True ∧ Sx.Ask (IntKind.i64 = IntKind.i64) ∧ Sx.Ask (y0 = y0)) ∧ True ∧ Sx.Ask (IntKind.i64 = IntKind.i64) ∧ Sx.Ask (x0 = x0)) ∧ Sx.Ask ((0 : Nat) = (0 : Nat)) ∧ Sx.Ask ((0 : Nat) = (0 : Nat)) ∧ (Sx.Ask (IntKind.i64 = IntKind.i64) ∧ Sx.Ask (g_1 = g_1)) ∧ (Sx.Ask (IntKind.i64 = IntKind.i64) ∧ Sx.Ask (h = h)) ∧ (Sx.Ask (IntKind.i64 = IntKind.i64) ∧ Sx.Ask (g_1 = g_1)) ∧ (Sx.Ask (IntKind.i64 = IntKind.i64) ∧ Sx.Ask (w = w)) ∧ (Sx.Ask (IntKind.i64 = IntKind.i64) ∧ Sx.Ask (g_2 + (1 : Int) = g')) ∧ True) ∧ (((True ∧ True) ∧ True) ∧ True) ∧ (Sx.Ask ((g_1 * w + g_2).toNat + (1 : Nat) = (g_1 * w + g').toNat) ∧ ∀ (i : Nat), i < (g_1 * w + g').toNat → True ∧ Sx.Ask (IntKind.u8 = IntKind.u8) ∧ Sx.Ask ((bif decide (i < (g_1 * w + g_2).toNat) then (BuildG.mk w h (Cl.crop g x0 y0)).pix i else clV (Cl.crop g x0 y0) g_2 g_1) = (BuildG.mk w h (Cl.crop g x0 y0)).pix i)) ∧ (((True ∧ Sx.Ask (IntKind.i64 = IntKind.i64) ∧ Sx.Ask (w = w)) ∧ Sx.Ask (IntKind.i64 = IntKind.i64) ∧ Sx.Ask (h = h)) ∧ True) ∧ True) ∧ Sx.Ask ((bdIn (BuildG.mk w h (Cl.crop g x0 y0)) g_1).meas g' < (bdIn (BuildG.mk w h (Cl.crop g x0 y0)) g_1).meas g_2)) (Sx.Ask ((-9223372036854775808 : Int) ≤ g_1 + (1 : Int) ∧ g_1 + (1 : Int) ≤ (9223372036854775807 : Int)) ∧ True ∧ ∃ (g' : Int), Sx.Ask ((bdOut (BuildG.mk w h (Cl.crop g x0 y0))).pre g') ∧ (((Sx.Ask (IntKind.i64 = IntKind.i64) ∧ Sx.Ask (w = w)) ∧ (Sx.Ask (IntKind.i64 = IntKind.i64) ∧ Sx.Ask (h = h)) ∧ (Sx.Ask ((54 : Go.FuncId) = (54 : Go.FuncId)) ∧ ((True ∧ ((True ∧ Sx.Ask (IntKind.i64 = IntKind.i64) ∧ Sx.Ask (g.w = g.w)) ∧ Sx.Ask (IntKind.i64 = IntKind.i64) ∧ Sx.Ask (g.h = g.h)) ∧ Sx.Ask (g.len = g.len) ∧ ∀ (i : Nat), i < g.len → True ∧ Sx.Ask (IntKind.u8 = IntKind.u8) ∧ Sx.Ask (g.pix i = g.pix i)) ∧ True ∧ Sx.Ask (IntKind.i64 = IntKind.i64) ∧ Sx.Ask (y0 = y0)) ∧ True ∧ Sx.Ask (IntKind.i64 = IntKind.i64) ∧ Sx.Ask (x0 = x0)) ∧ Sx.Ask ((0 : Nat) = (0 : Nat)) ∧ Sx.Ask ((0 : Nat) = (0 : Nat)) ∧ (Sx.Ask (IntKind.i64 = IntKind.i64) ∧ Sx.Ask (h = h)) ∧ (Sx.Ask (IntKind.i64 = IntKind.i64) ∧ Sx.Ask (g_1 + (1 : Int) = g')) ∧ True) ∧ (((True ∧ True) ∧ True) ∧ True) ∧ (Sx.Ask ((g_1 * w + g_2).toNat = (g' * w).toNat) ∧ ∀ (i : Nat), i < (g' * w).toNat → True ∧ Sx.Ask (IntKind.u8 = IntKind.u8) ∧ Sx.Ask ((BuildG.mk w h (Cl.crop g x0 y0)).pix i = (BuildG.mk w h (Cl.crop g x0 y0)).pix i)) ∧ (((True ∧ Sx.Ask (IntKind.i64 = IntKind.i64) ∧ Sx.Ask (w = w)) ∧ Sx.Ask (IntKind.i64 = IntKind.i64) ∧ Sx.Ask (h = h)) ∧ True) ∧ True) ∧ Sx.Ask ((bdOut (BuildG.mk w h (Cl.crop g x0 y0))).meas g' < (bdOut (BuildG.mk w h (Cl.crop g x0 y0))).meas g_1))) (True ∧ True ∧ (True ∧ True) ∧ ((True ∧ Sx.Ask (IntKind.i64 = IntKind.i64) ∧ Sx.Ask (w = w)) ∧ Sx.Ask (IntKind.i64 = IntKind.i64) ∧ Sx.Ask (h = h)) ∧ Sx.Ask ((g_1 * w).toNat = (w * h).toNat) ∧ ∀ (i : Nat), i < (w * h).toNat → True ∧ Sx.Ask (IntKind.u8 = IntKind.u8) ∧ Sx.Ask ((BuildG.mk w h (Cl.crop g x0 y0)).pix i = (BuildG.mk w h (Cl.crop g x0 y0)).out.pix i))) (by kernel_rfl) ?_
    simp only [ask_iff, br_iff, eq_self, true_and, and_true, implies_true, forall_const, decide_eq_true_eq, decide_eq_false_iff_not, ne_eq, Nat.mul_one, Nat.add_zero, Nat.zero_add]
    have hwh : 0 ≤ w * h ∧ w * h ≤ 1048576 := ⟨Int.mul_nonneg (by omega) (by omega), by have : w * h ≤ 1024 * 1024 := Int.mul_le_mul w2 h2 (by omega) (by omega); omega⟩
    refine ⟨by omega, by omega, ⟨(0 : Int), ⟨Int.le_refl 0, show (0 : Int) ≤ h by omega⟩, rfl, by simp, fun i hi => by simp at hi⟩, fun y hy => ?_⟩
    have hy' : 0 ≤ y ∧ y ≤ h := hy
    refine ⟨fun hlt => ⟨⟨(0 : Int), ⟨Int.le_refl 0, show (0 : Int) ≤ w by omega⟩, rfl, by simp⟩, fun x hp => ?_⟩, fun hge => ?_⟩
    · have hp' : 0 ≤ x ∧ x ≤ w := hp
      obtain ⟨q3, q4⟩ := hp'
      have b1 := row_bound w1 w2 h2 hy'.1 hlt q3 q4
      refine ⟨fun hx => ⟨hc x y q3 hx hy'.1 hlt, by omega, by omega, (x + 1 : Int), ⟨show 0 ≤ x + 1 by omega, show x + 1 ≤ w by omega⟩, ⟨rfl, by omega, fun i hi => ?_⟩, ?_⟩, fun hx => ⟨by omega, (y + 1 : Int), ⟨show 0 ≤ y + 1 by omega, show y + 1 ≤ h by omega⟩, ⟨rfl, ?_⟩, ?_⟩⟩
      · by_cases hil : i < (y * w + x).toNat
        · rw [decide_eq_true hil]; rfl
        · rw [decide_eq_false hil]
          have hi2 : i < (y * w + (x + 1)).toNat := hi
          obtain rfl : i = (y * w + x).toNat := by omega
          have dm := div_mod_at (w := w) (x := x) (y := y) w1 q3 hx hy'.1
          unfold BuildG.pix
          rw [dm.1, dm.2]
          rfl
      · show (w - (x + 1)).toNat < (w - x).toNat
        omega
      · rw [Int.add_mul]
        omega
      · show (h - (y + 1)).toNat < (h - y).toNat
        omega
    · obtain rfl : y = h := by omega
      exact ⟨by rw [Int.mul_comm], fun i hi => rfl⟩
  | mk v =>
    refine vc_of (B := True ∧ True ∧ True ∧ True ∧ True ∧ Sx.Ask ((-9223372036854775808 : Int) ≤ w * h ∧ w * h ≤ (9223372036854775807 : Int)) ∧ Sx.Ask ((0 : Int) ≤ (0 : Int) ∧ (0 : Int) ≤ w * h ∧ (↑(1 : Nat) : Int) * (w * h) ≤ (140737488355328 : Int) ∧ w * h ≤ (9223372036854775807 : Int)) ∧ True ∧ True ∧ True ∧ True ∧ True ∧ (∃ (g : Int), Sx.Ask ((bdOut (BuildG.mk w h (Cl.mk v))).pre g) ∧ ((Sx.Ask (IntKind.i64 = IntKind.i64) ∧ Sx.Ask (w = w)) ∧ (Sx.Ask (IntKind.i64 = IntKind.i64) ∧ Sx.Ask (h = h)) ∧ (Sx.Ask ((56 : Go.FuncId) = (56 : Go.FuncId)) ∧ True ∧ True ∧ Sx.Ask (IntKind.u8 = IntKind.u8) ∧ Sx.Ask (v = v)) ∧ Sx.Ask ((0 : Nat) = (0 : Nat)) ∧ Sx.Ask ((0 : Nat) = (0 : Nat)) ∧ (Sx.Ask (IntKind.i64 = IntKind.i64) ∧ Sx.Ask (h = h)) ∧ (Sx.Ask (IntKind.i64 = IntKind.i64) ∧ Sx.Ask ((0 : Int) = g)) ∧ True) ∧ (((True ∧ True) ∧ True) ∧ True) ∧ (Sx.Ask (Int.toNat (0 : Int) = (g * w).toNat) ∧ ∀ (i : Nat), i < (g * w).toNat → True ∧ Sx.Ask (IntKind.u8 = IntKind.u8) ∧ Sx.Ask ((0 : Int) = (BuildG.mk w h (Cl.mk v)).pix i)) ∧ (((True ∧ Sx.Ask (IntKind.i64 = IntKind.i64) ∧ Sx.Ask (w = w)) ∧ Sx.Ask (IntKind.i64 = IntKind.i64) ∧ Sx.Ask (h = h)) ∧ True) ∧ True) ∧ ∀ (g : Int), (bdOut (BuildG.mk w h (Cl.mk v))).pre g → True ∧ Sx.Br (decide (g < h)) (True ∧ True ∧ True ∧ True ∧ (∃ (g_1 : Int), Sx.Ask ((bdIn (BuildG.mk w h (Cl.mk v)) g).pre g_1) ∧ ((Sx.Ask (IntKind.i64 = IntKind.i64) ∧ Sx.Ask (w = w)) ∧ (Sx.Ask (IntKind.i64 = IntKind.i64) ∧ Sx.Ask (h = h)) ∧ (Sx.Ask ((56 : Go.FuncId) = (56 : Go.FuncId)) ∧ True ∧ True ∧ Sx.Ask (IntKind.u8 = IntKind.u8) ∧ Sx.Ask (v = v)) ∧ Sx.Ask ((0 : Nat) = (0 : Nat)) ∧ Sx.Ask ((0 : Nat) = (0 : Nat)) ∧ (Sx.Ask (IntKind.i64 = IntKind.i64) ∧ Sx.Ask (g = g)) ∧ (Sx.Ask (IntKind.i64 = IntKind.i64) ∧ Sx.Ask (h = h)) ∧ (Sx.Ask (IntKind.i64 = IntKind.i64) ∧ Sx.Ask (g = g)) ∧ (Sx.Ask (IntKind.i64 = IntKind.i64) ∧ Sx.Ask (w = w)) ∧ (Sx.Ask (IntKind.i64 = IntKind.i64) ∧ Sx.Ask ((0 : Int) = g_1)) ∧ True) ∧ (((True ∧ True) ∧ True) ∧ True) ∧ (Sx.Ask ((g * w).toNat = (g * w + g_1).toNat) ∧ ∀ (i : Nat), i < (g * w + g_1).toNat → True ∧ Sx.Ask (IntKind.u8 = IntKind.u8) ∧ Sx.Ask ((BuildG.mk w h (Cl.mk v)).pix i = (BuildG.mk w h (Cl.mk v)).pix i)) ∧ (((True ∧ Sx.Ask (IntKind.i64 = IntKind.i64) ∧ Sx.Ask (w = w)) ∧ Sx.Ask (IntKind.i64 = IntKind.i64) ∧ Sx.Ask (h = h)) ∧ True) ∧ True) ∧ ∀ (g_1 : Int), (bdIn (BuildG.mk w h (Cl.mk v)) g).pre g_1 → True ∧ Sx.Br (decide (g_1 < w)) (True ∧ True ∧ True ∧ True ∧ True ∧ True ∧ True ∧ (((Sx.Ask (IntKind.i64 = IntKind.i64) ∧ Sx.Ask (g_1 = g_1)) ∧ (Sx.Ask (IntKind.i64 = IntKind.i64) ∧ Sx.Ask (g = g)) ∧ (True ∧ Sx.Ask (IntKind.u8 = IntKind.u8) ∧ Sx.Ask (v = v)) ∧ True) ∧ Sx.Ask True) ∧ True ∧ Sx.Ask ((g * w + g_1).toNat + (1 : Nat) ≤ (9223372036854775807 : Nat) ∧ ((g * w + g_1).toNat + (1 : Nat)) * (1 : Nat) ≤ (140737488355328 : Nat)) ∧ True ∧ True ∧ Sx.Ask ((-9223372036854775808 : Int) ≤ g_1 + (1 : Int) ∧ g_1 + (1 : Int) ≤ (9223372036854775807 : Int)) ∧ True ∧ ∃ (g' : Int), Sx.Ask ((bdIn (BuildG.mk w h (Cl.mk v)) g).pre g') ∧ (((Sx.Ask (IntKind.i64 = IntKind.i64) ∧ Sx.Ask (w = w)) ∧ (Sx.Ask (IntKind.i64 = IntKind.i64) ∧ Sx.Ask (h = h)) ∧ (Sx.Ask ((56 : Go.FuncId) = (56 : Go.FuncId)) ∧ True ∧ True ∧ Sx.Ask (IntKind.u8 = IntKind.u8) ∧ Sx.Ask (v = v)) ∧ Sx.Ask ((0 : Nat) = (0 : Nat)) ∧ Sx.Ask ((0 : Nat) = (0 : Nat)) ∧ (Sx.Ask (IntKind.i64 = IntKind.i64) ∧ Sx.Ask (g = g)) ∧ (Sx.Ask (IntKind.i64 = IntKind.i64) ∧ Sx.Ask (h = h)) ∧ (Sx.Ask (IntKind.i64 = IntKind.i64) ∧ Sx.Ask (g = g)) ∧ (Sx.Ask (IntKind.i64 = IntKind.i64) ∧ Sx.Ask (w = w)) ∧ (Sx.Ask (IntKind.i64 = IntKind.i64) ∧ Sx.Ask (g_1 + (1 : Int) = g')) ∧ True) ∧ (((True ∧ True) ∧ True) ∧ True) ∧ (Sx.Ask ((g * w + g_1).toNat + (1 : Nat) = (g * w + g').toNat) ∧ ∀ (i : Nat), i < (g * w + g').toNat → True ∧ Sx.Ask (IntKind.u8 = IntKind.u8) ∧ Sx.Ask ((bif decide (i < (g * w + g_1).toNat) then (BuildG.mk w h (Cl.mk v)).pix i else v) = (BuildG.mk w h (Cl.mk v)).pix i)) ∧ (((True ∧ Sx.Ask (IntKind.i64 = IntKind.i64) ∧ Sx.Ask (w = w)) ∧ Sx.Ask (IntKind.i64 = IntKind.i64) ∧ Sx.Ask (h = h)) ∧ True) ∧ True) ∧ Sx.Ask ((bdIn (BuildG.mk w h (Cl.mk v)) g).meas g' < (bdIn (BuildG.mk w h (Cl.mk v)) g).meas g_1)) (Sx.Ask ((-9223372036854775808 : Int) ≤ g + (1 : Int) ∧ g + (1 : Int) ≤ (9223372036854775807 : Int)) ∧ True ∧ ∃ (g' : Int), Sx.Ask ((bdOut (BuildG.mk w h (Cl.mk v))).pre g') ∧ (((Sx.Ask (IntKind.i64 = IntKind.i64) ∧ Sx.Ask (w = w)) ∧ (Sx.Ask (IntKind.i64 = IntKind.i64) ∧ Sx.Ask (h = h)) ∧ (Sx.Ask ((56 : Go.FuncId) = (56 : Go.FuncId)) ∧ True ∧ True ∧ Sx.Ask (IntKind.u8 = IntKind.u8) ∧ Sx.Ask (v = v)) ∧ Sx.Ask ((0 : Nat) = (0 : Nat)) ∧ Sx.Ask ((0 : Nat) = (0 : Nat)) ∧ (Sx.Ask (IntKind.i64 = IntKind.i64) ∧ Sx.Ask (h = h)) ∧ (Sx.Ask (IntKind.i64 = IntKind.i64) ∧ Sx.Ask (g + (1 : Int) = g')) ∧ True) ∧ (((True ∧ True) ∧ True) ∧ True) ∧ (Sx.Ask ((g * w + g_1).toNat = (g' * w).toNat) ∧ ∀ (i : Nat), i < (g' * w).toNat → True ∧ Sx.Ask (IntKind.u8 = IntKind.u8) ∧ Sx.Ask ((BuildG.mk w h (Cl.mk v)).pix i = (BuildG.mk w h (Cl.mk v)).pix i)) ∧ (((True ∧ Sx.Ask (IntKind.i64 = IntKind.i64) ∧ Sx.Ask (w = w)) ∧ Sx.Ask (IntKind.i64 = IntKind.i64) ∧ Sx.Ask (h = h)) ∧ True) ∧ True) ∧ Sx.Ask ((bdOut (BuildG.mk w h (Cl.mk v))).meas g' < (bdOut (BuildG.mk w h (Cl.mk v))).meas g))) (True ∧ True ∧ (True ∧ True) ∧ ((True ∧ Sx.Ask (IntKind.i64 = IntKind.i64) ∧ Sx.Ask (w = w)) ∧ Sx.Ask (IntKind.i64 = IntKind.i64) ∧ Sx.Ask (h = h)) ∧ Sx.Ask ((g * w).toNat = (w * h).toNat) ∧ ∀ (i : Nat), i < (w * h).toNat → True ∧ Sx.Ask (IntKind.u8 = IntKind.u8) ∧ Sx.Ask ((BuildG.mk w h (Cl.mk v)).pix i = (BuildG.mk w h (Cl.mk v)).out.pix i))) (by kernel_rfl) ?_
    simp only [ask_iff, br_iff, eq_self, true_and, and_true, implies_true, forall_const, decide_eq_true_eq, decide_eq_false_iff_not, ne_eq, Nat.mul_one, Nat.add_zero, Nat.zero_add]
    have hwh : 0 ≤ w * h ∧ w * h ≤ 1048576 := ⟨Int.mul_nonneg (by omega) (by omega), by have : w * h ≤ 1024 * 1024 := Int.mul_le_mul w2 h2 (by omega) (by omega); omega⟩
    refine ⟨by omega, by omega, ⟨(0 : Int), ⟨Int.le_refl 0, show (0 : Int) ≤ h by omega⟩, rfl, by simp, fun i hi => by simp at hi⟩, fun y hy => ?_⟩
    have hy' : 0 ≤ y ∧ y ≤ h := hy
    refine ⟨fun hlt => ⟨⟨(0 : Int), ⟨Int.le_refl 0, show (0 : Int) ≤ w by omega⟩, rfl, by simp⟩, fun x hp => ?_⟩, fun hge => ?_⟩
    · have hp' : 0 ≤ x ∧ x ≤ w := hp
      obtain ⟨q3, q4⟩ := hp'
      have b1 := row_bound w1 w2 h2 hy'.1 hlt q3 q4
      refine ⟨fun hx => ⟨ by omega, by omega, (x + 1 : Int), ⟨show 0 ≤ x + 1 by omega, show x + 1 ≤ w by omega⟩, ⟨rfl, by omega, fun i hi => ?_⟩, ?_⟩, fun hx => ⟨by omega, (y + 1 : Int), ⟨show 0 ≤ y + 1 by omega, show y + 1 ≤ h by omega⟩, ⟨rfl, ?_⟩, ?_⟩⟩
      · by_cases hil : i < (y * w + x).toNat
        · rw [decide_eq_true hil]; rfl
        · rw [decide_eq_false hil]
          have hi2 : i < (y * w + (x + 1)).toNat := hi
          obtain rfl : i = (y * w + x).toNat := by omega
          have dm := div_mod_at (w := w) (x := x) (y := y) w1 q3 hx hy'.1
          unfold BuildG.pix
          rw [dm.1, dm.2]
          rfl
      · show (w - (x + 1)).toNat < (w - x).toNat
        omega
      · rw [Int.add_mul]
        omega
      · show (h - (y + 1)).toNat < (h - y).toNat
        omega
    · obtain rfl : y = h := by omega
      exact ⟨by rw [Int.mul_comm], fun i hi => rfl⟩
/-! Library: Clone, Equal. -/
def byS (len : Nat) (f : Nat → Int) : SV := .sl len 1 (fun i _ => .int .u8 (f i))
def spClone : FSpec := mkSpec 51 (γ := Nat × (Nat → Int)) (fun | [s] => some (slLen s, slCell 0 s) | _ => none) (fun g => [byS g.1 g.2]) (fun g => g.1 ≤ 4294967296) (fun g => byS g.1 g.2)
theorem ok_clone : SpecOK Try.prog spClone := by
  refine spec_sound (specs := []) (all_ok trivial) (eqs := []) (fun _ _ h => (List.not_mem_nil h).elim) Aff.mixed Try.func51 rfl (by kernel_rfl) (fun _ _ => by kernel_rfl) (fun g => (⟨[], [(1, [.nilc 0])]⟩ : Ann)) (fun g => Nat.le_of_ble_eq_true (by kernel_rfl)) ?_
  rintro ⟨n, f⟩ hn
  simp only at hn
  refine vc_of (B := True ∧ (n = (0 : Nat) → True ∧ True ∧ True ∧ True ∧ Sx.Ask (n = (0 : Nat))) ∧ True ∧ True ∧ True ∧ True ∧ Sx.Ask ((0 : Nat) + n ≤ (9223372036854775807 : Nat) ∧ ((0 : Nat) + n) * (1 : Nat) ≤ (140737488355328 : Nat)) ∧ True ∧ True ∧ Sx.Ask ((0 : Nat) + n = n) ∧ ∀ (i : Nat), i < n → True ∧ Sx.Ask (IntKind.u8 = IntKind.u8) ∧ Sx.Ask (f (i - (0 : Nat)) = f i)) (by kernel_rfl) ?_
  simp only [ask_iff, br_iff, eq_self, true_and, and_true, implies_true, forall_const, decide_eq_true_eq, decide_eq_false_iff_not, ne_eq, Nat.mul_one, Nat.add_zero, Nat.zero_add]
  exact ⟨id, ⟨by omega, by omega⟩, fun i _ => rfl⟩
def eqAll (n : Nat) (f g : Nat → Int) : Bool := (List.range n).all fun i => decide (f i = g i)
theorem eqAll_iff {n : Nat} {f g : Nat → Int} : eqAll n f g = true ↔ ∀ i, i < n → f i = g i := by
  simp [eqAll]
structure EqG where
  n : Nat
  m : Nat
  f : Nat → Int
  g : Nat → Int
def eqInv (e : EqG) : Inv := ⟨Int, fun i => (0 ≤ i ∧ i ≤ e.n) ∧ ∀ j : Nat, (j : Int) < i → e.f j = e.g j,
  fun i => ⟨[(0, byS e.n e.f), (1, byS e.m e.g), (12, .int .i64 e.n), (13, .int .i64 i)], []⟩, fun i => (e.n - i).toNat⟩
def spEqual : FSpec := mkSpec 53 (γ := EqG) (fun | [s, r] => some ⟨slLen s, slLen r, slCell 0 s, slCell 0 r⟩ | _ => none) (fun e => [byS e.n e.f, byS e.m e.g]) (fun e => e.n ≤ 4294967296 ∧ e.m ≤ 4294967296)
  (fun e => .bool (decide (e.n = e.m) && eqAll e.n e.f e.g))
theorem ok_equal : SpecOK Try.prog spEqual := by
  refine spec_sound (specs := []) (all_ok trivial) (eqs := []) (fun _ _ h => (List.not_mem_nil h).elim) Aff.mixed Try.func53 rfl (by kernel_rfl) (fun _ _ => by kernel_rfl) (fun g => (⟨[(4, .inv (eqInv g))], []⟩ : Ann)) (fun g => Nat.le_of_ble_eq_true (by kernel_rfl)) ?_
  rintro ⟨n, m, f, g⟩ ⟨hn, hm⟩
  simp only at hn hm
  refine vc_of (B := True ∧ True ∧ True ∧ True ∧ True ∧ True ∧ Sx.Br (decide ((↑n : Int) ≠ (↑m : Int))) (True ∧ True ∧ Sx.Ask (false = (decide (n = m) && eqAll n f g))) (True ∧ True ∧ True ∧ (∃ (g_1 : Int), Sx.Ask ((eqInv (EqG.mk n m f g)).pre g_1) ∧ ((Sx.Ask (n = n) ∧ ∀ (i : Nat), i < n → True ∧ Sx.Ask (IntKind.u8 = IntKind.u8) ∧ Sx.Ask (f i = f i)) ∧ (Sx.Ask (m = m) ∧ ∀ (i : Nat), i < m → True ∧ Sx.Ask (IntKind.u8 = IntKind.u8) ∧ Sx.Ask (g i = g i)) ∧ (Sx.Ask (IntKind.i64 = IntKind.i64) ∧ Sx.Ask ((↑n : Int) = (↑n : Int))) ∧ (Sx.Ask (IntKind.i64 = IntKind.i64) ∧ Sx.Ask ((0 : Int) = g_1)) ∧ True) ∧ True) ∧ ∀ (g_1 : Int), (eqInv (EqG.mk n m f g)).pre g_1 → True ∧ Sx.Br (decide (g_1 < (↑n : Int))) (True ∧ True ∧ True ∧ True ∧ Sx.Ask ((0 : Int) ≤ g_1 ∧ g_1 < (↑n : Int)) ∧ True ∧ True ∧ True ∧ Sx.Ask ((0 : Int) ≤ g_1 ∧ g_1 < (↑m : Int)) ∧ True ∧ True ∧ Sx.Br (decide (f g_1.toNat ≠ g g_1.toNat)) (True ∧ True ∧ Sx.Ask (false = (decide (n = m) && eqAll n f g))) (Sx.Ask ((-9223372036854775808 : Int) ≤ g_1 + (1 : Int) ∧ g_1 + (1 : Int) ≤ (9223372036854775807 : Int)) ∧ True ∧ ∃ (g' : Int), Sx.Ask ((eqInv (EqG.mk n m f g)).pre g') ∧ (((Sx.Ask (n = n) ∧ ∀ (i : Nat), i < n → True ∧ Sx.Ask (IntKind.u8 = IntKind.u8) ∧ Sx.Ask (f i = f i)) ∧ (Sx.Ask (m = m) ∧ ∀ (i : Nat), i < m → True ∧ Sx.Ask (IntKind.u8 = IntKind.u8) ∧ Sx.Ask (g i = g i)) ∧ (Sx.Ask (IntKind.i64 = IntKind.i64) ∧ Sx.Ask ((↑n : Int) = (↑n : Int))) ∧ (Sx.Ask (IntKind.i64 = IntKind.i64) ∧ Sx.Ask (g_1 + (1 : Int) = g')) ∧ True) ∧ True) ∧ Sx.Ask ((eqInv (EqG.mk n m f g)).meas g' < (eqInv (EqG.mk n m f g)).meas g_1))) (True ∧ True ∧ Sx.Ask (true = (decide (n = m) && eqAll n f g))))) (by kernel_rfl) ?_
  simp only [ask_iff, br_iff, eq_self, true_and, and_true, implies_true, forall_const, decide_eq_true_eq, decide_eq_false_iff_not, ne_eq, Nat.mul_one, Nat.add_zero, Nat.zero_add]
  refine ⟨fun h => ?_, fun h => ?_⟩
  · rw [decide_eq_false (by omega)]; rfl
  have hnm : n = m := by omega
  subst hnm
  rw [decide_eq_true rfl, Bool.true_and]
  refine ⟨⟨(0 : Int), ⟨⟨Int.le_refl 0, Int.natCast_nonneg n⟩, fun j hj => absurd hj (by omega)⟩, rfl⟩, fun i hi => ?_⟩
  have hi' : (0 ≤ i ∧ i ≤ n) ∧ ∀ j : Nat, (j : Int) < i → f j = g j := hi
  refine ⟨fun hlt => ⟨by omega, by omega, fun hne => ?_, fun heq => ⟨by omega, (i + 1 : Int), ⟨⟨show 0 ≤ i + 1 by omega, show i + 1 ≤ n by omega⟩, fun j hj => ?_⟩, rfl, ?_⟩⟩, fun hge => ?_⟩
  · refine (Bool.eq_false_iff.2 fun hc => hne ?_).symm
    exact eqAll_iff.1 hc i.toNat (by omega)
  · by_cases hj2 : (j : Int) < i
    · exact hi'.2 j hj2
    · have hj3 : (j : Int) < i + 1 := hj
      obtain rfl : j = i.toNat := by omega
      exact Classical.not_not.1 heq
  · show (n - (i + 1)).toNat < (n - i).toNat
    omega
  · exact (eqAll_iff.2 fun j hj => hi'.2 j (by omega)).symm
def sameB (a b : Grid) : Bool := decide (a.w = b.w) && (decide (a.h = b.h) && (decide (a.len = b.len) && eqAll a.len a.pix b.pix))
def spSame : FSpec := mkSpec 21 (γ := Grid × Grid) (fun | [.agg _ a, .agg _ b] => some (gridD a, gridD b) | _ => none) (fun g => [gridS g.1, gridS g.2]) (fun g => g.1.len ≤ 4294967296 ∧ g.2.len ≤ 4294967296) (fun g => .bool (sameB g.1 g.2))
theorem ok_same : SpecOK Try.prog spSame := by
  refine spec_sound (specs := [spEqual]) (all_ok (⟨ok_equal, trivial⟩)) (eqs := []) (fun _ _ h => (List.not_mem_nil h).elim) Aff.mixed Try.func21 rfl (by kernel_rfl) (fun _ _ => by kernel_rfl) (fun g => A0) (fun g => Nat.le_of_ble_eq_true (by kernel_rfl)) ?_
  rintro ⟨a, b⟩ ⟨ha, hb⟩
  simp only at ha hb
  refine vc_of (B := True ∧ True ∧ True ∧ True ∧ True ∧ True ∧ True ∧ True ∧ True ∧ Sx.Br (decide (a.w = b.w)) (True ∧ True ∧ True ∧ True ∧ True ∧ True ∧ True ∧ Sx.Br (decide (a.h = b.h)) (True ∧ True ∧ True ∧ True ∧ (((Sx.Ask (a.len = a.len) ∧ ∀ (i : Nat), i < a.len → True ∧ Sx.Ask (IntKind.u8 = IntKind.u8) ∧ Sx.Ask (a.pix i = a.pix i)) ∧ (Sx.Ask (b.len = b.len) ∧ ∀ (i : Nat), i < b.len → True ∧ Sx.Ask (IntKind.u8 = IntKind.u8) ∧ Sx.Ask (b.pix i = b.pix i)) ∧ True) ∧ Sx.Ask (a.len ≤ (4294967296 : Nat) ∧ b.len ≤ (4294967296 : Nat))) ∧ True ∧ True ∧ True ∧ Sx.Ask ((decide (a.len = b.len) && eqAll a.len (fun (i : Nat) => a.pix i) fun (i : Nat) => b.pix i) = sameB a b)) (True ∧ True ∧ True ∧ Sx.Ask (false = sameB a b))) (True ∧ True ∧ True ∧ True ∧ True ∧ Sx.Ask (false = sameB a b))) (by kernel_rfl) ?_
  simp only [ask_iff, br_iff, eq_self, true_and, and_true, implies_true, forall_const, decide_eq_true_eq, decide_eq_false_iff_not, ne_eq, Nat.mul_one, Nat.add_zero, Nat.zero_add]
  unfold sameB
  by_cases h1 : a.w = b.w
  · by_cases h2 : a.h = b.h
    · simp [h1, h2, ha, hb]
    · simp [h1, h2]
  · simp [h1]
/-! Turn, Mirror. -/
theorem and3 (k : Int) : bits .and .i64 k 3 = k % 4 := by
  have h : (BitVec.ofInt 64 k &&& BitVec.ofInt 64 3).toNat = (k % 4).toNat := by
    have e3 : (BitVec.ofInt 64 3).toNat = 2 ^ 2 - 1 := by decide
    rw [BitVec.toNat_and, e3, Nat.and_two_pow_sub_one_eq_mod, BitVec.toNat_ofInt]
    omega
  have hk := Int.emod_nonneg k (b := 4) (by decide)
  have hk' := Int.emod_lt_of_pos k (b := 4) (by decide)
  show IntKind.i64.wrap (((BitVec.ofInt 64 k &&& BitVec.ofInt 64 3).toNat : Nat) : Int) = k % 4
  rw [h, Int.toNat_of_nonneg hk]
  exact IntWalk.i64_in _ (by constructor <;> omega)
def turnG (g : Grid) (k : Int) : Grid :=
  if k % 4 = 1 then BuildG.out ⟨g.h, g.w, .t1 g⟩ else if k % 4 = 2 then BuildG.out ⟨g.w, g.h, .t2 g⟩ else if k % 4 = 3 then BuildG.out ⟨g.h, g.w, .t3 g⟩ else g
theorem at_rc {g : Grid} (hg : g.ok) {r c i : Int} (h : 0 ≤ r ∧ r < g.h) (k : 0 ≤ c ∧ c < g.w) (hi : i = r * g.w + c) : g.at i := by
  obtain ⟨⟨⟨w1, w2⟩, h1, h2⟩, h3⟩ := id hg
  have a0 : 0 ≤ r * g.w := Int.mul_nonneg h.1 (by omega)
  have a1 : (r + 1) * g.w ≤ g.h * g.w := Int.mul_le_mul_of_nonneg_right (by omega) (by omega)
  rw [Int.add_mul, Int.mul_comm g.h] at a1
  exact ⟨hg, by omega, by omega⟩
theorem t1_ok {g : Grid} (hg : g.ok) : BuildG.ok ⟨g.h, g.w, .t1 g⟩ := by
  obtain ⟨⟨⟨w1, w2⟩, h1, h2⟩, h3⟩ := id hg
  refine ⟨⟨⟨h1, h2⟩, w1, w2⟩, fun x y hx hx' hy hy' => ?_⟩
  have hx2 : x < g.h := hx'
  have hy2 : y < g.w := hy'
  exact ⟨⟨at_rc hg (r := g.h - 1 - x) (c := y) (by omega) (by omega) rfl, by omega, by omega⟩, by omega, by omega⟩
theorem t2_ok {g : Grid} (hg : g.ok) : BuildG.ok ⟨g.w, g.h, .t2 g⟩ := by
  obtain ⟨⟨⟨w1, w2⟩, h1, h2⟩, h3⟩ := id hg
  refine ⟨⟨⟨w1, w2⟩, h1, h2⟩, fun x y hx hx' hy hy' => ?_⟩
  have hx2 : x < g.w := hx'
  have hy2 : y < g.h := hy'
  exact ⟨⟨at_rc hg (r := g.h - 1 - y) (c := g.w - 1 - x) (by omega) (by omega) (by simp only [clI]; omega), by omega, by omega⟩, by omega, by omega⟩
theorem t3_ok {g : Grid} (hg : g.ok) : BuildG.ok ⟨g.h, g.w, .t3 g⟩ := by
  obtain ⟨⟨⟨w1, w2⟩, h1, h2⟩, h3⟩ := id hg
  refine ⟨⟨⟨h1, h2⟩, w1, w2⟩, fun x y hx hx' hy hy' => ?_⟩
  have hx2 : x < g.h := hx'
  have hy2 : y < g.w := hy'
  exact ⟨⟨at_rc hg (r := x) (c := g.w - 1 - y) (by omega) (by omega) (by simp only [clI]; omega), by omega, by omega⟩, by omega, by omega⟩
theorem mir_ok {g : Grid} (hg : g.ok) : BuildG.ok ⟨g.w, g.h, .mir g⟩ := by
  obtain ⟨⟨⟨w1, w2⟩, h1, h2⟩, h3⟩ := id hg
  refine ⟨⟨⟨w1, w2⟩, h1, h2⟩, fun x y hx hx' hy hy' => ?_⟩
  have hx2 : x < g.w := hx'
  have hy2 : y < g.h := hy'
  exact ⟨⟨at_rc hg (r := y) (c := g.w - 1 - x) (by omega) (by omega) (by simp only [clI]; omega), by omega, by omega⟩, by omega, by omega⟩
def spTurn : FSpec := mkSpec 19 (γ := Grid × Int) (fun | [.agg _ g, .int _ k] => some (gridD g, k) | _ => none) (fun g => [gridS g.1, .int .i64 g.2]) (fun g => g.1.ok) (fun g => .tup 2 (lst [gridS (turnG g.1 g.2), .int .i64 0]))
theorem ok_turn : SpecOK Try.prog spTurn := by
  refine spec_sound (specs := [spCheck, spBuild, spClone]) (all_ok (⟨ok_check, ok_build, ok_clone, trivial⟩)) (eqs := []) (fun _ _ h => (List.not_mem_nil h).elim) Aff.mixed Try.func19 rfl (by kernel_rfl) (fun _ _ => by kernel_rfl) (fun g => (⟨[], [(7, [.tmp 2, .tmp 7, .tmp 8]), (9, [.tmp 2, .tmp 7, .tmp 8]), (11, [.tmp 2, .tmp 7])]⟩ : Ann)) (fun g => Nat.le_of_ble_eq_true (by kernel_rfl)) ?_
  rintro ⟨g, k⟩ hg
  have hg' : g.ok := hg
  obtain ⟨⟨⟨w1, w2⟩, h1, h2⟩, h3⟩ := id hg'
  simp only
  refine vc_of (B := True ∧ True ∧ True ∧ True ∧ (((((True ∧ Sx.Ask (IntKind.i64 = IntKind.i64) ∧ Sx.Ask (g.w = g.w)) ∧ Sx.Ask (IntKind.i64 = IntKind.i64) ∧ Sx.Ask (g.h = g.h)) ∧ Sx.Ask (g.len = g.len) ∧ ∀ (i : Nat), i < g.len → True ∧ Sx.Ask (IntKind.u8 = IntKind.u8) ∧ Sx.Ask (g.pix i = g.pix i)) ∧ True) ∧ Sx.Ask g.ok) ∧ True ∧ True ∧ True ∧ True ∧ True ∧ True ∧ True ∧ True ∧ True ∧ True ∧ True ∧ True ∧ True ∧ True ∧ True ∧ Sx.Br (decide (Go.bits Go.BinOp.and IntKind.i64 k (3 : Int) = (1 : Int))) (True ∧ True ∧ True ∧ (((Sx.Ask (IntKind.i64 = IntKind.i64) ∧ Sx.Ask (g.h = g.h)) ∧ (Sx.Ask (IntKind.i64 = IntKind.i64) ∧ Sx.Ask (g.w = g.w)) ∧ (Sx.Ask ((48 : Nat) = (48 : Go.FuncId)) ∧ ((True ∧ ((True ∧ Sx.Ask (IntKind.i64 = IntKind.i64) ∧ Sx.Ask (g.w = g.w)) ∧ Sx.Ask (IntKind.i64 = IntKind.i64) ∧ Sx.Ask (g.h = g.h)) ∧ Sx.Ask (g.len = g.len) ∧ ∀ (i : Nat), i < g.len → True ∧ Sx.Ask (IntKind.u8 = IntKind.u8) ∧ Sx.Ask (g.pix i = g.pix i)) ∧ True ∧ Sx.Ask (IntKind.i64 = IntKind.i64) ∧ Sx.Ask (g.h = g.h)) ∧ True ∧ Sx.Ask (IntKind.i64 = IntKind.i64) ∧ Sx.Ask (g.w = g.w)) ∧ True) ∧ Sx.Ask (BuildG.mk g.h g.w (Cl.t1 g)).ok) ∧ True ∧ True ∧ (True ∧ True) ∧ (True ∧ ((True ∧ Sx.Ask (IntKind.i64 = IntKind.i64) ∧ Sx.Ask (g.h = (turnG g k).w)) ∧ Sx.Ask (IntKind.i64 = IntKind.i64) ∧ Sx.Ask (g.w = (turnG g k).h)) ∧ Sx.Ask ((g.h * g.w).toNat = (turnG g k).len) ∧ ∀ (i : Nat), i < (turnG g k).len → True ∧ Sx.Ask (IntKind.u8 = IntKind.u8) ∧ Sx.Ask ((BuildG.mk g.h g.w (Cl.t1 g)).out.pix i = (turnG g k).pix i)) ∧ Sx.Ask (IntKind.i64 = IntKind.i64) ∧ Sx.Ask ((0 : Int) = (0 : Int))) (True ∧ True ∧ Sx.Br (decide (Go.bits Go.BinOp.and IntKind.i64 k (3 : Int) = (2 : Int))) (True ∧ True ∧ True ∧ (((Sx.Ask (IntKind.i64 = IntKind.i64) ∧ Sx.Ask (g.w = g.w)) ∧ (Sx.Ask (IntKind.i64 = IntKind.i64) ∧ Sx.Ask (g.h = g.h)) ∧ (Sx.Ask ((49 : Nat) = (49 : Go.FuncId)) ∧ ((True ∧ ((True ∧ Sx.Ask (IntKind.i64 = IntKind.i64) ∧ Sx.Ask (g.w = g.w)) ∧ Sx.Ask (IntKind.i64 = IntKind.i64) ∧ Sx.Ask (g.h = g.h)) ∧ Sx.Ask (g.len = g.len) ∧ ∀ (i : Nat), i < g.len → True ∧ Sx.Ask (IntKind.u8 = IntKind.u8) ∧ Sx.Ask (g.pix i = g.pix i)) ∧ True ∧ Sx.Ask (IntKind.i64 = IntKind.i64) ∧ Sx.Ask (g.h = g.h)) ∧ True ∧ Sx.Ask (IntKind.i64 = IntKind.i64) ∧ Sx.Ask (g.w = g.w)) ∧ True) ∧ Sx.Ask (BuildG.mk g.w g.h (Cl.t2 g)).ok) ∧ True ∧ True ∧ (True ∧ True) ∧ (True ∧ ((True ∧ Sx.Ask (IntKind.i64 = IntKind.i64) ∧ Sx.Ask (g.w = (turnG g k).w)) ∧ Sx.Ask (IntKind.i64 = IntKind.i64) ∧ Sx.Ask (g.h = (turnG g k).h)) ∧ Sx.Ask ((g.w * g.h).toNat = (turnG g k).len) ∧ ∀ (i : Nat), i < (turnG g k).len → True ∧ Sx.Ask (IntKind.u8 = IntKind.u8) ∧ Sx.Ask ((BuildG.mk g.w g.h (Cl.t2 g)).out.pix i = (turnG g k).pix i)) ∧ Sx.Ask (IntKind.i64 = IntKind.i64) ∧ Sx.Ask ((0 : Int) = (0 : Int))) (True ∧ True ∧ Sx.Br (decide (Go.bits Go.BinOp.and IntKind.i64 k (3 : Int) = (3 : Int))) (True ∧ True ∧ True ∧ (((Sx.Ask (IntKind.i64 = IntKind.i64) ∧ Sx.Ask (g.h = g.h)) ∧ (Sx.Ask (IntKind.i64 = IntKind.i64) ∧ Sx.Ask (g.w = g.w)) ∧ (Sx.Ask ((50 : Nat) = (50 : Go.FuncId)) ∧ (True ∧ ((True ∧ Sx.Ask (IntKind.i64 = IntKind.i64) ∧ Sx.Ask (g.w = g.w)) ∧ Sx.Ask (IntKind.i64 = IntKind.i64) ∧ Sx.Ask (g.h = g.h)) ∧ Sx.Ask (g.len = g.len) ∧ ∀ (i : Nat), i < g.len → True ∧ Sx.Ask (IntKind.u8 = IntKind.u8) ∧ Sx.Ask (g.pix i = g.pix i)) ∧ True ∧ Sx.Ask (IntKind.i64 = IntKind.i64) ∧ Sx.Ask (g.w = g.w)) ∧ True) ∧ Sx.Ask (BuildG.mk g.h g.w (Cl.t3 g)).ok) ∧ True ∧ True ∧ (True ∧ True) ∧ (True ∧ ((True ∧ Sx.Ask (IntKind.i64 = IntKind.i64) ∧ Sx.Ask (g.h = (turnG g k).w)) ∧ Sx.Ask (IntKind.i64 = IntKind.i64) ∧ Sx.Ask (g.w = (turnG g k).h)) ∧ Sx.Ask ((g.h * g.w).toNat = (turnG g k).len) ∧ ∀ (i : Nat), i < (turnG g k).len → True ∧ Sx.Ask (IntKind.u8 = IntKind.u8) ∧ Sx.Ask ((BuildG.mk g.h g.w (Cl.t3 g)).out.pix i = (turnG g k).pix i)) ∧ Sx.Ask (IntKind.i64 = IntKind.i64) ∧ Sx.Ask ((0 : Int) = (0 : Int))) (True ∧ True ∧ True ∧ True ∧ (((Sx.Ask (g.len = g.len) ∧ ∀ (i : Nat), i < g.len → True ∧ Sx.Ask (IntKind.u8 = IntKind.u8) ∧ Sx.Ask (g.pix i = g.pix i)) ∧ True) ∧ Sx.Ask (g.len ≤ (4294967296 : Nat))) ∧ True ∧ True ∧ True ∧ (True ∧ True) ∧ (True ∧ ((True ∧ Sx.Ask (IntKind.i64 = IntKind.i64) ∧ Sx.Ask (g.w = (turnG g k).w)) ∧ Sx.Ask (IntKind.i64 = IntKind.i64) ∧ Sx.Ask (g.h = (turnG g k).h)) ∧ Sx.Ask (g.len = (turnG g k).len) ∧ ∀ (i : Nat), i < (turnG g k).len → True ∧ Sx.Ask (IntKind.u8 = IntKind.u8) ∧ Sx.Ask (g.pix i = (turnG g k).pix i)) ∧ Sx.Ask (IntKind.i64 = IntKind.i64) ∧ Sx.Ask ((0 : Int) = (0 : Int)))))) (by kernel_rfl) ?_
  simp only [ask_iff, br_iff, eq_self, true_and, and_true, implies_true, forall_const, decide_eq_true_eq, decide_eq_false_iff_not, ne_eq, Nat.mul_one, Nat.add_zero, Nat.zero_add]
  simp only [and3]
  have hb : g.w * g.h ≤ 1024 * 1024 := Int.mul_le_mul w2 h2 (by omega) (by omega)
  refine ⟨hg', fun e => ?_, fun e1 => ⟨fun e => ?_, fun e2 => ⟨fun e => ?_, fun e3 => ?_⟩⟩⟩
  · have ht : turnG g k = BuildG.out ⟨g.h, g.w, .t1 g⟩ := if_pos e
    rw [ht]
    exact ⟨t1_ok hg', ⟨rfl, rfl⟩, rfl, fun _ _ => rfl⟩
  · have ht : turnG g k = BuildG.out ⟨g.w, g.h, .t2 g⟩ := by unfold turnG; rw [if_neg e1, if_pos e]
    rw [ht]
    exact ⟨t2_ok hg', ⟨rfl, rfl⟩, rfl, fun _ _ => rfl⟩
  · have ht : turnG g k = BuildG.out ⟨g.h, g.w, .t3 g⟩ := by unfold turnG; rw [if_neg e1, if_neg e2, if_pos e]
    rw [ht]
    exact ⟨t3_ok hg', ⟨rfl, rfl⟩, rfl, fun _ _ => rfl⟩
  · have ht : turnG g k = g := by unfold turnG; rw [if_neg e1, if_neg e2, if_neg e3]
    rw [ht]
    exact ⟨by omega, ⟨rfl, rfl⟩, rfl, fun _ _ => rfl⟩
def mirG (g : Grid) : Grid := BuildG.out ⟨g.w, g.h, .mir g⟩
def spMirror : FSpec := mkSpec 20 (γ := Grid) (fun | [.agg _ g] => some (gridD g) | _ => none) (fun g => [gridS g]) Grid.ok (fun g => .tup 2 (lst [gridS (mirG g), .int .i64 0]))
theorem ok_mirror : SpecOK Try.prog spMirror := by
  refine spec_sound (specs := [spCheck, spBuild]) (all_ok (⟨ok_check, ok_build, trivial⟩)) (eqs := []) (fun _ _ h => (List.not_mem_nil h).elim) Aff.mixed Try.func20 rfl (by kernel_rfl) (fun _ _ => by kernel_rfl) (fun g => (⟨[], [(4, [.tmp 1])]⟩ : Ann)) (fun g => Nat.le_of_ble_eq_true (by kernel_rfl)) ?_
  rintro g hg
  refine vc_of (B := True ∧ True ∧ True ∧ True ∧ (((((True ∧ Sx.Ask (IntKind.i64 = IntKind.i64) ∧ Sx.Ask (g.w = g.w)) ∧ Sx.Ask (IntKind.i64 = IntKind.i64) ∧ Sx.Ask (g.h = g.h)) ∧ Sx.Ask (g.len = g.len) ∧ ∀ (i : Nat), i < g.len → True ∧ Sx.Ask (IntKind.u8 = IntKind.u8) ∧ Sx.Ask (g.pix i = g.pix i)) ∧ True) ∧ Sx.Ask g.ok) ∧ True ∧ True ∧ True ∧ True ∧ True ∧ True ∧ True ∧ True ∧ (((Sx.Ask (IntKind.i64 = IntKind.i64) ∧ Sx.Ask (g.w = g.w)) ∧ (Sx.Ask (IntKind.i64 = IntKind.i64) ∧ Sx.Ask (g.h = g.h)) ∧ (Sx.Ask ((52 : Nat) = (52 : Go.FuncId)) ∧ True ∧ ((True ∧ Sx.Ask (IntKind.i64 = IntKind.i64) ∧ Sx.Ask (g.w = g.w)) ∧ Sx.Ask (IntKind.i64 = IntKind.i64) ∧ Sx.Ask (g.h = g.h)) ∧ Sx.Ask (g.len = g.len) ∧ ∀ (i : Nat), i < g.len → True ∧ Sx.Ask (IntKind.u8 = IntKind.u8) ∧ Sx.Ask (g.pix i = g.pix i)) ∧ True) ∧ Sx.Ask (BuildG.mk g.w g.h (Cl.mir g)).ok) ∧ True ∧ True ∧ (True ∧ True) ∧ (True ∧ ((True ∧ Sx.Ask (IntKind.i64 = IntKind.i64) ∧ Sx.Ask (g.w = g.w)) ∧ Sx.Ask (IntKind.i64 = IntKind.i64) ∧ Sx.Ask (g.h = g.h)) ∧ Sx.Ask ((g.w * g.h).toNat = (g.w * g.h).toNat) ∧ ∀ (i : Nat), i < (g.w * g.h).toNat → True ∧ Sx.Ask (IntKind.u8 = IntKind.u8) ∧ Sx.Ask ((BuildG.mk g.w g.h (Cl.mir g)).out.pix i = (mirG g).pix i)) ∧ Sx.Ask (IntKind.i64 = IntKind.i64) ∧ Sx.Ask ((0 : Int) = (0 : Int))) (by kernel_rfl) ?_
  simp only [ask_iff, br_iff, eq_self, true_and, and_true, implies_true, forall_const, decide_eq_true_eq, decide_eq_false_iff_not, ne_eq, Nat.mul_one, Nat.add_zero, Nat.zero_add]
  exact ⟨hg, mir_ok hg, fun _ _ => rfl⟩
/-! small, turns. -/
def smallPix (n : Nat) (px : Nat → Int) (i : Nat) : Int := if n = 0 then IntKind.u8.wrap i else IntKind.u8.wrap (px (i % n) + IntKind.u8.wrap (i / n : Nat))
structure SmallG where
  w : Int
  h : Int
  n : Nat
  px : Nat → Int
def smallG (g : SmallG) : Grid := ⟨cutI g.w 1 8, cutI g.h 1 8, (cutI g.w 1 8 * cutI g.h 1 8).toNat, smallPix g.n g.px⟩
def smInv (g : SmallG) : Inv := ⟨Int, fun i => 0 ≤ i ∧ i ≤ cutI g.w 1 8 * cutI g.h 1 8,
  fun i => ⟨[(2, byS g.n g.px), (6, .own 0 0), (7, .own 1 0), (19, .int .i64 (cutI g.w 1 8 * cutI g.h 1 8)), (20, .int .i64 i)],
    [.cells 3 (fun _ => .any) 25, .cells 3 (lst [.int .i64 (cutI g.w 1 8), .int .i64 (cutI g.h 1 8), .osl 2 0]) 25, .row 0 i.toNat 1 (fun i _ => .int .u8 (smallPix g.n g.px i)) 5]⟩,
  fun i => (cutI g.w 1 8 * cutI g.h 1 8 - i).toNat⟩
def spSmall : FSpec := mkSpec 17 (γ := SmallG) (fun | [.int _ w, .int _ h, s] => some ⟨w, h, slLen s, slCell 0 s⟩ | _ => none) (fun g => [.int .i64 g.w, .int .i64 g.h, byS g.n g.px]) (fun g => g.n ≤ 9223372036854775807) (fun g => gridS (smallG g))
theorem ok_small : SpecOK Try.prog spSmall := by
  refine spec_sound (specs := [spCut]) (all_ok (⟨ok_cut, trivial⟩)) (eqs := []) (fun _ _ h => (List.not_mem_nil h).elim) Aff.mixed Try.func17 rfl (by kernel_rfl) (fun _ _ => by kernel_rfl) (fun g => (⟨[(3, .inv (smInv g))], [(2, [.ownC 1 2 5 1])]⟩ : Ann)) (fun g => Nat.le_of_ble_eq_true (by kernel_rfl)) ?_
  rintro g hn
  have cw : 1 ≤ cutI g.w 1 8 ∧ cutI g.w 1 8 ≤ 8 := by unfold cutI; omega
  have ch : 1 ≤ cutI g.h 1 8 ∧ cutI g.h 1 8 ≤ 8 := by unfold cutI; omega
  have hwh : cutI g.w 1 8 * cutI g.h 1 8 ≤ 8 * 8 := Int.mul_le_mul cw.2 ch.2 (by omega) (by omega)
  have hwh' : 0 ≤ cutI g.w 1 8 * cutI g.h 1 8 := Int.mul_nonneg (by omega) (by omega)
  refine vc_of (B := True ∧ True ∧ (((Sx.Ask (IntKind.i64 = IntKind.i64) ∧ Sx.Ask (g.w = g.w)) ∧ (Sx.Ask (IntKind.i64 = IntKind.i64) ∧ Sx.Ask ((1 : Int) = (1 : Int))) ∧ (Sx.Ask (IntKind.i64 = IntKind.i64) ∧ Sx.Ask ((8 : Int) = (8 : Int))) ∧ True) ∧ Sx.Ask (((-2305843009213693952 : Int) ≤ (1 : Int) ∧ (1 : Int) ≤ (8 : Int)) ∧ (8 : Int) ≤ (4611686018427387903 : Int) ∧ (8 : Int) - (1 : Int) ≤ (4611686018427387903 : Int))) ∧ True ∧ (((Sx.Ask (IntKind.i64 = IntKind.i64) ∧ Sx.Ask (g.h = g.h)) ∧ (Sx.Ask (IntKind.i64 = IntKind.i64) ∧ Sx.Ask ((1 : Int) = (1 : Int))) ∧ (Sx.Ask (IntKind.i64 = IntKind.i64) ∧ Sx.Ask ((8 : Int) = (8 : Int))) ∧ True) ∧ Sx.Ask (((-2305843009213693952 : Int) ≤ (1 : Int) ∧ (1 : Int) ≤ (8 : Int)) ∧ (8 : Int) ≤ (4611686018427387903 : Int) ∧ (8 : Int) - (1 : Int) ≤ (4611686018427387903 : Int))) ∧ True ∧ True ∧ True ∧ True ∧ True ∧ True ∧ True ∧ Sx.Ask ((-9223372036854775808 : Int) ≤ cutI g.w (1 : Int) (8 : Int) * cutI g.h (1 : Int) (8 : Int) ∧ cutI g.w (1 : Int) (8 : Int) * cutI g.h (1 : Int) (8 : Int) ≤ (9223372036854775807 : Int)) ∧ True ∧ (∃ (g_1 : Int), Sx.Ask ((smInv g).pre g_1) ∧ ((Sx.Ask (g.n = g.n) ∧ ∀ (i : Nat), i < g.n → True ∧ Sx.Ask (IntKind.u8 = IntKind.u8) ∧ Sx.Ask (g.px i = g.px i)) ∧ Sx.Ask ((0 : Nat) = (0 : Nat)) ∧ Sx.Ask ((0 : Nat) = (0 : Nat)) ∧ (Sx.Ask (IntKind.i64 = IntKind.i64) ∧ Sx.Ask (cutI g.w (1 : Int) (8 : Int) * cutI g.h (1 : Int) (8 : Int) = cutI g.w (1 : Int) (8 : Int) * cutI g.h (1 : Int) (8 : Int))) ∧ (Sx.Ask (IntKind.i64 = IntKind.i64) ∧ Sx.Ask ((0 : Int) = g_1)) ∧ True) ∧ (((True ∧ True) ∧ True) ∧ True) ∧ (((True ∧ Sx.Ask (IntKind.i64 = IntKind.i64) ∧ Sx.Ask (cutI g.w (1 : Int) (8 : Int) = cutI g.w (1 : Int) (8 : Int))) ∧ Sx.Ask (IntKind.i64 = IntKind.i64) ∧ Sx.Ask (cutI g.h (1 : Int) (8 : Int) = cutI g.h (1 : Int) (8 : Int))) ∧ True) ∧ (Sx.Ask ((0 : Nat) = g_1.toNat) ∧ ∀ (i : Nat), i < g_1.toNat → True ∧ False) ∧ True) ∧ ∀ (g_1 : Int), (smInv g).pre g_1 → True ∧ Sx.Br (decide (g_1 < cutI g.w (1 : Int) (8 : Int) * cutI g.h (1 : Int) (8 : Int))) (True ∧ True ∧ True ∧ Sx.Ask True ∧ True ∧ True ∧ True ∧ True ∧ Sx.Br (decide ((0 : Int) < (↑g.n : Int))) (True ∧ True ∧ True ∧ True ∧ Sx.Ask ((↑g.n : Int) ≠ (0 : Int)) ∧ Sx.Ask ((0 : Int) ≤ g_1.tmod (↑g.n : Int) ∧ g_1.tmod (↑g.n : Int) < (↑g.n : Int)) ∧ True ∧ True ∧ True ∧ True ∧ Sx.Ask ((↑g.n : Int) ≠ (0 : Int) ∧ (-9223372036854775808 : Int) ≤ g_1.tdiv (↑g.n : Int) ∧ g_1.tdiv (↑g.n : Int) ≤ (9223372036854775807 : Int)) ∧ Sx.Ask True ∧ Sx.Ask True ∧ True ∧ True ∧ True ∧ True ∧ True ∧ Sx.Ask (g_1.toNat + (1 : Nat) ≤ (9223372036854775807 : Nat) ∧ (g_1.toNat + (1 : Nat)) * (1 : Nat) ≤ (140737488355328 : Nat)) ∧ True ∧ True ∧ Sx.Ask ((-9223372036854775808 : Int) ≤ g_1 + (1 : Int) ∧ g_1 + (1 : Int) ≤ (9223372036854775807 : Int)) ∧ True ∧ ∃ (g' : Int), Sx.Ask ((smInv g).pre g') ∧ (((Sx.Ask (g.n = g.n) ∧ ∀ (i : Nat), i < g.n → True ∧ Sx.Ask (IntKind.u8 = IntKind.u8) ∧ Sx.Ask (g.px i = g.px i)) ∧ Sx.Ask ((0 : Nat) = (0 : Nat)) ∧ Sx.Ask ((0 : Nat) = (0 : Nat)) ∧ (Sx.Ask (IntKind.i64 = IntKind.i64) ∧ Sx.Ask (cutI g.w (1 : Int) (8 : Int) * cutI g.h (1 : Int) (8 : Int) = cutI g.w (1 : Int) (8 : Int) * cutI g.h (1 : Int) (8 : Int))) ∧ (Sx.Ask (IntKind.i64 = IntKind.i64) ∧ Sx.Ask (g_1 + (1 : Int) = g')) ∧ True) ∧ (((True ∧ True) ∧ True) ∧ True) ∧ (((True ∧ Sx.Ask (IntKind.i64 = IntKind.i64) ∧ Sx.Ask (cutI g.w (1 : Int) (8 : Int) = cutI g.w (1 : Int) (8 : Int))) ∧ Sx.Ask (IntKind.i64 = IntKind.i64) ∧ Sx.Ask (cutI g.h (1 : Int) (8 : Int) = cutI g.h (1 : Int) (8 : Int))) ∧ True) ∧ (Sx.Ask (g_1.toNat + (1 : Nat) = g'.toNat) ∧ ∀ (i : Nat), i < g'.toNat → True ∧ Sx.Ask (IntKind.u8 = IntKind.u8) ∧ Sx.Ask ((bif decide (i < g_1.toNat) then smallPix g.n g.px i else IntKind.u8.wrap (g.px (g_1.tmod (↑g.n : Int)).toNat + IntKind.u8.wrap (g_1.tdiv (↑g.n : Int)))) = smallPix g.n g.px i)) ∧ True) ∧ Sx.Ask ((smInv g).meas g' < (smInv g).meas g_1)) (True ∧ True ∧ True ∧ True ∧ Sx.Ask (g_1.toNat + (1 : Nat) ≤ (9223372036854775807 : Nat) ∧ (g_1.toNat + (1 : Nat)) * (1 : Nat) ≤ (140737488355328 : Nat)) ∧ True ∧ True ∧ Sx.Ask ((-9223372036854775808 : Int) ≤ g_1 + (1 : Int) ∧ g_1 + (1 : Int) ≤ (9223372036854775807 : Int)) ∧ True ∧ ∃ (g' : Int), Sx.Ask ((smInv g).pre g') ∧ (((Sx.Ask (g.n = g.n) ∧ ∀ (i : Nat), i < g.n → True ∧ Sx.Ask (IntKind.u8 = IntKind.u8) ∧ Sx.Ask (g.px i = g.px i)) ∧ Sx.Ask ((0 : Nat) = (0 : Nat)) ∧ Sx.Ask ((0 : Nat) = (0 : Nat)) ∧ (Sx.Ask (IntKind.i64 = IntKind.i64) ∧ Sx.Ask (cutI g.w (1 : Int) (8 : Int) * cutI g.h (1 : Int) (8 : Int) = cutI g.w (1 : Int) (8 : Int) * cutI g.h (1 : Int) (8 : Int))) ∧ (Sx.Ask (IntKind.i64 = IntKind.i64) ∧ Sx.Ask (g_1 + (1 : Int) = g')) ∧ True) ∧ (((True ∧ True) ∧ True) ∧ True) ∧ (((True ∧ Sx.Ask (IntKind.i64 = IntKind.i64) ∧ Sx.Ask (cutI g.w (1 : Int) (8 : Int) = cutI g.w (1 : Int) (8 : Int))) ∧ Sx.Ask (IntKind.i64 = IntKind.i64) ∧ Sx.Ask (cutI g.h (1 : Int) (8 : Int) = cutI g.h (1 : Int) (8 : Int))) ∧ True) ∧ (Sx.Ask (g_1.toNat + (1 : Nat) = g'.toNat) ∧ ∀ (i : Nat), i < g'.toNat → True ∧ Sx.Ask (IntKind.u8 = IntKind.u8) ∧ Sx.Ask ((bif decide (i < g_1.toNat) then smallPix g.n g.px i else IntKind.u8.wrap g_1) = smallPix g.n g.px i)) ∧ True) ∧ Sx.Ask ((smInv g).meas g' < (smInv g).meas g_1))) (True ∧ True ∧ (True ∧ True) ∧ ((True ∧ Sx.Ask (IntKind.i64 = IntKind.i64) ∧ Sx.Ask (cutI g.w (1 : Int) (8 : Int) = cutI g.w (1 : Int) (8 : Int))) ∧ Sx.Ask (IntKind.i64 = IntKind.i64) ∧ Sx.Ask (cutI g.h (1 : Int) (8 : Int) = cutI g.h (1 : Int) (8 : Int))) ∧ Sx.Ask (g_1.toNat = (cutI g.w (1 : Int) (8 : Int) * cutI g.h (1 : Int) (8 : Int)).toNat) ∧ ∀ (i : Nat), i < (cutI g.w (1 : Int) (8 : Int) * cutI g.h (1 : Int) (8 : Int)).toNat → True ∧ Sx.Ask (IntKind.u8 = IntKind.u8) ∧ Sx.Ask (smallPix g.n g.px i = (smallG g).pix i))) (by kernel_rfl) ?_
  simp only [ask_iff, br_iff, eq_self, true_and, and_true, implies_true, forall_const, decide_eq_true_eq, decide_eq_false_iff_not, ne_eq, Nat.mul_one, Nat.add_zero, Nat.zero_add]
  have step : ∀ (i : Int) (v : Int), 0 ≤ i → v = smallPix g.n g.px i.toNat → ∀ j : Nat, j < (i + 1).toNat → (bif decide (j < i.toNat) then smallPix g.n g.px j else v) = smallPix g.n g.px j := by
    intro i v hi hv j hj
    by_cases hl : j < i.toNat
    · rw [decide_eq_true hl]; rfl
    · rw [decide_eq_false hl]
      obtain rfl : j = i.toNat := by omega
      exact hv
  refine ⟨by omega, by omega, by omega, ⟨(0 : Int), ⟨Int.le_refl 0, hwh'⟩, rfl, rfl, fun i hi => absurd hi (Nat.not_lt_zero _)⟩, fun i hi => ?_⟩
  have hi' : 0 ≤ i ∧ i ≤ cutI g.w 1 8 * cutI g.h 1 8 := hi
  have hms : i < cutI g.w 1 8 * cutI g.h 1 8 → (cutI g.w 1 8 * cutI g.h 1 8 - (i + 1)).toNat < (cutI g.w 1 8 * cutI g.h 1 8 - i).toNat := fun h => by omega
  refine ⟨fun hlt => ⟨fun hn0 => ?_, fun hn0 => ?_⟩, fun hge => ?_⟩
  · have t1 := Int.tmod_eq_emod_of_nonneg (b := (g.n : Int)) hi'.1
    have t2 := Int.tdiv_eq_ediv_of_nonneg (b := (g.n : Int)) hi'.1
    have m1 := Int.emod_nonneg i (b := (g.n : Int)) (by omega)
    have m2 := Int.emod_lt_of_pos i (b := (g.n : Int)) hn0
    have d1 := Int.ediv_nonneg hi'.1 (Int.le_of_lt hn0)
    have d2 := Int.ediv_le_self (g.n : Int) hi'.1
    rw [t1, t2]
    have e1 : (i % (g.n : Int)).toNat = i.toNat % g.n := by
      conv => lhs; rw [← Int.toNat_of_nonneg hi'.1]
      rw [← Int.natCast_emod]; exact Int.toNat_natCast _
    have e2 : i / (g.n : Int) = ((i.toNat / g.n : Nat) : Int) := by
      conv => lhs; rw [← Int.toNat_of_nonneg hi'.1]
      exact (Int.natCast_ediv _ _).symm
    have hv : IntKind.u8.wrap (g.px (i % (g.n : Int)).toNat + IntKind.u8.wrap (i / (g.n : Int))) = smallPix g.n g.px i.toNat := by
      unfold smallPix
      rw [if_neg (by omega), e1, e2]
    exact ⟨by omega, by omega, ⟨by omega, by omega, by omega⟩, by omega, by omega, (i + 1 : Int), ⟨show 0 ≤ i + 1 by omega, show i + 1 ≤ _ by omega⟩, ⟨rfl, by omega, step i _ hi'.1 hv⟩, hms hlt⟩
  · have hv : IntKind.u8.wrap i = smallPix g.n g.px i.toNat := by
      unfold smallPix
      rw [if_pos (by omega), Int.toNat_of_nonneg hi'.1]
    exact ⟨by omega, by omega, (i + 1 : Int), ⟨show 0 ≤ i + 1 by omega, show i + 1 ≤ _ by omega⟩, ⟨rfl, by omega, step i _ hi'.1 hv⟩, hms hlt⟩
  · have : i = cutI g.w 1 8 * cutI g.h 1 8 := by omega
    rw [this]
    exact ⟨rfl, fun _ _ => rfl⟩
def spTurns : FSpec := mkSpec 16 (γ := Unit) (fun _ => some ()) (fun _ => []) (fun _ => True) (fun _ => .bool true)
theorem ok_turns : SpecOK Try.prog spTurns := by
  refine spec_sound (specs := [giv spTurn, giv spSame]) (all_ok (⟨giv_ok ok_turn, giv_ok ok_same, trivial⟩)) (eqs := []) (fun _ _ h => (List.not_mem_nil h).elim) Aff.mixed Try.func16 rfl (by kernel_rfl) (fun _ _ => by kernel_rfl) (fun g => (⟨[], []⟩ : Ann)) (fun g => Nat.le_of_ble_eq_true (by kernel_rfl)) ?_
  intro _ _
  refine vc_of (B := True ∧ True ∧ True ∧ (((((True ∧ Sx.Ask (IntKind.i64 = IntKind.i64) ∧ Sx.Ask ((3 : Int) = (3 : Int))) ∧ Sx.Ask (IntKind.i64 = IntKind.i64) ∧ Sx.Ask ((2 : Int) = (2 : Int))) ∧ Sx.Ask ((6 : Nat) = (6 : Nat)) ∧ ∀ (i : Nat), i < (6 : Nat) → True ∧ Sx.Ask (IntKind.u8 = IntKind.u8) ∧ Sx.Ask ((bif decide (i = (5 : Nat)) then (6 : Int) else bif decide (i = (4 : Nat)) then (5 : Int) else bif decide (i = (3 : Nat)) then (4 : Int) else bif decide (i = (2 : Nat)) then (3 : Int) else bif decide (i = (1 : Nat)) then (2 : Int) else (1 : Int)) = bif decide (i = (5 : Nat)) then (6 : Int) else bif decide (i = (4 : Nat)) then (5 : Int) else bif decide (i = (3 : Nat)) then (4 : Int) else bif decide (i = (2 : Nat)) then (3 : Int) else bif decide (i = (1 : Nat)) then (2 : Int) else (1 : Int))) ∧ (Sx.Ask (IntKind.i64 = IntKind.i64) ∧ Sx.Ask ((1 : Int) = (1 : Int))) ∧ True) ∧ Sx.Ask (Grid.mk (3 : Int) (2 : Int) (6 : Nat) fun (i : Nat) => bif decide (i = (5 : Nat)) then (6 : Int) else bif decide (i = (4 : Nat)) then (5 : Int) else bif decide (i = (3 : Nat)) then (4 : Int) else bif decide (i = (2 : Nat)) then (3 : Int) else bif decide (i = (1 : Nat)) then (2 : Int) else (1 : Int)).ok) ∧ True ∧ True ∧ True ∧ True ∧ True ∧ True ∧ True ∧ True ∧ True ∧ True ∧ True ∧ True ∧ (((((True ∧ Sx.Ask (IntKind.i64 = IntKind.i64) ∧ Sx.Ask ((2 : Int) = (2 : Int))) ∧ Sx.Ask (IntKind.i64 = IntKind.i64) ∧ Sx.Ask ((3 : Int) = (3 : Int))) ∧ Sx.Ask (((2 : Int) * (3 : Int)).toNat = ((2 : Int) * (3 : Int)).toNat) ∧ ∀ (i : Nat), i < ((2 : Int) * (3 : Int)).toNat → True ∧ Sx.Ask (IntKind.u8 = IntKind.u8) ∧ Sx.Ask ((turnG (Grid.mk (3 : Int) (2 : Int) (6 : Nat) fun (i : Nat) => bif decide (i = (5 : Nat)) then (6 : Int) else bif decide (i = (4 : Nat)) then (5 : Int) else bif decide (i = (3 : Nat)) then (4 : Int) else bif decide (i = (2 : Nat)) then (3 : Int) else bif decide (i = (1 : Nat)) then (2 : Int) else (1 : Int)) (1 : Int)).pix i = (turnG (Grid.mk (3 : Int) (2 : Int) (6 : Nat) fun (i : Nat) => bif decide (i = (5 : Nat)) then (6 : Int) else bif decide (i = (4 : Nat)) then (5 : Int) else bif decide (i = (3 : Nat)) then (4 : Int) else bif decide (i = (2 : Nat)) then (3 : Int) else bif decide (i = (1 : Nat)) then (2 : Int) else (1 : Int)) (1 : Int)).pix i)) ∧ (((True ∧ Sx.Ask (IntKind.i64 = IntKind.i64) ∧ Sx.Ask ((2 : Int) = (2 : Int))) ∧ Sx.Ask (IntKind.i64 = IntKind.i64) ∧ Sx.Ask ((3 : Int) = (3 : Int))) ∧ Sx.Ask ((6 : Nat) = (6 : Nat)) ∧ ∀ (i : Nat), i < (6 : Nat) → True ∧ Sx.Ask (IntKind.u8 = IntKind.u8) ∧ Sx.Ask ((bif decide (i = (5 : Nat)) then (3 : Int) else bif decide (i = (4 : Nat)) then (6 : Int) else bif decide (i = (3 : Nat)) then (2 : Int) else bif decide (i = (2 : Nat)) then (5 : Int) else bif decide (i = (1 : Nat)) then (1 : Int) else (4 : Int)) = bif decide (i = (5 : Nat)) then (3 : Int) else bif decide (i = (4 : Nat)) then (6 : Int) else bif decide (i = (3 : Nat)) then (2 : Int) else bif decide (i = (2 : Nat)) then (5 : Int) else bif decide (i = (1 : Nat)) then (1 : Int) else (4 : Int))) ∧ True) ∧ Sx.Ask (((2 : Int) * (3 : Int)).toNat ≤ (4294967296 : Nat) ∧ (6 : Nat) ≤ (4294967296 : Nat))) ∧ True ∧ True ∧ True ∧ Sx.Ask (sameB (Grid.mk (2 : Int) (3 : Int) ((2 : Int) * (3 : Int)).toNat fun (i : Nat) => (turnG (Grid.mk (3 : Int) (2 : Int) (6 : Nat) fun (i : Nat) => bif decide (i = (5 : Nat)) then (6 : Int) else bif decide (i = (4 : Nat)) then (5 : Int) else bif decide (i = (3 : Nat)) then (4 : Int) else bif decide (i = (2 : Nat)) then (3 : Int) else bif decide (i = (1 : Nat)) then (2 : Int) else (1 : Int)) (1 : Int)).pix i) (Grid.mk (2 : Int) (3 : Int) (6 : Nat) fun (i : Nat) => bif decide (i = (5 : Nat)) then (3 : Int) else bif decide (i = (4 : Nat)) then (6 : Int) else bif decide (i = (3 : Nat)) then (2 : Int) else bif decide (i = (2 : Nat)) then (5 : Int) else bif decide (i = (1 : Nat)) then (1 : Int) else (4 : Int)) = true)) (by kernel_rfl) ?_
  simp only [ask_iff, br_iff, eq_self, true_and, and_true, implies_true, forall_const, decide_eq_true_eq, decide_eq_false_iff_not, ne_eq, Nat.mul_one, Nat.add_zero, Nat.zero_add]
  exact ⟨⟨⟨⟨by decide, by decide⟩, by decide, by decide⟩, rfl⟩, ⟨by decide, by decide⟩, by kernel_rfl⟩
end Go.Proofs.Ytmedlibkhlgdjaa.Ras
