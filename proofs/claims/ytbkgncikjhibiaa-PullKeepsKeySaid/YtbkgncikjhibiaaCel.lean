/- Package flat: Cells: by the evaluation. -/
import Derived.Test.YtbkgncikjhibiaaGar
set_option linter.unusedSimpArgs false
set_option linter.unusedVariables false
namespace Go.Proofs.Ytbkgncikjhibiaa.Cel
open Go.RowKit Sx Num Aff Con Rga Gat Gar
set_option maxRecDepth 100000
theorem eight {a b : Vec} (h : ∀ j, j < 8 → a j = b j) : ((((((a 0 = b 0 ∧ a 1 = b 1) ∧ a 2 = b 2) ∧ a 3 = b 3) ∧ a 4 = b 4) ∧ a 5 = b 5) ∧ a 6 = b 6) ∧ a 7 = b 7 :=
  ⟨⟨⟨⟨⟨⟨⟨h 0 (by omega), h 1 (by omega)⟩, h 2 (by omega)⟩, h 3 (by omega)⟩, h 4 (by omega)⟩, h 5 (by omega)⟩, h 6 (by omega)⟩, h 7 (by omega)⟩
structure CeG where
  w : Nat
  h : Nat
  P : Pcs
/-- v in the cells from a to b - 1. -/
def put (c : Nat → Vec) (a b : Nat) (v : Vec) (i : Nat) : Vec := bif decide (a ≤ i ∧ i < b) then v else c i
/-- The cell at which a row begins. -/
def rwAt (w : Nat) (r : Rn) : Nat := r.y.toNat * (16 * w)
def putR (w : Nat) (c : Nat → Vec) (r : Rn) (v : Vec) : Nat → Vec := put c (rwAt w r + r.x0.toNat) (rwAt w r + r.x1.toNat) v
def ceR (g : CeG) (c : Nat → Vec) (k : Nat) : Nat → Nat → Vec
  | 0 => c
  | r + 1 => putR g.w (ceR g c k r) (g.P.p k r) (g.P.ink k)
def ceP (g : CeG) : Nat → Nat → Vec
  | 0 => fun _ _ => 0
  | k + 1 => ceR g (ceP g k) k (g.P.m k)
/-- The vectors of all cells. -/
def ceB (g : CeG) : Nat → Vec := ceP g g.P.n
structure CeG.Ok (g : CeG) : Prop where
  w : 1 ≤ g.w ∧ g.w ≤ 256
  h : 1 ≤ g.h ∧ g.h ≤ 256
  n : g.P.n ≤ 4096
  m : ∀ k, k < g.P.n → g.P.m k ≤ 4294967296
  r : ∀ k r, k < g.P.n → r < g.P.m k → (0 ≤ (g.P.p k r).y ∧ (g.P.p k r).y < 16 * g.h) ∧ (0 ≤ (g.P.p k r).x0 ∧ (g.P.p k r).x0 < (g.P.p k r).x1) ∧ (g.P.p k r).x1 ≤ 16 * g.w
def ceO (g : CeG) (c : Nat → Vec) : SO := .row 0 (256 * g.w * g.h) 8 (fun i j => .int .u8 (c i j)) 33
def ce1 (g : CeG) : Inv := ⟨Nat, fun k => k ≤ g.P.n, fun k => ⟨[(0, .int .i64 g.w), (7, .osl 0 0), (19, pcS g.P), (20, .int .i64 g.P.n), (21, .int .i64 k)], [ceO g (ceP g k)]⟩, fun k => g.P.n - k⟩
def ce2 (g : CeG) (k : Nat) : Inv := ⟨Nat, fun r => k < g.P.n ∧ r ≤ g.P.m k, fun r => ⟨[(0, .int .i64 g.w), (7, .osl 0 0), (19, pcS g.P), (20, .int .i64 g.P.n), (21, .int .i64 k), (9, .own 1 0), (26, rgS ⟨g.P.m k, g.P.p k⟩), (27, .int .i64 (g.P.m k)), (28, .int .i64 r)],
  [ceO g (ceR g (ceP g k) k r), .cells 9 (pcC g.P k) 35]⟩, fun r => g.P.m k - r⟩
def ce3 (g : CeG) (k r : Nat) : Inv := ⟨Nat, fun x => (k < g.P.n ∧ r < g.P.m k) ∧ (g.P.p k r).x0 ≤ x ∧ x ≤ (g.P.p k r).x1,
  fun x => ⟨[(0, .int .i64 g.w), (7, .osl 0 0), (19, pcS g.P), (20, .int .i64 g.P.n), (21, .int .i64 k), (9, .own 1 0), (26, rgS ⟨g.P.m k, g.P.p k⟩), (27, .int .i64 (g.P.m k)), (28, .int .i64 r), (11, .own 2 0), (12, .win 0 0 8 (rwAt g.w (g.P.p k r)) (256 * g.w * g.h - rwAt g.w (g.P.p k r))), (13, .int .i64 x)],
  [ceO g (put (ceR g (ceP g k) k r) (rwAt g.w (g.P.p k r) + (g.P.p k r).x0.toNat) (rwAt g.w (g.P.p k r) + x) (g.P.ink k)), .cells 9 (pcC g.P k) 35, .cells 3 (lst (rnL (g.P.p k r))) 43]⟩, fun x => ((g.P.p k r).x1 - x).toNat⟩
def spCells : FSpec := mkSpecN 23 (γ := CeG) (fun | [.int _ w, .int _ h, p] => some ⟨w.toNat, h.toNat, pcD p⟩ | _ => none) (fun g => [.int .i64 g.w, .int .i64 g.h, pcS g.P])
  (fun g => g.Ok) (fun _ => .osl 0 0) (fun g => ceO g (ceB g))
theorem ok_Cells : SpecOK Try.prog spCells := by
  refine spec_soundN (specs := []) (all_ok trivial) (eqs := []) (fun _ _ h => (List.not_mem_nil h).elim) Aff.mixed Try.func23 rfl (by kernel_rfl) (fun _ _ => by kernel_rfl)
    (fun g => (⟨[(3, .nest (ce1 g) (fun k => [(6, .nest (ce2 g k) (fun r => [(10, .inv (ce3 g k r))]))]))], []⟩ : Ann)) (fun _ => 0) (fun g => Nat.le_of_ble_eq_true (by kernel_rfl)) ?_
  rintro g hg
  refine vc_of (B := let z45 := (1 : Int);let z44 := (8 : Nat);let z43 := (16 : Int);let z37 := (↑g.h : Int);let z36 := (256 : Int);let z34 := (0 : Int);let z30 := (7 : Nat);let z29 := (6 : Nat);let z28 := (5 : Nat);let z27 := (4 : Nat);let z26 := (3 : Nat);let z25 := (2 : Nat);let z24 := (1 : Nat);let z20 := (↑g.w : Int);let z19 := (256 : Nat); let z35 := (z19 * g.w * g.h);let z18 := (-9223372036854775808 : Int);let z17 := (9223372036854775807 : Int);let z14 := (z19 * g.w * g.h = z19 * g.w * g.h);let z11 := (0 : Nat); let z46 := (z11 = z11);let z4 := (IntKind.i64 = IntKind.i64); let z15 := (Sx.Ask z4 ∧ Sx.Ask (z20 = z20)); let z10 := (Sx.Ask z4 ∧ Sx.Ask ((↑g.P.n : Int) = (↑g.P.n : Int)));let z2 := (IntKind.u8 = IntKind.u8);let z0 := (Sx.Ask (g.P.n = g.P.n) ∧ ∀ (i : Nat), i < g.P.n → ((((((((True ∧ Sx.Ask (g.P.m i = g.P.m i) ∧ ∀ (i_1 : Nat), let z39 := (g.P.p i i_1); i_1 < g.P.m i → ((True ∧ Sx.Ask z4 ∧ Sx.Ask (z39.y = z39.y)) ∧ Sx.Ask z4 ∧ Sx.Ask (z39.x0 = z39.x0)) ∧ Sx.Ask z4 ∧ Sx.Ask (z39.x1 = z39.x1)) ∧ Sx.Ask z2 ∧ Sx.Ask (g.P.ink i z11 = g.P.ink i z11)) ∧ Sx.Ask z2 ∧ Sx.Ask (g.P.ink i z24 = g.P.ink i z24)) ∧ Sx.Ask z2 ∧ Sx.Ask (g.P.ink i z25 = g.P.ink i z25)) ∧ Sx.Ask z2 ∧ Sx.Ask (g.P.ink i z26 = g.P.ink i z26)) ∧ Sx.Ask z2 ∧ Sx.Ask (g.P.ink i z27 = g.P.ink i z27)) ∧ Sx.Ask z2 ∧ Sx.Ask (g.P.ink i z28 = g.P.ink i z28)) ∧ Sx.Ask z2 ∧ Sx.Ask (g.P.ink i z29 = g.P.ink i z29)) ∧ Sx.Ask z2 ∧ Sx.Ask (g.P.ink i z30 = g.P.ink i z30));True ∧ True ∧ Sx.Ask (z18 ≤ z36 * z20 ∧ z36 * z20 ≤ z17) ∧ True ∧ Sx.Ask (z18 ≤ z36 * z20 * z37 ∧ z36 * z20 * z37 ≤ z17) ∧ Sx.Ask (z34 ≤ z36 * z20 * z37 ∧ z36 * z20 * z37 ≤ z36 * z20 * z37 ∧ (↑z44 : Int) * (z36 * z20 * z37) ≤ (140737488355328 : Int) ∧ z36 * z20 * z37 ≤ z17) ∧ True ∧ True ∧ True ∧ True ∧ (∃ (g_1 : Nat), Sx.Ask ((ce1 g).pre g_1) ∧ (z15 ∧ True ∧ z0 ∧ z10 ∧ (Sx.Ask z4 ∧ Sx.Ask (z34 = (↑g_1 : Int))) ∧ True) ∧ (Sx.Ask ((z36 * z20 * z37).toNat = z19 * g.w * g.h) ∧ ∀ (i : Nat), i < z19 * g.w * g.h → (((((((True ∧ Sx.Ask z2 ∧ Sx.Ask (z34 = ceP g g_1 i z11)) ∧ Sx.Ask z2 ∧ Sx.Ask (z34 = ceP g g_1 i z24)) ∧ Sx.Ask z2 ∧ Sx.Ask (z34 = ceP g g_1 i z25)) ∧ Sx.Ask z2 ∧ Sx.Ask (z34 = ceP g g_1 i z26)) ∧ Sx.Ask z2 ∧ Sx.Ask (z34 = ceP g g_1 i z27)) ∧ Sx.Ask z2 ∧ Sx.Ask (z34 = ceP g g_1 i z28)) ∧ Sx.Ask z2 ∧ Sx.Ask (z34 = ceP g g_1 i z29)) ∧ Sx.Ask z2 ∧ Sx.Ask (z34 = ceP g g_1 i z30)) ∧ True) ∧ ∀ (g_1 : Nat), let z21 := (↑(g.P.m g_1) : Int); let z38 := (Sx.Ask z4 ∧ Sx.Ask (z21 = z21)); let z16 := (ceP g g_1); let z12 := (↑g_1 : Int); let z32 := (Sx.Ask z4 ∧ Sx.Ask (z12 = z12)); let z9 := (g.P.ink g_1); let z7 := (Sx.Ask (g.P.m g_1 = g.P.m g_1) ∧ ∀ (i : Nat), let z40 := (g.P.p g_1 i); i < g.P.m g_1 → ((True ∧ Sx.Ask z4 ∧ Sx.Ask (z40.y = z40.y)) ∧ Sx.Ask z4 ∧ Sx.Ask (z40.x0 = z40.x0)) ∧ Sx.Ask z4 ∧ Sx.Ask (z40.x1 = z40.x1)); let z1 := (((((((((True ∧ Sx.Ask (g.P.m g_1 = g.P.m g_1) ∧ ∀ (i : Nat), let z41 := (g.P.p g_1 i); i < g.P.m g_1 → ((True ∧ Sx.Ask z4 ∧ Sx.Ask (z41.y = z41.y)) ∧ Sx.Ask z4 ∧ Sx.Ask (z41.x0 = z41.x0)) ∧ Sx.Ask z4 ∧ Sx.Ask (z41.x1 = z41.x1)) ∧ Sx.Ask z2 ∧ Sx.Ask (g.P.ink g_1 z11 = g.P.ink g_1 z11)) ∧ Sx.Ask z2 ∧ Sx.Ask (g.P.ink g_1 z24 = g.P.ink g_1 z24)) ∧ Sx.Ask z2 ∧ Sx.Ask (g.P.ink g_1 z25 = g.P.ink g_1 z25)) ∧ Sx.Ask z2 ∧ Sx.Ask (g.P.ink g_1 z26 = g.P.ink g_1 z26)) ∧ Sx.Ask z2 ∧ Sx.Ask (g.P.ink g_1 z27 = g.P.ink g_1 z27)) ∧ Sx.Ask z2 ∧ Sx.Ask (g.P.ink g_1 z28 = g.P.ink g_1 z28)) ∧ Sx.Ask z2 ∧ Sx.Ask (g.P.ink g_1 z29 = g.P.ink g_1 z29)) ∧ Sx.Ask z2 ∧ Sx.Ask (g.P.ink g_1 z30 = g.P.ink g_1 z30)); (ce1 g).pre g_1 → True ∧ Sx.Br (decide (z12 < (↑g.P.n : Int))) (Sx.Ask (z34 ≤ z12 ∧ z12 < (↑g.P.n : Int)) ∧ True ∧ True ∧ True ∧ True ∧ True ∧ True ∧ True ∧ (∃ (g_2 : Nat), Sx.Ask ((ce2 g g_1).pre g_2) ∧ (z15 ∧ True ∧ z0 ∧ z10 ∧ z32 ∧ Sx.Ask z46 ∧ (Sx.Ask (g.P.m z12.toNat = g.P.m g_1) ∧ ∀ (i : Nat), i < g.P.m g_1 → ((True ∧ Sx.Ask z4 ∧ Sx.Ask ((g.P.p z12.toNat i).y = (g.P.p g_1 i).y)) ∧ Sx.Ask z4 ∧ Sx.Ask ((g.P.p z12.toNat i).x0 = (g.P.p g_1 i).x0)) ∧ Sx.Ask z4 ∧ Sx.Ask ((g.P.p z12.toNat i).x1 = (g.P.p g_1 i).x1)) ∧ (Sx.Ask z4 ∧ Sx.Ask ((↑(g.P.m z12.toNat) : Int) = z21)) ∧ (Sx.Ask z4 ∧ Sx.Ask (z34 = (↑g_2 : Int))) ∧ True) ∧ (Sx.Ask z14 ∧ ∀ (i : Nat), i < z19 * g.w * g.h → (((((((True ∧ Sx.Ask z2 ∧ Sx.Ask (ceP g g_1 i z11 = ceR g z16 g_1 g_2 i z11)) ∧ Sx.Ask z2 ∧ Sx.Ask (ceP g g_1 i z24 = ceR g z16 g_1 g_2 i z24)) ∧ Sx.Ask z2 ∧ Sx.Ask (ceP g g_1 i z25 = ceR g z16 g_1 g_2 i z25)) ∧ Sx.Ask z2 ∧ Sx.Ask (ceP g g_1 i z26 = ceR g z16 g_1 g_2 i z26)) ∧ Sx.Ask z2 ∧ Sx.Ask (ceP g g_1 i z27 = ceR g z16 g_1 g_2 i z27)) ∧ Sx.Ask z2 ∧ Sx.Ask (ceP g g_1 i z28 = ceR g z16 g_1 g_2 i z28)) ∧ Sx.Ask z2 ∧ Sx.Ask (ceP g g_1 i z29 = ceR g z16 g_1 g_2 i z29)) ∧ Sx.Ask z2 ∧ Sx.Ask (ceP g g_1 i z30 = ceR g z16 g_1 g_2 i z30)) ∧ (((((((((True ∧ Sx.Ask (g.P.m z12.toNat = g.P.m g_1) ∧ ∀ (i : Nat), i < g.P.m g_1 → ((True ∧ Sx.Ask z4 ∧ Sx.Ask ((g.P.p z12.toNat i).y = (g.P.p g_1 i).y)) ∧ Sx.Ask z4 ∧ Sx.Ask ((g.P.p z12.toNat i).x0 = (g.P.p g_1 i).x0)) ∧ Sx.Ask z4 ∧ Sx.Ask ((g.P.p z12.toNat i).x1 = (g.P.p g_1 i).x1)) ∧ Sx.Ask z2 ∧ Sx.Ask (g.P.ink z12.toNat z11 = g.P.ink g_1 z11)) ∧ Sx.Ask z2 ∧ Sx.Ask (g.P.ink z12.toNat z24 = g.P.ink g_1 z24)) ∧ Sx.Ask z2 ∧ Sx.Ask (g.P.ink z12.toNat z25 = g.P.ink g_1 z25)) ∧ Sx.Ask z2 ∧ Sx.Ask (g.P.ink z12.toNat z26 = g.P.ink g_1 z26)) ∧ Sx.Ask z2 ∧ Sx.Ask (g.P.ink z12.toNat z27 = g.P.ink g_1 z27)) ∧ Sx.Ask z2 ∧ Sx.Ask (g.P.ink z12.toNat z28 = g.P.ink g_1 z28)) ∧ Sx.Ask z2 ∧ Sx.Ask (g.P.ink z12.toNat z29 = g.P.ink g_1 z29)) ∧ Sx.Ask z2 ∧ Sx.Ask (g.P.ink z12.toNat z30 = g.P.ink g_1 z30)) ∧ True) ∧ ∀ (g_2 : Nat), let z42 := (ce3 g g_1 g_2); let z33 := (↑g_2 : Int); let z8 := (g.P.p g_1 z33.toNat); let z6 := (g.P.p g_1 g_2); let z5 := (ceR g z16 g_1 g_2); let z3 := (rwAt g.w z6 + z6.x0.toNat); (ce2 g g_1).pre g_2 → True ∧ Sx.Br (decide (z33 < z21)) (Sx.Ask (z34 ≤ z33 ∧ z33 < z21) ∧ True ∧ True ∧ True ∧ True ∧ True ∧ True ∧ Sx.Ask (z18 ≤ z8.y * z43 ∧ z8.y * z43 ≤ z17) ∧ True ∧ Sx.Ask (z18 ≤ z8.y * z43 * z20 ∧ z8.y * z43 * z20 ≤ z17) ∧ Sx.Ask (z34 ≤ z8.y * z43 * z20 ∧ z8.y * z43 * z20 ≤ Int.ofNat z35 ∧ Int.ofNat z35 ≤ Int.ofNat z35 ∧ Int.ofNat z35 ≤ (↑z35 : Int)) ∧ True ∧ True ∧ True ∧ True ∧ (∃ (g_3 : Nat), let z22 := (rwAt g.w z6 + g_3); Sx.Ask (z42.pre g_3) ∧ (z15 ∧ True ∧ z0 ∧ z10 ∧ z32 ∧ Sx.Ask z46 ∧ z7 ∧ z38 ∧ (Sx.Ask z4 ∧ Sx.Ask (z33 = z33)) ∧ Sx.Ask z46 ∧ (Sx.Ask ((z8.y * z43 * z20).toNat = rwAt g.w z6) ∧ Sx.Ask ((Int.ofNat z35 - z8.y * z43 * z20).toNat = z19 * g.w * g.h - rwAt g.w z6)) ∧ (Sx.Ask z4 ∧ Sx.Ask (z8.x0 = (↑g_3 : Int))) ∧ True) ∧ (Sx.Ask z14 ∧ ∀ (i : Nat), i < z19 * g.w * g.h → (((((((True ∧ Sx.Ask z2 ∧ Sx.Ask (ceR g z16 g_1 g_2 i z11 = put z5 z3 z22 z9 i z11)) ∧ Sx.Ask z2 ∧ Sx.Ask (ceR g z16 g_1 g_2 i z24 = put z5 z3 z22 z9 i z24)) ∧ Sx.Ask z2 ∧ Sx.Ask (ceR g z16 g_1 g_2 i z25 = put z5 z3 z22 z9 i z25)) ∧ Sx.Ask z2 ∧ Sx.Ask (ceR g z16 g_1 g_2 i z26 = put z5 z3 z22 z9 i z26)) ∧ Sx.Ask z2 ∧ Sx.Ask (ceR g z16 g_1 g_2 i z27 = put z5 z3 z22 z9 i z27)) ∧ Sx.Ask z2 ∧ Sx.Ask (ceR g z16 g_1 g_2 i z28 = put z5 z3 z22 z9 i z28)) ∧ Sx.Ask z2 ∧ Sx.Ask (ceR g z16 g_1 g_2 i z29 = put z5 z3 z22 z9 i z29)) ∧ Sx.Ask z2 ∧ Sx.Ask (ceR g z16 g_1 g_2 i z30 = put z5 z3 z22 z9 i z30)) ∧ z1 ∧ (((True ∧ Sx.Ask z4 ∧ Sx.Ask (z8.y = z6.y)) ∧ Sx.Ask z4 ∧ Sx.Ask (z8.x0 = z6.x0)) ∧ Sx.Ask z4 ∧ Sx.Ask (z8.x1 = z6.x1)) ∧ True) ∧ ∀ (g_3 : Nat), let z23 := (↑g_3 : Int); let z13 := (rwAt g.w z6 + g_3); z42.pre g_3 → True ∧ True ∧ True ∧ True ∧ Sx.Br (decide (z23 < z6.x1)) (True ∧ True ∧ True ∧ True ∧ Sx.Ask (z34 ≤ z23 ∧ z23 < (↑(z19 * g.w * g.h - rwAt g.w z6) : Int)) ∧ Sx.Ask (rwAt g.w z6 + z23.toNat < z19 * g.w * g.h) ∧ True ∧ Sx.Ask (z18 ≤ z23 + z45 ∧ z23 + z45 ≤ z17) ∧ True ∧ ∃ (g' : Nat), let z31 := (rwAt g.w z6 + g'); Sx.Ask (z42.pre g') ∧ ((z15 ∧ True ∧ z0 ∧ z10 ∧ z32 ∧ Sx.Ask z46 ∧ z7 ∧ z38 ∧ (Sx.Ask z4 ∧ Sx.Ask (z33 = z33)) ∧ Sx.Ask z46 ∧ (Sx.Ask (rwAt g.w z6 = rwAt g.w z6) ∧ Sx.Ask (z19 * g.w * g.h - rwAt g.w z6 = z19 * g.w * g.h - rwAt g.w z6)) ∧ (Sx.Ask z4 ∧ Sx.Ask (z23 + z45 = (↑g' : Int))) ∧ True) ∧ (Sx.Ask z14 ∧ ∀ (i : Nat), i < z19 * g.w * g.h → (((((((True ∧ Sx.Ask z2 ∧ Sx.Ask ((bif decide (i = rwAt g.w z6 + z23.toNat ∧ z11 ≤ z11 ∧ z11 < z11 + z44) then g.P.ink g_1 z11 else put z5 z3 z13 z9 i z11) = put z5 z3 z31 z9 i z11)) ∧ Sx.Ask z2 ∧ Sx.Ask ((bif decide (i = rwAt g.w z6 + z23.toNat ∧ z11 ≤ z24 ∧ z24 < z11 + z44) then g.P.ink g_1 z24 else put z5 z3 z13 z9 i z24) = put z5 z3 z31 z9 i z24)) ∧ Sx.Ask z2 ∧ Sx.Ask ((bif decide (i = rwAt g.w z6 + z23.toNat ∧ z11 ≤ z25 ∧ z25 < z11 + z44) then g.P.ink g_1 z25 else put z5 z3 z13 z9 i z25) = put z5 z3 z31 z9 i z25)) ∧ Sx.Ask z2 ∧ Sx.Ask ((bif decide (i = rwAt g.w z6 + z23.toNat ∧ z11 ≤ z26 ∧ z26 < z11 + z44) then g.P.ink g_1 z26 else put z5 z3 z13 z9 i z26) = put z5 z3 z31 z9 i z26)) ∧ Sx.Ask z2 ∧ Sx.Ask ((bif decide (i = rwAt g.w z6 + z23.toNat ∧ z11 ≤ z27 ∧ z27 < z11 + z44) then g.P.ink g_1 z27 else put z5 z3 z13 z9 i z27) = put z5 z3 z31 z9 i z27)) ∧ Sx.Ask z2 ∧ Sx.Ask ((bif decide (i = rwAt g.w z6 + z23.toNat ∧ z11 ≤ z28 ∧ z28 < z11 + z44) then g.P.ink g_1 z28 else put z5 z3 z13 z9 i z28) = put z5 z3 z31 z9 i z28)) ∧ Sx.Ask z2 ∧ Sx.Ask ((bif decide (i = rwAt g.w z6 + z23.toNat ∧ z11 ≤ z29 ∧ z29 < z11 + z44) then g.P.ink g_1 z29 else put z5 z3 z13 z9 i z29) = put z5 z3 z31 z9 i z29)) ∧ Sx.Ask z2 ∧ Sx.Ask ((bif decide (i = rwAt g.w z6 + z23.toNat ∧ z11 ≤ z30 ∧ z30 < z11 + z44) then g.P.ink g_1 z30 else put z5 z3 z13 z9 i z30) = put z5 z3 z31 z9 i z30)) ∧ z1 ∧ (((True ∧ Sx.Ask z4 ∧ Sx.Ask (z6.y = z6.y)) ∧ Sx.Ask z4 ∧ Sx.Ask (z6.x0 = z6.x0)) ∧ Sx.Ask z4 ∧ Sx.Ask (z6.x1 = z6.x1)) ∧ True) ∧ Sx.Ask (z42.meas g' < z42.meas g_3)) (Sx.Ask (z18 ≤ z33 + z45 ∧ z33 + z45 ≤ z17) ∧ True ∧ ∃ (g' : Nat), Sx.Ask ((ce2 g g_1).pre g') ∧ ((z15 ∧ True ∧ z0 ∧ z10 ∧ z32 ∧ Sx.Ask z46 ∧ z7 ∧ z38 ∧ (Sx.Ask z4 ∧ Sx.Ask (z33 + z45 = (↑g' : Int))) ∧ True) ∧ (Sx.Ask z14 ∧ ∀ (i : Nat), i < z19 * g.w * g.h → (((((((True ∧ Sx.Ask z2 ∧ Sx.Ask (put z5 z3 z13 z9 i z11 = ceR g z16 g_1 g' i z11)) ∧ Sx.Ask z2 ∧ Sx.Ask (put z5 z3 z13 z9 i z24 = ceR g z16 g_1 g' i z24)) ∧ Sx.Ask z2 ∧ Sx.Ask (put z5 z3 z13 z9 i z25 = ceR g z16 g_1 g' i z25)) ∧ Sx.Ask z2 ∧ Sx.Ask (put z5 z3 z13 z9 i z26 = ceR g z16 g_1 g' i z26)) ∧ Sx.Ask z2 ∧ Sx.Ask (put z5 z3 z13 z9 i z27 = ceR g z16 g_1 g' i z27)) ∧ Sx.Ask z2 ∧ Sx.Ask (put z5 z3 z13 z9 i z28 = ceR g z16 g_1 g' i z28)) ∧ Sx.Ask z2 ∧ Sx.Ask (put z5 z3 z13 z9 i z29 = ceR g z16 g_1 g' i z29)) ∧ Sx.Ask z2 ∧ Sx.Ask (put z5 z3 z13 z9 i z30 = ceR g z16 g_1 g' i z30)) ∧ z1 ∧ True) ∧ Sx.Ask ((ce2 g g_1).meas g' < (ce2 g g_1).meas g_2))) (Sx.Ask (z18 ≤ z12 + z45 ∧ z12 + z45 ≤ z17) ∧ True ∧ ∃ (g' : Nat), Sx.Ask ((ce1 g).pre g') ∧ ((z15 ∧ True ∧ z0 ∧ z10 ∧ (Sx.Ask z4 ∧ Sx.Ask (z12 + z45 = (↑g' : Int))) ∧ True) ∧ (Sx.Ask z14 ∧ ∀ (i : Nat), i < z19 * g.w * g.h → (((((((True ∧ Sx.Ask z2 ∧ Sx.Ask (ceR g z16 g_1 g_2 i z11 = ceP g g' i z11)) ∧ Sx.Ask z2 ∧ Sx.Ask (ceR g z16 g_1 g_2 i z24 = ceP g g' i z24)) ∧ Sx.Ask z2 ∧ Sx.Ask (ceR g z16 g_1 g_2 i z25 = ceP g g' i z25)) ∧ Sx.Ask z2 ∧ Sx.Ask (ceR g z16 g_1 g_2 i z26 = ceP g g' i z26)) ∧ Sx.Ask z2 ∧ Sx.Ask (ceR g z16 g_1 g_2 i z27 = ceP g g' i z27)) ∧ Sx.Ask z2 ∧ Sx.Ask (ceR g z16 g_1 g_2 i z28 = ceP g g' i z28)) ∧ Sx.Ask z2 ∧ Sx.Ask (ceR g z16 g_1 g_2 i z29 = ceP g g' i z29)) ∧ Sx.Ask z2 ∧ Sx.Ask (ceR g z16 g_1 g_2 i z30 = ceP g g' i z30)) ∧ True) ∧ Sx.Ask ((ce1 g).meas g' < (ce1 g).meas g_1))) (True ∧ True ∧ True ∧ (True ∧ True) ∧ (Sx.Ask z14 ∧ ∀ (i : Nat), i < z19 * g.w * g.h → (((((((True ∧ Sx.Ask z2 ∧ Sx.Ask (ceP g g_1 i z11 = ceB g i z11)) ∧ Sx.Ask z2 ∧ Sx.Ask (ceP g g_1 i z24 = ceB g i z24)) ∧ Sx.Ask z2 ∧ Sx.Ask (ceP g g_1 i z25 = ceB g i z25)) ∧ Sx.Ask z2 ∧ Sx.Ask (ceP g g_1 i z26 = ceB g i z26)) ∧ Sx.Ask z2 ∧ Sx.Ask (ceP g g_1 i z27 = ceB g i z27)) ∧ Sx.Ask z2 ∧ Sx.Ask (ceP g g_1 i z28 = ceB g i z28)) ∧ Sx.Ask z2 ∧ Sx.Ask (ceP g g_1 i z29 = ceB g i z29)) ∧ Sx.Ask z2 ∧ Sx.Ask (ceP g g_1 i z30 = ceB g i z30)) ∧ True)) (by kernel_rfl) ?_
  simp only [ask_iff, br_iff, eq_self, true_and, and_true, implies_true, forall_const, decide_eq_true_eq, decide_eq_false_iff_not, ne_eq, Nat.mul_one, Nat.add_zero, Nat.zero_add, Int.toNat_natCast, Bool.or_false]
  simp only [Int.ofNat_eq_natCast]
  have hw := hg.w
  have hh := hg.h
  have hn := hg.n
  have e3 : 256 * g.w * g.h ≤ 256 * 256 * 256 := Nat.mul_le_mul (Nat.mul_le_mul_left _ hw.2) hh.2
  have c1 : (256 * (g.w : Int) * g.h) = ((256 * g.w * g.h : Nat) : Int) := by simp
  rw [c1]
  refine ⟨by omega, by omega, by omega, ⟨0, Nat.zero_le _, rfl, Int.toNat_natCast _, fun i _ => eight (a := fun _ => 0) (b := ceP g 0 i) (fun j _ => rfl)⟩, fun k hk => ⟨fun hlt => ⟨by omega, ⟨0, ⟨by omega, Nat.zero_le _⟩, rfl, fun i _ => eight (fun j _ => rfl)⟩, fun r hr => ⟨fun hlt2 => ?_, fun hge2 => ?_⟩⟩, fun hge => ?_⟩⟩
  · have hkn : k < g.P.n := by omega
    have hrn : r < g.P.m k := by omega
    obtain ⟨hy, hx, hx1⟩ := hg.r k r hkn hrn
    have hm := hg.m k hkn
    generalize hrun : g.P.p k r = R at hy hx hx1
    have ey : ((R.y.toNat : Nat) : Int) = R.y := Int.toNat_of_nonneg hy.1
    have c2 : R.y * 16 * g.w = ((rwAt g.w R : Nat) : Int) := by
      unfold rwAt
      rw [← ey]
      simp [Int.mul_assoc]
    have h1 : (R.y.toNat + 1) * (16 * g.w) ≤ 256 * g.w * g.h := by
      refine Nat.le_trans (Nat.mul_le_mul_right _ (show R.y.toNat + 1 ≤ 16 * g.h by omega)) (Nat.le_of_eq ?_)
      grind
    have h2 : rwAt g.w R + 16 * g.w ≤ 256 * g.w * g.h := by
      unfold rwAt
      rw [Nat.add_mul, Nat.one_mul] at h1
      exact h1
    rw [c2]
    refine ⟨by omega, by omega, by omega, by omega, ⟨R.x0.toNat, ⟨⟨hkn, hrn⟩, by rw [hrun]; omega, by rw [hrun]; omega⟩, ⟨⟨Int.toNat_natCast _, by omega⟩, by omega⟩, fun i _ => eight (fun j _ => ?_)⟩, fun x hx' => ?_⟩
    · unfold put
      rw [decide_eq_false (by omega)]
      rfl
    · obtain ⟨_, hxx⟩ := hx'
      rw [hrun] at hxx
      refine ⟨fun hlt3 => ⟨by omega, by omega, by omega, x + 1, ⟨⟨hkn, hrn⟩, by rw [hrun]; omega, by rw [hrun]; omega⟩, ⟨by omega, fun i _ => ?_⟩, ?_⟩, fun hge3 => ⟨by omega, r + 1, ⟨hkn, hrn⟩, ⟨by omega, fun i _ => eight (fun j _ => ?_)⟩, by show g.P.m k - (r + 1) < g.P.m k - r; omega⟩⟩
      · refine eight (a := fun j => bif decide (i = rwAt g.w R + x ∧ 0 ≤ j ∧ j < 8) then g.P.ink k j else put (ceR g (ceP g k) k r) (rwAt g.w R + R.x0.toNat) (rwAt g.w R + x) (g.P.ink k) i j) (fun j hj => ?_)
        simp only [put]
        by_cases hi : i = rwAt g.w R + x
        · rw [decide_eq_true (show i = rwAt g.w R + x ∧ 0 ≤ j ∧ j < 8 from ⟨hi, Nat.zero_le _, hj⟩), decide_eq_true (show rwAt g.w R + R.x0.toNat ≤ i ∧ i < rwAt g.w R + (x + 1) by omega)]
          rfl
        · rw [decide_eq_false (show ¬ (i = rwAt g.w R + x ∧ 0 ≤ j ∧ j < 8) from fun h => hi h.1)]
          simp only [cond_false]
          rw [show decide (rwAt g.w R + R.x0.toNat ≤ i ∧ i < rwAt g.w R + x) = decide (rwAt g.w R + R.x0.toNat ≤ i ∧ i < rwAt g.w R + (x + 1)) from decide_eq_decide.2 (by omega)]
      · show ((g.P.p k r).x1 - ((x + 1 : Nat) : Int)).toNat < ((g.P.p k r).x1 - (x : Int)).toNat
        rw [hrun]
        omega
      · show _ = put (ceR g (ceP g k) k r) (rwAt g.w (g.P.p k r) + (g.P.p k r).x0.toNat) (rwAt g.w (g.P.p k r) + (g.P.p k r).x1.toNat) (g.P.ink k) i j
        rw [hrun, show R.x1.toNat = x by omega]
  · have hr2 : r ≤ g.P.m k := hr.2
    have hkn : k < g.P.n := by omega
    refine ⟨by omega, k + 1, hkn, ⟨by omega, fun i _ => eight (fun j _ => ?_)⟩, by show g.P.n - (k + 1) < g.P.n - k; omega⟩
    show _ = ceR g (ceP g k) k (g.P.m k) i j
    rw [show g.P.m k = r by omega]
  · have hk2 : k ≤ g.P.n := hk
    intro i _
    refine eight (fun j _ => ?_)
    show _ = ceP g g.P.n i j
    rw [show g.P.n = k by omega]
end Go.Proofs.Ytbkgncikjhibiaa.Cel
