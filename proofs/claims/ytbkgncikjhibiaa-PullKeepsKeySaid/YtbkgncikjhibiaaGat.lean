/- Package flat: gathering, add, row: by the evaluation. -/
import Derived.Test.YtbkgncikjhibiaaSxr
import Derived.Test.YtbkgncikjhibiaaRga
set_option linter.unusedSimpArgs false
set_option linter.unusedVariables false
namespace Go.Proofs.Ytbkgncikjhibiaa.Gat
open Go.RowKit Sx Num Aff Con Rga
set_option maxRecDepth 100000
/-! gathering. -/
def nsGat : NSpec := mkNS 39 (γ := Unit) (fun | [] => some () | _ => none) (fun _ => []) (fun _ => True) (fun _ => .own 0 0) (fun _ => [.cells 4 (lst [.omap 1, .cap0, .cap0, .lit false]) 101, .mpi (.arr 8 .u8) false (fun _ => false) (fun _ => .any)])
theorem ok_gat : NewsOK Try.prog nsGat := by
  refine spec_soundNS (specs := []) (all_ok trivial) (eqs := []) (fun _ _ h => (List.not_mem_nil h).elim) Aff.mixed Try.func39 rfl (by kernel_rfl) (fun _ _ => by kernel_rfl) (fun g => A0) (fun g => [1, 0]) (fun g => Nat.le_of_ble_eq_true (by kernel_rfl)) ?_
  rintro _ _
  refine vc_of (B := True ∧ True ∧ True ∧ True ∧ True ∧ True ∧ (Sx.Ask ((0 : Nat) = (0 : Nat)) ∧ True) ∧ ((((True ∧ True) ∧ True) ∧ True) ∧ Sx.Ask (false = false)) ∧ (∀ (l : List Int), l.length = (8 : Nat) → Sx.Ask (false = false) ∧ ((false || false) = true → True)) ∧ True) (by kernel_rfl) ?_
  simp only [ask_iff, br_iff, eq_self, true_and, and_true, implies_true, forall_const, decide_eq_true_eq, decide_eq_false_iff_not, ne_eq, Nat.mul_one, Nat.add_zero, Nat.zero_add]
  done
/-! Add, at an element of a slice of builders. -/
structure AaG where
  n : Nat
  m : Nat → Nat
  p : Nat → Nat → Rn
  i : Nat
  g : AdG
def ptS (g : AaG) (v : Nat) : SO := .deep 0 g.n 1 3 g.m (fun k i => lst (rnL (g.p k i))) (fun _ => lst []) 55 43 (some (g.i, .osl 1 v))
def aaD : List SV → List SO → Option AaG
  | [.ownAt _ _ i _ _, .int _ y, .int _ x0, .int _ x1], [.deep _ n _ _ m p _ _ _ _, .row _ len _ f _] => some ⟨n, m, fun k j => rnD (p k j), i, ⟨len, fun j => rnD (f j), ⟨y, x0, x1⟩⟩⟩
  | _, _ => none
def spAddAt : FSpec := mkSpecM 19 [.arg 0, .hole 0] aaD (fun g => [.ownAt 0 0 g.i 1 0, .int .i64 g.g.r.y, .int .i64 g.g.r.x0, .int .i64 g.g.r.x1])
  (fun g => [ptS g 0, .row 0 g.g.n 3 (fun i => lst (rnL (g.g.f i))) 43]) (fun g => g.i < g.n ∧ g.g.n ≤ 4294967296)
  (fun _ => .tup 0 (lst []))
  (fun g => [ptS g 1, .row 1 g.g.L.length 3 (fun i => lst (rnL (rI g.g.L i))) 43])
theorem ok_addAt : SpecOK Try.prog spAddAt := by
  refine spec_soundM (specs := []) (all_ok trivial) (eqs := []) (fun _ _ h => (List.not_mem_nil h).elim) Aff.mixed Try.func19 rfl (by kernel_rfl) (fun _ _ => by kernel_rfl) (fun g => A0) false (fun g => Nat.le_of_ble_eq_true (by kernel_rfl)) ?_
  rintro ⟨gn, gm, gp, gi, g⟩ hg
  refine vc_of (B := let z13 := (2 : Nat);let z12 := (0 : Nat);let z11 := (1 : Nat);let z9 := (True ∧ True);let z8 := (↑g.n : Int);let z6 := (gi < gn ∧ gi = gi);let z5 := (g.n + z11 ≤ (9223372036854775807 : Nat) ∧ (g.n + z11) * (24 : Nat) ≤ (140737488355328 : Nat));let z4 := ((0 : Int) ≤ z8 - (1 : Int) ∧ z8 - (1 : Int) < z8);let z3 := (IntKind.i64 = IntKind.i64);let z2 := (z8 - (1 : Int)); let z10 := (z2.toNat < g.n); let z7 := (g.f z2.toNat);let z1 := (Sx.Ask (g.n + z11 = g.L.length) ∧ ∀ (i : Nat), i < g.L.length → ((True ∧ Sx.Ask z3 ∧ Sx.Ask ((bif decide (i < g.n) then (g.f i).y else g.r.y) = (Rga.rI g.L i).y)) ∧ Sx.Ask z3 ∧ Sx.Ask ((bif decide (i < g.n) then (g.f i).x0 else g.r.x0) = (Rga.rI g.L i).x0)) ∧ Sx.Ask z3 ∧ Sx.Ask ((bif decide (i < g.n) then (g.f i).x1 else g.r.x1) = (Rga.rI g.L i).x1));let z0 := (Sx.Ask (gn = gn) ∧ (Sx.Ask (gi = gi) ∧ True) ∧ (∀ (i : Nat), i < gn → i ≠ gi → Sx.Ask (gm i = gm i) ∧ ∀ (i' : Nat), i' < gm i → ((True ∧ Sx.Ask z3 ∧ Sx.Ask ((gp i i').y = (gp i i').y)) ∧ Sx.Ask z3 ∧ Sx.Ask ((gp i i').x0 = (gp i i').x0)) ∧ Sx.Ask z3 ∧ Sx.Ask ((gp i i').x1 = (gp i i').x1)) ∧ ∀ (i : Nat), i < gn → True);True ∧ True ∧ True ∧ Sx.Br (decide (g.r.x1 ≤ g.r.x0)) (True ∧ True ∧ z9 ∧ z0 ∧ (Sx.Ask (g.n = g.L.length) ∧ ∀ (i : Nat), i < g.L.length → ((True ∧ Sx.Ask z3 ∧ Sx.Ask ((g.f i).y = (Rga.rI g.L i).y)) ∧ Sx.Ask z3 ∧ Sx.Ask ((g.f i).x0 = (Rga.rI g.L i).x0)) ∧ Sx.Ask z3 ∧ Sx.Ask ((g.f i).x1 = (Rga.rI g.L i).x1)) ∧ True) (True ∧ True ∧ True ∧ Sx.Ask z6 ∧ True ∧ Sx.Ask ((-9223372036854775808 : Int) ≤ z8 - (1 : Int) ∧ z8 - (1 : Int) ≤ (9223372036854775807 : Int)) ∧ True ∧ True ∧ True ∧ True ∧ Sx.Br (decide ((0 : Int) ≤ z8 - (1 : Int))) (True ∧ True ∧ True ∧ Sx.Ask z6 ∧ True ∧ Sx.Ask z4 ∧ True ∧ Sx.Ask z10 ∧ True ∧ True ∧ True ∧ True ∧ Sx.Br (decide (z7.y = g.r.y)) (True ∧ True ∧ True ∧ True ∧ Sx.Ask z6 ∧ True ∧ Sx.Ask z4 ∧ True ∧ Sx.Ask z10 ∧ True ∧ True ∧ Sx.Br (decide (g.r.x0 ≤ z7.x1)) (True ∧ True ∧ True ∧ Sx.Ask z6 ∧ True ∧ True ∧ True ∧ True ∧ Sx.Ask z6 ∧ True ∧ Sx.Ask z4 ∧ True ∧ Sx.Ask z10 ∧ True ∧ True ∧ Sx.Ask z4 ∧ True ∧ Sx.Ask z10 ∧ True ∧ True ∧ z9 ∧ z0 ∧ (Sx.Ask (g.n = g.L.length) ∧ ∀ (i : Nat), i < g.L.length → ((True ∧ Sx.Ask z3 ∧ Sx.Ask ((bif decide (i = z2.toNat ∧ z12 + z13 ≤ z12 ∧ z12 < z12 + z13 + z11) then if g.r.x1 > z7.x1 then g.r.x1 else z7.x1 else (g.f i).y) = (Rga.rI g.L i).y)) ∧ Sx.Ask z3 ∧ Sx.Ask ((bif decide (i = z2.toNat ∧ z12 + z13 ≤ z11 ∧ z11 < z12 + z13 + z11) then if g.r.x1 > z7.x1 then g.r.x1 else z7.x1 else (g.f i).x0) = (Rga.rI g.L i).x0)) ∧ Sx.Ask z3 ∧ Sx.Ask ((bif decide (i = z2.toNat ∧ z12 + z13 ≤ z13 ∧ z13 < z12 + z13 + z11) then if g.r.x1 > z7.x1 then g.r.x1 else z7.x1 else (g.f i).x1) = (Rga.rI g.L i).x1)) ∧ True) (True ∧ True ∧ True ∧ True ∧ Sx.Ask z6 ∧ True ∧ True ∧ True ∧ True ∧ True ∧ Sx.Ask z5 ∧ True ∧ True ∧ Sx.Ask z6 ∧ True ∧ True ∧ z9 ∧ z0 ∧ z1 ∧ True)) (True ∧ True ∧ True ∧ True ∧ True ∧ Sx.Ask z6 ∧ True ∧ True ∧ True ∧ True ∧ True ∧ Sx.Ask z5 ∧ True ∧ True ∧ Sx.Ask z6 ∧ True ∧ True ∧ z9 ∧ z0 ∧ z1 ∧ True)) (True ∧ True ∧ True ∧ True ∧ True ∧ True ∧ True ∧ Sx.Ask z6 ∧ True ∧ True ∧ True ∧ True ∧ True ∧ Sx.Ask z5 ∧ True ∧ True ∧ Sx.Ask z6 ∧ True ∧ True ∧ z9 ∧ z0 ∧ z1 ∧ True))) (by kernel_rfl) ?_
  simp only [ask_iff, br_iff, eq_self, true_and, and_true, implies_true, forall_const, decide_eq_true_eq, decide_eq_false_iff_not, ne_eq, Nat.mul_one, Nat.add_zero, Nat.zero_add]
  have hin : gi < gn := hg.1
  have hg : g.n ≤ 4294967296 := hg.2
  simp only [hin, true_and]
  have hlen : (Rg.L ⟨g.n, g.f⟩).length = g.n := Rg.len _
  have hget : ∀ i, i < g.n → rI (Rg.L ⟨g.n, g.f⟩) i = g.f i := fun i hi => Rg.rI (g := ⟨g.n, g.f⟩) hi
  have hL : g.L = addR (Rg.L ⟨g.n, g.f⟩) g.r := rfl
  generalize Rg.L ⟨g.n, g.f⟩ = L at hlen hget hL
  rw [hL]
  have app : ∀ (i : Nat), i < (L ++ [g.r]).length → ((bif decide (i < g.n) then (g.f i).y else g.r.y) = (rI (L ++ [g.r]) i).y ∧ (bif decide (i < g.n) then (g.f i).x0 else g.r.x0) = (rI (L ++ [g.r]) i).x0) ∧ (bif decide (i < g.n) then (g.f i).x1 else g.r.x1) = (rI (L ++ [g.r]) i).x1 := fun i hi => by
    rw [rI_app L g.r i (by simpa using hi), hlen]
    by_cases h : i < g.n
    · rw [decide_eq_true h, if_pos h, hget i h]; exact ⟨⟨rfl, rfl⟩, rfl⟩
    · rw [decide_eq_false h, if_neg h]; exact ⟨⟨rfl, rfl⟩, rfl⟩
  have bnd : g.n + 1 ≤ 9223372036854775807 ∧ (g.n + 1) * 24 ≤ 140737488355328 := by omega
  have e1 : ((g.n : Int) - 1).toNat = g.n - 1 := by omega
  rw [e1]
  refine ⟨fun h => ?_, fun h => ⟨by omega, fun h0 => ?_, fun h0 => ?_⟩⟩
  · have e : addR L g.r = L := if_neg (by omega)
    rw [e]
    exact ⟨hlen.symm, fun i hi => by rw [hget i (by omega)]; exact ⟨⟨rfl, rfl⟩, rfl⟩⟩
  · have hn : 0 < g.n := by omega
    have hlast : L.getLast? = some (g.f (g.n - 1)) := by
      rw [← hget (g.n - 1) (by omega), List.getLast?_eq_getElem?, hlen]
      unfold rI
      rw [List.getD_eq_getElem?_getD, List.getElem?_eq_getElem (show g.n - 1 < L.length by omega)]
      rfl
    have ea : addR L g.r = if (g.f (g.n - 1)).y = g.r.y ∧ g.r.x0 ≤ (g.f (g.n - 1)).x1 then L.dropLast ++ [⟨(g.f (g.n - 1)).y, (g.f (g.n - 1)).x0, if g.r.x1 > (g.f (g.n - 1)).x1 then g.r.x1 else (g.f (g.n - 1)).x1⟩] else L ++ [g.r] := by
      unfold addR
      rw [if_pos (by omega), hlast]
    have q1 : 0 ≤ (g.n : Int) - 1 ∧ (g.n : Int) - 1 < g.n := by omega
    have q2 : g.n - 1 < g.n := by omega
    refine ⟨q1, q2, fun hy => ⟨q1, q2, fun hx => ⟨q1, q2, q1, q2, ?_⟩, fun hx => ⟨bnd, ?_⟩⟩, fun hy => ⟨bnd, ?_⟩⟩
    · rw [ea, if_pos ⟨hy, hx⟩]
      refine ⟨by rw [List.length_append, List.length_dropLast, List.length_singleton]; omega, fun i hi => ?_⟩
      rw [rI_last L _ i (by rw [List.length_append, List.length_dropLast, List.length_singleton] at hi; omega) (by omega), hlen]
      by_cases h : i = g.n - 1
      · rw [decide_eq_false (by omega), decide_eq_false (by omega), decide_eq_true ⟨h, by omega⟩, if_pos h, h]
        exact ⟨⟨rfl, rfl⟩, rfl⟩
      · rw [decide_eq_false (by omega), decide_eq_false (by omega), decide_eq_false (by omega), if_neg h, hget i (by rw [List.length_append, List.length_dropLast, List.length_singleton] at hi; omega)]
        exact ⟨⟨rfl, rfl⟩, rfl⟩
    · rw [ea, if_neg (fun h => hx h.2)]
      exact ⟨by simp [hlen], app⟩
    · rw [ea, if_neg (fun h => hy h.1)]
      exact ⟨by simp [hlen], app⟩
  · have hn : g.n = 0 := by omega
    have eL : L = [] := List.length_eq_zero_iff.1 (by omega)
    have ea : addR L g.r = L ++ [g.r] := by
      unfold addR
      rw [if_pos (by omega), eL]
      rfl
    rw [ea]
    exact ⟨bnd, by simp [hlen], app⟩
/-! add: a run of one vector. -/
/-- What a gatherer holds: numbers of the vectors, runs and vectors of the parts. -/
structure Gt where
  has : List Int → Bool
  val : List Int → Int
  n : Nat
  m : Nat → Nat
  p : Nat → Nat → Rn
  ink : Nat → Nat → Int
  full : Bool
def kOf (v : Nat → Int) : List Int := [v 0, v 1, v 2, v 3, v 4, v 5, v 6, v 7]
def nul : List Int := [0, 0, 0, 0, 0, 0, 0, 0]
/-- The runs of part k behind an Add. -/
def grw (G : Gt) (k : Nat) (r : Rn) : List Rn := addR (Rg.L ⟨G.m k, G.p k⟩) r
def putP (G : Gt) (k : Nat) (L : List Rn) : Gt := { G with m := updN G.m k L.length, p := fun i j => bif decide (i = k) then rI L j else G.p i j }
/-- A new part. -/
def fresh (G : Gt) (v : Nat → Int) : Gt := { G with has := putH G.has (kOf v), val := fun l => bif decide (l = kOf v) then (G.n : Int) else G.val l, n := G.n + 1, m := updN G.m G.n 0, ink := fun i j => bif decide (i < G.n) then G.ink i j else v j }
def nxtB (G : Gt) (v : Nat → Int) (r : Rn) : Gt :=
  if kOf v = nul ∨ G.full = true then G
  else if G.has (kOf v) = true then putP G (G.val (kOf v)).toNat (grw G (G.val (kOf v)).toNat r)
  else if G.n = 4096 then { G with full := true }
  else putP (fresh G v) G.n (grw (fresh G v) G.n r)
theorem nxt_ex : ∃ f, f = nxtB := ⟨_, rfl⟩
noncomputable def nxt : Gt → (Nat → Int) → Rn → Gt := Classical.choose nxt_ex
theorem nxt_eq : nxt = nxtB := Classical.choose_spec nxt_ex
def vcS (v : Nat → Int) : SV := .agg 8 (fun j => .int .u8 (v j))
def vcD : SV → Nat → Int
  | .agg _ g => fun j => intOf (g j)
  | _ => fun _ => 0
def gaO (G : Gt) (v2 v3 : Nat) : List SO :=
  [.cells 4 (lst [.omap 1, .osl 2 v2, .osl 3 v3, .bool G.full]) 101,
   .mpi (.arr 8 .u8) false G.has (fun l => .int .i64 (G.val l)),
   .deep v2 G.n 1 3 G.m (fun k i => lst (rnL (G.p k i))) (fun _ => lst []) 55 43 none,
   .row v3 G.n 8 (fun i j => .int .u8 (G.ink i j)) 33]
def gtD : List SO → Option Gt
  | [.cells _ c _, .mpi _ _ has val, .deep _ n _ _ m p _ _ _ _, .row _ _ _ ink _] => some ⟨has, fun l => intOf (val l), n, m, fun k j => rnD (p k j), fun i j => intOf (ink i j), boolOf (c 3)⟩
  | _ => none
structure Gok (B : Nat) (G : Gt) : Prop where
  n : G.n ≤ 4096
  m : ∀ k, G.m k ≤ B
  val : ∀ l, G.has l = true → 0 ≤ G.val l ∧ G.val l < G.n
structure GaG where
  G : Gt
  v : Nat → Int
  r : Rn
def gaD : List SV → List SO → Option GaG
  | [_, v, .int _ y, .int _ x0, .int _ x1], os => match gtD os with
    | some G => some ⟨G, vcD v, ⟨y, x0, x1⟩⟩
    | none => none
  | _, _ => none
theorem zer (v : Nat → Int) : (decide (v 0 = 0) && (decide (v 1 = 0) && (decide (v 2 = 0) && (decide (v 3 = 0) && (decide (v 4 = 0) && (decide (v 5 = 0) && (decide (v 6 = 0) && (decide (v 7 = 0) && true)))))))) = decide (kOf v = nul) := by
  rw [Bool.eq_iff_iff]
  simp [kOf, nul]
theorem key_fold (v : Nat → Int) : [v 0, v 1, v 2, v 3, v 4, v 5, v 6, v 7] = kOf v := rfl
noncomputable def spGadd : FSpec := mkSpecM 55 [.arg 0, .cell 0 0, .cell 0 1, .cell 0 2] gaD (fun g => [.own 0 0, vcS g.v, .int .i64 g.r.y, .int .i64 g.r.x0, .int .i64 g.r.x1])
  (fun g => gaO g.G 0 0) (fun g => Gok 4294967295 g.G)
  (fun _ => .tup 0 (lst []))
  (fun g => gaO (nxt g.G g.v g.r) 1 1)
abbrev eqI : List (TypeId × List CK) := [(33, [.int, .int, .int, .int, .int, .int, .int, .int])]
theorem eqI_ok : AllEq Try.prog eqI := ⟨eqOK_of (m := 8) (by kernel_rfl) (by kernel_rfl) rfl (by decide) (by kernel_rfl), trivial⟩
theorem ok_gadd : SpecOK Try.prog spGadd := by
  refine spec_soundM (specs := [spAddAt]) (all_ok ⟨ok_addAt, trivial⟩) (eqs := eqI) (all_eq eqI_ok) Aff.mixed Try.func55 rfl (by kernel_rfl) (fun _ _ => by kernel_rfl) (fun g => (⟨[(4000008, .order [0, 1, 2, 3, 4, 5, 6, 7, 9, 10, 11, 12, 13, 14, 8, 15, 16, 17, 18, 19, 20, 21])], [(1000008, [.unfocus 2]), (9, [.focus 2 10]), (1000009, [.unfocus 2])]⟩ : Ann)) false (fun g => Nat.le_of_ble_eq_true (by kernel_rfl)) ?_
  rintro g hg
  refine vc_of (B := let z25 := (8 : Nat);let z24 := (True ∧ True);let z23 := (0 : Int);let z10 := (1 : Nat);let z8 := (IntKind.u8 = IntKind.u8);let z7 := (↑g.G.n : Int);let z5 := (0 : Nat); let z29 := (z5 + z10); let z22 := (z5 + (7 : Nat)); let z21 := (z5 + (6 : Nat)); let z20 := (z5 + (5 : Nat)); let z19 := (z5 + (4 : Nat)); let z18 := (z5 + (3 : Nat)); let z17 := (z5 + (2 : Nat)); let z9 := (bif decide (z7.toNat = g.G.n) then z5 else g.G.m z7.toNat); let z14 := (Rga.AdG.mk z9 (g.G.p z7.toNat) g.r);let z3 := (IntKind.i64 = IntKind.i64); let z32 := (Sx.Ask z3 ∧ Sx.Ask (g.r.y = g.r.y)); let z31 := (Sx.Ask z3 ∧ Sx.Ask (g.r.x1 = g.r.x1)); let z30 := (Sx.Ask z3 ∧ Sx.Ask (g.r.x0 = g.r.x0));let z2 := (nxt g.G g.v g.r); let z11 := (((z24 ∧ True) ∧ True) ∧ Sx.Ask (g.G.full = z2.full)); let z6 := (∀ (l : List Int), l.length = z25 → Sx.Ask (g.G.has l = z2.has l) ∧ ((z2.has l || false) = true → Sx.Ask z3 ∧ Sx.Ask (g.G.val l = z2.val l))); let z4 := (Sx.Ask (g.G.n = z2.n) ∧ (∀ (i : Nat), i < z2.n → Sx.Ask (g.G.m i = z2.m i) ∧ ∀ (i' : Nat), i' < z2.m i → ((True ∧ Sx.Ask z3 ∧ Sx.Ask ((g.G.p i i').y = (z2.p i i').y)) ∧ Sx.Ask z3 ∧ Sx.Ask ((g.G.p i i').x0 = (z2.p i i').x0)) ∧ Sx.Ask z3 ∧ Sx.Ask ((g.G.p i i').x1 = (z2.p i i').x1)) ∧ ∀ (i : Nat), i < z2.n → True);let z1 := (Sx.Ask (g.G.n = z2.n) ∧ ∀ (i : Nat), i < z2.n → (((((((True ∧ Sx.Ask z8 ∧ Sx.Ask (g.G.ink i z5 = z2.ink i z5)) ∧ Sx.Ask z8 ∧ Sx.Ask (g.G.ink i z10 = z2.ink i z10)) ∧ Sx.Ask z8 ∧ Sx.Ask (g.G.ink i (2 : Nat) = z2.ink i (2 : Nat))) ∧ Sx.Ask z8 ∧ Sx.Ask (g.G.ink i (3 : Nat) = z2.ink i (3 : Nat))) ∧ Sx.Ask z8 ∧ Sx.Ask (g.G.ink i (4 : Nat) = z2.ink i (4 : Nat))) ∧ Sx.Ask z8 ∧ Sx.Ask (g.G.ink i (5 : Nat) = z2.ink i (5 : Nat))) ∧ Sx.Ask z8 ∧ Sx.Ask (g.G.ink i (6 : Nat) = z2.ink i (6 : Nat))) ∧ Sx.Ask z8 ∧ Sx.Ask (g.G.ink i (7 : Nat) = z2.ink i (7 : Nat)));let z0 := (bif g.G.has [g.v (z5 + z5), g.v z29, g.v z17, g.v z18, g.v z19, g.v z20, g.v z21, g.v z22] then g.G.val [g.v (z5 + z5), g.v z29, g.v z17, g.v z18, g.v z19, g.v z20, g.v z21, g.v z22] else z23); let z13 := (Rga.AdG.mk (g.G.m z0.toNat) (g.G.p z0.toNat) g.r);True ∧ True ∧ True ∧ True ∧ True ∧ Sx.Br (decide (g.v (z5 + z5) = z23) && (decide (g.v (z5 + z29) = z23) && (decide (g.v (z5 + (z5 + z10 + z10)) = z23) && (decide (g.v (z5 + (z5 + z10 + z10 + z10)) = z23) && (decide (g.v (z5 + (z5 + z10 + z10 + z10 + z10)) = z23) && (decide (g.v (z5 + (z5 + z10 + z10 + z10 + z10 + z10)) = z23) && (decide (g.v (z5 + (z5 + z10 + z10 + z10 + z10 + z10 + z10)) = z23) && (decide (g.v (z5 + (z5 + z10 + z10 + z10 + z10 + z10 + z10 + z10)) = z23) && true)))))))) (True ∧ True ∧ True ∧ z24 ∧ z11 ∧ z6 ∧ z4 ∧ z1 ∧ True) (True ∧ True ∧ True ∧ True ∧ True ∧ Sx.Br g.G.full (True ∧ True ∧ z24 ∧ z11 ∧ z6 ∧ z4 ∧ z1 ∧ True) (True ∧ True ∧ True ∧ True ∧ True ∧ True ∧ True ∧ True ∧ True ∧ True ∧ True ∧ True ∧ True ∧ Sx.Br (!g.G.has [g.v (z5 + z5), g.v z29, g.v z17, g.v z18, g.v z19, g.v z20, g.v z21, g.v z22]) (True ∧ True ∧ True ∧ True ∧ True ∧ True ∧ Sx.Br (decide (z7 = (4096 : Int))) (True ∧ True ∧ True ∧ True ∧ True ∧ True ∧ z24 ∧ (((z24 ∧ True) ∧ True) ∧ Sx.Ask (true = z2.full)) ∧ z6 ∧ z4 ∧ z1 ∧ True) (True ∧ True ∧ True ∧ True ∧ True ∧ True ∧ True ∧ True ∧ True ∧ True ∧ True ∧ True ∧ True ∧ True ∧ True ∧ True ∧ True ∧ True ∧ True ∧ True ∧ True ∧ True ∧ True ∧ True ∧ True ∧ True ∧ True ∧ Sx.Ask (g.G.n + z10 ≤ (9223372036854775807 : Nat) ∧ (g.G.n + z10) * (24 : Nat) ≤ (140737488355328 : Nat)) ∧ Sx.Ask (g.G.n + z10 ≤ (9223372036854775807 : Nat) ∧ (g.G.n + z10) * z25 ≤ (140737488355328 : Nat)) ∧ True ∧ True ∧ True ∧ True ∧ True ∧ True ∧ True ∧ True ∧ True ∧ True ∧ True ∧ Sx.Ask (z23 ≤ z7 ∧ z7 < (↑(g.G.n + z10) : Int)) ∧ True ∧ True ∧ True ∧ (((True ∧ ((Sx.Ask (z7.toNat = z7.toNat) ∧ Sx.Ask (z5 = z5)) ∧ z32 ∧ z30 ∧ z31 ∧ True) ∧ (Sx.Ask (g.G.n + z10 = g.G.n + z10) ∧ (Sx.Ask (z7.toNat = z7.toNat) ∧ True) ∧ (∀ (i : Nat), i < g.G.n + z10 → i ≠ z7.toNat → Sx.Ask ((bif decide (i = g.G.n) then z5 else g.G.m i) = bif decide (i = g.G.n) then z5 else g.G.m i) ∧ ∀ (i' : Nat), let z27 := (g.G.p i i'); (i' < bif decide (i = g.G.n) then z5 else g.G.m i) → ((True ∧ Sx.Ask z3 ∧ Sx.Ask (z27.y = z27.y)) ∧ Sx.Ask z3 ∧ Sx.Ask (z27.x0 = z27.x0)) ∧ Sx.Ask z3 ∧ Sx.Ask (z27.x1 = z27.x1)) ∧ ∀ (i : Nat), i < g.G.n + z10 → True) ∧ (Sx.Ask (z9 = bif decide (z7.toNat = g.G.n) then z5 else g.G.m z7.toNat) ∧ ∀ (i : Nat), let z15 := (g.G.p z7.toNat i); (i < bif decide (z7.toNat = g.G.n) then z5 else g.G.m z7.toNat) → ((True ∧ Sx.Ask z3 ∧ Sx.Ask (z15.y = z15.y)) ∧ Sx.Ask z3 ∧ Sx.Ask (z15.x0 = z15.x0)) ∧ Sx.Ask z3 ∧ Sx.Ask (z15.x1 = z15.x1)) ∧ True) ∧ Sx.Ask (z7.toNat < g.G.n + z10 ∧ z9 ≤ (4294967296 : Nat))) ∧ True ∧ Sx.Ask (z7.toNat < g.G.n + z10) ∧ True) ∧ True ∧ True ∧ z24 ∧ z11 ∧ (∀ (l : List Int), let z12 := (l = [g.v (z5 + z5), g.v z29, g.v z17, g.v z18, g.v z19, g.v z20, g.v z21, g.v z22]); l.length = z25 → Sx.Ask ((decide z12 || g.G.has l) = z2.has l) ∧ ((z2.has l || false) = true → Sx.Ask z3 ∧ Sx.Ask ((bif decide z12 then z7 else g.G.val l) = z2.val l))) ∧ (Sx.Ask (g.G.n + z10 = z2.n) ∧ (∀ (i : Nat), i < z2.n → Sx.Ask ((bif decide (i = z7.toNat) then z14.L.length else bif decide (i = g.G.n) then z5 else g.G.m i) = z2.m i) ∧ ∀ (i' : Nat), i' < z2.m i → ((True ∧ Sx.Ask z3 ∧ Sx.Ask ((bif decide (i = z7.toNat) then (Rga.rI z14.L i').y else (g.G.p i i').y) = (z2.p i i').y)) ∧ Sx.Ask z3 ∧ Sx.Ask ((bif decide (i = z7.toNat) then (Rga.rI z14.L i').x0 else (g.G.p i i').x0) = (z2.p i i').x0)) ∧ Sx.Ask z3 ∧ Sx.Ask ((bif decide (i = z7.toNat) then (Rga.rI z14.L i').x1 else (g.G.p i i').x1) = (z2.p i i').x1)) ∧ ∀ (i : Nat), i < z2.n → True) ∧ (Sx.Ask (g.G.n + z10 = z2.n) ∧ ∀ (i : Nat), let z26 := (i < g.G.n); i < z2.n → (((((((True ∧ Sx.Ask z8 ∧ Sx.Ask ((bif decide z26 then g.G.ink i z5 else g.v (z5 + (z5 - z5 * z25))) = z2.ink i z5)) ∧ Sx.Ask z8 ∧ Sx.Ask ((bif decide z26 then g.G.ink i z10 else g.v (z5 + (z10 - z5 * z25))) = z2.ink i z10)) ∧ Sx.Ask z8 ∧ Sx.Ask ((bif decide z26 then g.G.ink i (2 : Nat) else g.v (z5 + ((2 : Nat) - z5 * z25))) = z2.ink i (2 : Nat))) ∧ Sx.Ask z8 ∧ Sx.Ask ((bif decide z26 then g.G.ink i (3 : Nat) else g.v (z5 + ((3 : Nat) - z5 * z25))) = z2.ink i (3 : Nat))) ∧ Sx.Ask z8 ∧ Sx.Ask ((bif decide z26 then g.G.ink i (4 : Nat) else g.v (z5 + ((4 : Nat) - z5 * z25))) = z2.ink i (4 : Nat))) ∧ Sx.Ask z8 ∧ Sx.Ask ((bif decide z26 then g.G.ink i (5 : Nat) else g.v (z5 + ((5 : Nat) - z5 * z25))) = z2.ink i (5 : Nat))) ∧ Sx.Ask z8 ∧ Sx.Ask ((bif decide z26 then g.G.ink i (6 : Nat) else g.v (z5 + ((6 : Nat) - z5 * z25))) = z2.ink i (6 : Nat))) ∧ Sx.Ask z8 ∧ Sx.Ask ((bif decide z26 then g.G.ink i (7 : Nat) else g.v (z5 + ((7 : Nat) - z5 * z25))) = z2.ink i (7 : Nat))) ∧ True)) (True ∧ True ∧ True ∧ True ∧ True ∧ Sx.Ask ((z23 ≤ bif g.G.has [g.v (z5 + z5), g.v z29, g.v z17, g.v z18, g.v z19, g.v z20, g.v z21, g.v z22] then g.G.val [g.v (z5 + z5), g.v z29, g.v z17, g.v z18, g.v z19, g.v z20, g.v z21, g.v z22] else z23) ∧ z0 < z7) ∧ True ∧ True ∧ True ∧ (((True ∧ ((Sx.Ask (z0.toNat = z0.toNat) ∧ Sx.Ask (z5 = z5)) ∧ z32 ∧ z30 ∧ z31 ∧ True) ∧ (Sx.Ask (g.G.n = g.G.n) ∧ (Sx.Ask (z0.toNat = z0.toNat) ∧ True) ∧ (∀ (i : Nat), i < g.G.n → i ≠ z0.toNat → Sx.Ask (g.G.m i = g.G.m i) ∧ ∀ (i' : Nat), let z28 := (g.G.p i i'); i' < g.G.m i → ((True ∧ Sx.Ask z3 ∧ Sx.Ask (z28.y = z28.y)) ∧ Sx.Ask z3 ∧ Sx.Ask (z28.x0 = z28.x0)) ∧ Sx.Ask z3 ∧ Sx.Ask (z28.x1 = z28.x1)) ∧ ∀ (i : Nat), i < g.G.n → True) ∧ (Sx.Ask (g.G.m z0.toNat = g.G.m z0.toNat) ∧ ∀ (i : Nat), let z16 := (g.G.p z0.toNat i); i < g.G.m z0.toNat → ((True ∧ Sx.Ask z3 ∧ Sx.Ask (z16.y = z16.y)) ∧ Sx.Ask z3 ∧ Sx.Ask (z16.x0 = z16.x0)) ∧ Sx.Ask z3 ∧ Sx.Ask (z16.x1 = z16.x1)) ∧ True) ∧ Sx.Ask (z0.toNat < g.G.n ∧ g.G.m z0.toNat ≤ (4294967296 : Nat))) ∧ True ∧ Sx.Ask (z0.toNat < g.G.n) ∧ True) ∧ True ∧ True ∧ z24 ∧ z11 ∧ z6 ∧ (Sx.Ask (g.G.n = z2.n) ∧ (∀ (i : Nat), i < z2.n → Sx.Ask ((bif decide (i = z0.toNat) then z13.L.length else g.G.m i) = z2.m i) ∧ ∀ (i' : Nat), i' < z2.m i → ((True ∧ Sx.Ask z3 ∧ Sx.Ask ((bif decide (i = z0.toNat) then (Rga.rI z13.L i').y else (g.G.p i i').y) = (z2.p i i').y)) ∧ Sx.Ask z3 ∧ Sx.Ask ((bif decide (i = z0.toNat) then (Rga.rI z13.L i').x0 else (g.G.p i i').x0) = (z2.p i i').x0)) ∧ Sx.Ask z3 ∧ Sx.Ask ((bif decide (i = z0.toNat) then (Rga.rI z13.L i').x1 else (g.G.p i i').x1) = (z2.p i i').x1)) ∧ ∀ (i : Nat), i < z2.n → True) ∧ z1 ∧ True)))) (by kernel_rfl) ?_
  simp only [ask_iff, br_iff, eq_self, true_and, and_true, implies_true, forall_const, decide_eq_true_eq, decide_eq_false_iff_not, ne_eq, Nat.mul_one, Nat.add_zero, Nat.zero_add]
  simp only [Nat.reduceAdd, zer, decide_eq_true_eq, decide_eq_false_iff_not, Bool.or_false, Bool.not_eq_true', Bool.not_eq_false', key_fold]
  rw [nxt_eq]
  have same : ∀ G' : Gt, G' = g.G → g.G.full = G'.full ∧ (∀ (l : List Int), l.length = 8 → g.G.has l = G'.has l ∧ (G'.has l = true → g.G.val l = G'.val l)) ∧ (g.G.n = G'.n ∧ ∀ (i : Nat), i < G'.n → g.G.m i = G'.m i ∧ ∀ (i' : Nat), i' < G'.m i → ((g.G.p i i').y = (G'.p i i').y ∧ (g.G.p i i').x0 = (G'.p i i').x0) ∧ (g.G.p i i').x1 = (G'.p i i').x1) ∧
      g.G.n = G'.n ∧ ∀ (i : Nat), i < G'.n → ((((((g.G.ink i 0 = G'.ink i 0 ∧ g.G.ink i 1 = G'.ink i 1) ∧ g.G.ink i 2 = G'.ink i 2) ∧ g.G.ink i 3 = G'.ink i 3) ∧ g.G.ink i 4 = G'.ink i 4) ∧ g.G.ink i 5 = G'.ink i 5) ∧ g.G.ink i 6 = G'.ink i 6) ∧ g.G.ink i 7 = G'.ink i 7 := by
    rintro G' rfl
    exact ⟨rfl, fun l _ => ⟨rfl, fun _ => rfl⟩, ⟨rfl, fun i _ => ⟨rfl, fun i' _ => ⟨⟨rfl, rfl⟩, rfl⟩⟩⟩, rfl, fun i _ => ⟨⟨⟨⟨⟨⟨⟨rfl, rfl⟩, rfl⟩, rfl⟩, rfl⟩, rfl⟩, rfl⟩, rfl⟩⟩
  have hn := hg.n
  refine ⟨fun h0 => same _ (if_pos (.inl h0)), fun h0 => ⟨fun hf => same _ (if_pos (.inr hf)), fun hf => ?_⟩⟩
  have hor : ¬ (kOf g.v = nul ∨ g.G.full = true) := fun h => h.elim h0 (fun h => by rw [hf] at h; cases h)
  refine ⟨fun hh => ⟨fun h4 => ?_, fun h4 => ?_⟩, fun hh => ?_⟩
  · have e : nxtB g.G g.v g.r = { g.G with full := true } := by
      unfold nxtB
      rw [if_neg hor, if_neg (by rw [hh]; decide), if_pos (by omega)]
    rw [e]
    exact ⟨rfl, (same _ rfl).2⟩
  · have e : nxtB g.G g.v g.r = putP (fresh g.G g.v) g.G.n (grw (fresh g.G g.v) g.G.n g.r) := by
      unfold nxtB
      rw [if_neg hor, if_neg (by rw [hh]; decide), if_neg (by omega)]
    have e0 : grw (fresh g.G g.v) g.G.n g.r = AdG.L ⟨0, g.G.p g.G.n, g.r⟩ := by
      show addR (Rg.L ⟨updN g.G.m g.G.n 0 g.G.n, g.G.p g.G.n⟩) g.r = _
      rw [updN_same]
      rfl
    rw [e, e0]
    simp only [Int.toNat_natCast, decide_true, cond_true]
    refine ⟨by omega, by omega, by omega, ⟨⟨by omega, by omega⟩, by omega⟩, rfl, fun l _ => ⟨rfl, fun _ => rfl⟩, ⟨rfl, fun i _ => ⟨rfl, fun i' _ => ?_⟩⟩, rfl, fun i _ => ⟨⟨⟨⟨⟨⟨⟨rfl, rfl⟩, rfl⟩, rfl⟩, rfl⟩, rfl⟩, rfl⟩, rfl⟩⟩
    show (_ = (bif decide (i = g.G.n) then _ else _ : Rn).y ∧ _ = (bif decide (i = g.G.n) then _ else _ : Rn).x0) ∧ _ = (bif decide (i = g.G.n) then _ else _ : Rn).x1
    cases decide (i = g.G.n) <;> exact ⟨⟨rfl, rfl⟩, rfl⟩
  · have hv := hg.val _ hh
    have hm := hg.m (g.G.val (kOf g.v)).toNat
    have e : nxtB g.G g.v g.r = putP g.G (g.G.val (kOf g.v)).toNat (grw g.G (g.G.val (kOf g.v)).toNat g.r) := by
      unfold nxtB
      rw [if_neg hor, if_pos hh]
    rw [e]
    simp only [hh, cond_true]
    refine ⟨by omega, ⟨⟨by omega, by omega⟩, by omega⟩, rfl, fun l _ => ⟨rfl, fun _ => rfl⟩, ⟨rfl, fun i _ => ⟨rfl, fun i' _ => ?_⟩⟩, rfl, fun i _ => ⟨⟨⟨⟨⟨⟨⟨rfl, rfl⟩, rfl⟩, rfl⟩, rfl⟩, rfl⟩, rfl⟩, rfl⟩⟩
    show (_ = (bif decide (i = (g.G.val (kOf g.v)).toNat) then _ else _ : Rn).y ∧ _ = (bif decide (i = (g.G.val (kOf g.v)).toNat) then _ else _ : Rn).x0) ∧ _ = (bif decide (i = (g.G.val (kOf g.v)).toNat) then _ else _ : Rn).x1
    cases decide (i = (g.G.val (kOf g.v)).toNat) <;> exact ⟨⟨rfl, rfl⟩, rfl⟩
end Go.Proofs.Ytbkgncikjhibiaa.Gat
