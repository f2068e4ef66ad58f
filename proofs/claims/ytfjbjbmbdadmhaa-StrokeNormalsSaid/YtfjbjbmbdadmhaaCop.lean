/- conic.Points and what it leans on, by the evaluation. -/
import Derived.Test.YtfjbjbmbdadmhaaCon
set_option linter.unusedSimpArgs false
set_option linter.unusedVariables false
namespace Go.Proofs.Ytfjbjbmbdadmhaa.Cop
open Go.RowKit Sx Num Aff Con
set_option maxRecDepth 100000
abbrev eqG : List (TypeId × List CK) := [(34, [.int, .int]), (76, [.int, .int, .int, .int, .int, .int])]
theorem eqG_ok : AllEq Try.prog eqG := ⟨eqOK_of (m := 2) (by kernel_rfl) (by kernel_rfl) rfl (by decide) (by kernel_rfl), eqOK_of (m := 6) (by kernel_rfl) (by kernel_rfl) rfl (by decide) (by kernel_rfl), trivial⟩
def spAbsG : FSpec := mkSpec 106 (γ := Int) (fun | [.int _ x] => some x | _ => none) (fun x => [.int .i64 x]) (fun _ => True) (fun x => .int .i64 (absI x))
theorem ok_absG : SpecOK Try.prog spAbsG := by
  refine specOK_of (fun _ _ => by kernel_rfl) ?_
  rintro x _ vals w X hsz hr hX
  have r0 := hr 0 (by simp)
  simp only [List.getD_cons_zero] at r0
  generalize e0 : vals.getD 0 undef = v0 at r0
  cases r0
  have hvals : vals = #[.int .i64 x] := by
    obtain ⟨l⟩ := vals
    match l, hsz with
    | [x], _ => simp at e0; rw [e0]
  rw [hvals]
  refine (abs_calls x w).mono ?_
  rintro e w' ⟨rfl, rfl⟩
  exact ⟨_, rfl, .int, Below.refl _ _⟩
instance (x : Int) : Decidable (inC x) := by unfold inC; infer_instance
def spWithinP : FSpec := mkSpec 83 (γ := Pt) (fun | [.agg _ p] => some (ptD p) | _ => none) (fun p => [ptS p]) (fun _ => True) (fun p => .bool (decide (inC p.x ∧ inC p.y)))
theorem ok_withinP : SpecOK Try.prog spWithinP := by
  refine spec_sound (specs := [spAbsG]) (all_ok (⟨ok_absG, trivial⟩)) (eqs := []) (fun _ _ h => (List.not_mem_nil h).elim) Aff.mixed Try.func83 rfl (by kernel_rfl) (fun _ _ => by kernel_rfl) (fun g => A0) (fun g => Nat.le_of_ble_eq_true (by kernel_rfl)) ?_
  rintro ⟨x, y⟩ _
  refine vc_of (B := let z0 := (false = decide (Con.inC x ∧ Con.inC y));True ∧ True ∧ True ∧ True ∧ (((Sx.Ask (IntKind.i64 = IntKind.i64) ∧ Sx.Ask (x = x)) ∧ True) ∧ Sx.Ask True) ∧ True ∧ True ∧ Sx.Br (decide (Con.absI x ≤ (32767 : Int))) (True ∧ True ∧ (((Sx.Ask (IntKind.i64 = IntKind.i64) ∧ Sx.Ask (y = y)) ∧ True) ∧ Sx.Ask True) ∧ True ∧ True ∧ True ∧ Sx.Br (decide (Con.absI y ≤ (32767 : Int))) (True ∧ True ∧ True ∧ True ∧ True ∧ Sx.Br (decide ((-4611686018427387904 : Int) < x)) (True ∧ True ∧ True ∧ True ∧ True ∧ True ∧ Sx.Ask (decide ((-4611686018427387904 : Int) < y) = decide (Con.inC x ∧ Con.inC y))) (True ∧ True ∧ True ∧ Sx.Ask z0)) (True ∧ True ∧ True ∧ True ∧ True ∧ Sx.Ask z0)) (True ∧ True ∧ True ∧ True ∧ True ∧ True ∧ True ∧ Sx.Ask z0)) (by kernel_rfl) ?_
  simp only [ask_iff, br_iff, eq_self, true_and, and_true, implies_true, forall_const, decide_eq_true_eq, decide_eq_false_iff_not, ne_eq, Nat.mul_one, Nat.add_zero, Nat.zero_add]
  have no : ¬ (inC x ∧ inC y) → false = decide (inC x ∧ inC y) := fun h => (decide_eq_false h).symm
  have lo : ∀ {z : Int}, inC z → -4611686018427387904 < z := fun h => by unfold inC at h; omega
  refine ⟨fun h1 => ⟨fun h2 => ⟨fun h3 => ?_, fun h3 => no fun hc => h3 (lo hc.1)⟩, fun h2 => no fun hc => h2 ((absI_le (lo hc.2)).2 hc.2)⟩, fun h1 => no fun hc => h1 ((absI_le (lo hc.1)).2 hc.1)⟩
  exact decide_eq_decide.2 ⟨fun h4 => ⟨(absI_le h3).1 h1, (absI_le h4).1 h2⟩, fun hc => lo hc.2⟩
/-! path.within, path.CheckSeg. -/
def allIn (n : Nat) (f : Nat → Int) : Bool := (List.range n).all fun i => decide (inC (f i))
theorem allIn_iff {n : Nat} {f : Nat → Int} : allIn n f = true ↔ ∀ i, i < n → inC (f i) := by
  simp [allIn]
structure WiG where
  n : Nat
  f : Nat → Int
def intsS (g : WiG) : SV := .sl g.n 1 (fun i _ => .int .i64 (g.f i))
def wiInv (g : WiG) : Inv := ⟨Int, fun i => (0 ≤ i ∧ i ≤ g.n) ∧ ∀ j : Nat, (j : Int) < i → inC (g.f j), fun i => ⟨[(5, intsS g), (6, .int .i64 g.n), (7, .int .i64 i)], []⟩, fun i => (g.n - i).toNat⟩
def spWithinL : FSpec := mkSpec 64 (γ := WiG) (fun | [s] => some ⟨slLen s, slCell 0 s⟩ | _ => none) (fun g => [intsS g]) (fun g => g.n ≤ 4294967296) (fun g => .bool (allIn g.n g.f))
theorem ok_withinL : SpecOK Try.prog spWithinL := by
  refine spec_sound (specs := []) (all_ok trivial) (eqs := []) (fun _ _ h => (List.not_mem_nil h).elim) Aff.mixed Try.func64 rfl (by kernel_rfl) (fun _ _ => by kernel_rfl) (fun g => (⟨[(2, .inv (wiInv g))], []⟩ : Ann)) (fun g => Nat.le_of_ble_eq_true (by kernel_rfl)) ?_
  rintro ⟨n, f⟩ hn
  simp only at hn
  refine vc_of (B := let z2 := (wiInv (WiG.mk n f));let z0 := (IntKind.i64 = IntKind.i64); let z3 := (Sx.Ask z0 ∧ Sx.Ask ((↑n : Int) = (↑n : Int))); let z1 := (Sx.Ask (n = n) ∧ ∀ (i : Nat), i < n → True ∧ Sx.Ask z0 ∧ Sx.Ask (f i = f i));True ∧ True ∧ True ∧ True ∧ (∃ (g : Int), Sx.Ask (z2.pre g) ∧ (z1 ∧ z3 ∧ (Sx.Ask z0 ∧ Sx.Ask ((0 : Int) = g)) ∧ True) ∧ True) ∧ ∀ (g : Int), z2.pre g → True ∧ Sx.Br (decide (g < (↑n : Int))) (Sx.Ask ((0 : Int) ≤ g ∧ g < (↑n : Int)) ∧ True ∧ True ∧ True ∧ True ∧ True ∧ Sx.Br (decide (f g.toNat < (-32767 : Int))) (True ∧ True ∧ True ∧ Sx.Ask (false = allIn n f)) (True ∧ True ∧ True ∧ Sx.Br (decide ((32767 : Int) < f g.toNat)) (True ∧ True ∧ Sx.Ask (false = allIn n f)) (Sx.Ask ((-9223372036854775808 : Int) ≤ g + (1 : Int) ∧ g + (1 : Int) ≤ (9223372036854775807 : Int)) ∧ True ∧ ∃ (g' : Int), Sx.Ask (z2.pre g') ∧ ((z1 ∧ z3 ∧ (Sx.Ask z0 ∧ Sx.Ask (g + (1 : Int) = g')) ∧ True) ∧ True) ∧ Sx.Ask (z2.meas g' < z2.meas g)))) (True ∧ True ∧ Sx.Ask (true = allIn n f))) (by kernel_rfl) ?_
  simp only [ask_iff, br_iff, eq_self, true_and, and_true, implies_true, forall_const, decide_eq_true_eq, decide_eq_false_iff_not, ne_eq, Nat.mul_one, Nat.add_zero, Nat.zero_add]
  have no : ¬ (∀ i, i < n → inC (f i)) → false = allIn n f := fun h => (Bool.eq_false_iff.2 fun hc => h (allIn_iff.1 hc)).symm
  refine ⟨⟨(0 : Int), ⟨⟨Int.le_refl 0, Int.natCast_nonneg n⟩, fun j hj => absurd hj (by omega)⟩, rfl⟩, fun i hi => ?_⟩
  have hi' : (0 ≤ i ∧ i ≤ n) ∧ ∀ j : Nat, (j : Int) < i → inC (f j) := hi
  refine ⟨fun hlt => ⟨by omega, fun h1 => no fun hc => ?_, fun h1 => ⟨fun h2 => no fun hc => ?_, fun h2 => ⟨by omega, (i + 1 : Int), ⟨⟨show 0 ≤ i + 1 by omega, show i + 1 ≤ n by omega⟩, fun j hj => ?_⟩, rfl, ?_⟩⟩⟩, fun hge => ?_⟩
  · have := hc i.toNat (by omega)
    unfold inC at this
    omega
  · have := hc i.toNat (by omega)
    unfold inC at this
    omega
  · by_cases hj2 : (j : Int) < i
    · exact hi'.2 j hj2
    · have hj3 : (j : Int) < i + 1 := hj
      obtain rfl : j = i.toNat := by omega
      show -32767 ≤ f i.toNat ∧ f i.toNat ≤ 32767
      omega
  · show (n - (i + 1)).toNat < (n - i).toNat
    omega
  · exact (allIn_iff.2 fun k hk => hi'.2 k (by omega)).symm
theorem allIn4 (a b c d : Int) : allIn 4 (fun i => bif decide (i = 3) then d else bif decide (i = 2) then c else bif decide (i = 1) then b else a) = decide (inC a ∧ inC b ∧ inC c ∧ inC d) := by
  unfold allIn
  rw [show List.range 4 = [0, 1, 2, 3] from rfl]
  simp [Bool.decide_and]
structure Seg where
  k : Int
  x : Int
  y : Int
  u : Int
  v : Int
  w : Int
def segL (s : Seg) : List SV := [.int .i64 s.k, .int .i64 s.x, .int .i64 s.y, .int .i64 s.u, .int .i64 s.v, .int .i64 s.w]
def segS (s : Seg) : SV := .agg 6 (lst (segL s))
def segD (g : Nat → SV) : Seg := ⟨intOf (g 0), intOf (g 1), intOf (g 2), intOf (g 3), intOf (g 4), intOf (g 5)⟩
def Seg.inB (s : Seg) : Int := if inC s.x ∧ inC s.y ∧ inC s.u ∧ inC s.v then 0 else 3
def segE (s : Seg) : Int :=
  if s.k = 1 ∨ s.k = 2 then if s.u = 0 ∧ s.v = 0 ∧ s.w = 0 then s.inB else 4
  else if s.k = 4 then if s.x = 0 ∧ s.y = 0 ∧ s.u = 0 ∧ s.v = 0 ∧ s.w = 0 then s.inB else 4
  else if s.k = 3 then if s.w < 16 ∨ 4096 < s.w then 3 else s.inB
  else 14
def spCheckSeg : FSpec := mkSpec 43 (γ := Seg) (fun | [.agg _ s] => some (segD s) | _ => none) (fun s => [segS s]) (fun _ => True) (fun s => .int .i64 (segE s))
theorem ok_checkSeg : SpecOK Try.prog spCheckSeg := by
  refine spec_sound (specs := [giv spWithinL]) (all_ok (⟨giv_ok ok_withinL, trivial⟩)) (eqs := eqG) (all_eq eqG_ok) Aff.mixed Try.func43 rfl (by kernel_rfl) (fun _ _ => by kernel_rfl) (fun g => A0) (fun g => Nat.le_of_ble_eq_true (by kernel_rfl)) ?_
  rintro s _
  refine vc_of (B := let z5 := (decide (s.u = (0 : Int)) && (decide (s.v = (0 : Int)) && (decide (s.w = (0 : Int)) && true)));let z3 := (IntKind.i64 = IntKind.i64); let z6 := (True ∧ True ∧ Sx.Ask z3 ∧ Sx.Ask ((3 : Int) = segE s)); let z4 := (True ∧ True ∧ Sx.Ask z3 ∧ Sx.Ask ((4 : Int) = segE s));let z0 := (True ∧ True ∧ True ∧ True ∧ True ∧ True ∧ True ∧ True ∧ True ∧ (((Sx.Ask ((4 : Nat) = (4 : Nat)) ∧ ∀ (i : Nat), i < (4 : Nat) → True ∧ Sx.Ask z3 ∧ Sx.Ask ((bif decide (i = (3 : Nat)) then s.v else bif decide (i = (2 : Nat)) then s.u else bif decide (i = (1 : Nat)) then s.y else s.x) = bif decide (i = (3 : Nat)) then s.v else bif decide (i = (2 : Nat)) then s.u else bif decide (i = (1 : Nat)) then s.y else s.x)) ∧ True) ∧ Sx.Ask ((4 : Nat) ≤ (4294967296 : Nat))) ∧ True ∧ Sx.Br (!allIn (4 : Nat) fun (i : Nat) => bif decide (i = (3 : Nat)) then s.v else bif decide (i = (2 : Nat)) then s.u else bif decide (i = (1 : Nat)) then s.y else s.x) z6 (True ∧ True ∧ Sx.Ask z3 ∧ Sx.Ask ((0 : Int) = segE s))); let z2 := (True ∧ True ∧ True ∧ True ∧ True ∧ True ∧ True ∧ True ∧ True ∧ Sx.Br (!(decide (s.k = s.k) && (decide (s.x = s.x) && (decide (s.y = s.y) && z5)))) z4 z0); let z1 := (True ∧ True ∧ Sx.Br (decide (s.k = (4 : Int))) (True ∧ True ∧ True ∧ True ∧ True ∧ Sx.Br (!(decide (s.k = (4 : Int)) && (decide (s.x = (0 : Int)) && (decide (s.y = (0 : Int)) && z5)))) z4 z0) (True ∧ True ∧ Sx.Br (decide (s.k = (3 : Int))) (True ∧ True ∧ True ∧ True ∧ Sx.Br (decide (s.w < (16 : Int))) (True ∧ True ∧ True ∧ Sx.Ask z3 ∧ Sx.Ask ((3 : Int) = segE s)) (True ∧ True ∧ True ∧ True ∧ Sx.Br (decide ((4096 : Int) < s.w)) z6 (True ∧ True ∧ True ∧ Sx.Br (!(decide (s.k = s.k) && (decide (s.x = s.x) && (decide (s.y = s.y) && (decide (s.u = s.u) && (decide (s.v = s.v) && (decide (s.w = s.w) && true))))))) z4 z0))) (True ∧ True ∧ Sx.Ask z3 ∧ Sx.Ask ((14 : Int) = segE s))));True ∧ True ∧ True ∧ True ∧ True ∧ True ∧ True ∧ True ∧ True ∧ Sx.Br (decide (s.k = (1 : Int))) (Sx.Br (decide (s.k = (1 : Int))) z2 z1) (True ∧ True ∧ Sx.Br (decide (s.k = (2 : Int))) z2 z1)) (by kernel_rfl) ?_
  simp only [ask_iff, br_iff, eq_self, true_and, and_true, implies_true, forall_const, decide_eq_true_eq, decide_eq_false_iff_not, ne_eq, Nat.mul_one, Nat.add_zero, Nat.zero_add]
  simp only [allIn4]
  have h4 : (4 : Nat) ≤ 4294967296 := by decide
  unfold segE Seg.inB
  by_cases hP : inC s.x ∧ inC s.y ∧ inC s.u ∧ inC s.v
  · simp only [decide_eq_true hP, if_pos hP]
    simp
    repeat' (first | apply And.intro | intro _)
    all_goals omega
  · simp only [decide_eq_false hP, if_neg hP]
    simp
    repeat' (first | apply And.intro | intro _)
    all_goals omega
/-! points, Points. -/
structure PsG where
  p : Pt
  s : Seg
def PsG.cur (g : PsG) : Cur := ⟨g.p.x, g.p.y, g.s.u, g.s.v, g.s.x, g.s.y, g.s.w⟩
def PsG.n (g : PsG) : Int := if g.s.k = 2 then 1 else divN g.cur
def PsG.pt (g : PsG) (i : Int) : Pt := if g.s.k = 2 then ⟨g.s.x, g.s.y⟩ else g.cur.at (i + 1) (divN g.cur)
def PsG.ok (g : PsG) : Prop := g.s.k = 2 ∨ (g.s.k = 3 ∧ g.cur.ok)
def ptsS (n : Nat) (f : Nat → Pt) : SV := .sl n 2 (fun i => lst (ptL (f i)))
def poInv (g : PsG) : Inv := ⟨Int, fun i => 0 ≤ i ∧ i ≤ g.n,
  fun i => ⟨[(6, .own 3 0), (7, .int .i64 g.n), (8, .osl 4 0), (35, .int .i64 g.n), (36, .int .i64 i)],
   [.cells 2 (fun _ => .any) 34, .cells 6 (fun _ => .any) 76, .cells 2 (fun _ => .any) 34, .cells 7 (lst (curL g.cur)) 98,
    .row 0 g.n.toNat 2 (fun j => lst [.int .i64 (if (j : Int) < i then (g.pt j).x else 0), .int .i64 (if (j : Int) < i then (g.pt j).y else 0)]) 34]⟩, fun i => (g.n - i).toNat⟩
def spPts : FSpec := mkSpec 42 (γ := PsG) (fun | [.agg _ p, .agg _ s] => some ⟨ptD p, segD s⟩ | _ => none) (fun g => [ptS g.p, segS g.s]) PsG.ok (fun g => ptsS g.n.toNat (fun i => g.pt i))
theorem ok_pts : SpecOK Try.prog spPts := by
  refine spec_sound (specs := [spDiv, spAt]) (all_ok (⟨ok_div, ok_at, trivial⟩)) (eqs := []) (fun _ _ h => (List.not_mem_nil h).elim) Aff.mixed Try.func42 rfl (by kernel_rfl) (fun _ _ => by kernel_rfl) (fun g => (⟨[(8, .inv (poInv g))], []⟩ : Ann)) (fun g => Nat.le_of_ble_eq_true (by kernel_rfl)) ?_
  rintro ⟨⟨x, y⟩, ⟨k, sx, sy, u, v, w⟩⟩ (hk | ⟨hk, hc⟩)
  · simp only at hk
    subst hk
    refine vc_of (B := let z0 := (PsG.mk (Con.Pt.mk x y) (Seg.mk (2 : Int) sx sy u v w));True ∧ True ∧ True ∧ True ∧ True ∧ True ∧ True ∧ True ∧ True ∧ True ∧ True ∧ True ∧ True ∧ True ∧ True ∧ True ∧ True ∧ Sx.Ask ((1 : Nat) = z0.n.toNat) ∧ ∀ (i : Nat), i < z0.n.toNat → (True ∧ Sx.Ask (IntKind.i64 = IntKind.i64) ∧ Sx.Ask (sx = sx)) ∧ Sx.Ask (IntKind.i64 = IntKind.i64) ∧ Sx.Ask (sy = sy)) (by kernel_rfl) ?_
    simp only [ask_iff, br_iff, eq_self, true_and, and_true, implies_true, forall_const, decide_eq_true_eq, decide_eq_false_iff_not, ne_eq, Nat.mul_one, Nat.add_zero, Nat.zero_add]
    exact rfl
  simp only at hk
  subst hk
  refine vc_of (B := let z10 := (0 : Nat);let z8 := (0 : Int);let z6 := ((True ∧ True) ∧ True); let z13 := ((((z6 ∧ True) ∧ True) ∧ True) ∧ True);let z5 := (1 : Int);let z3 := (Con.Cur.mk x y u v sx sy w);let z2 := (IntKind.i64 = IntKind.i64);let z1 := (((((((True ∧ Sx.Ask z2 ∧ Sx.Ask (x = x)) ∧ Sx.Ask z2 ∧ Sx.Ask (y = y)) ∧ Sx.Ask z2 ∧ Sx.Ask (u = u)) ∧ Sx.Ask z2 ∧ Sx.Ask (v = v)) ∧ Sx.Ask z2 ∧ Sx.Ask (sx = sx)) ∧ Sx.Ask z2 ∧ Sx.Ask (sy = sy)) ∧ Sx.Ask z2 ∧ Sx.Ask (w = w));let z0 := (PsG.mk (Con.Pt.mk x y) (Seg.mk (3 : Int) sx sy u v w)); let z9 := (Sx.Ask z2 ∧ Sx.Ask (z0.n = z0.n)); let z4 := (Con.divN z0.cur);True ∧ True ∧ True ∧ True ∧ True ∧ True ∧ True ∧ True ∧ True ∧ True ∧ True ∧ True ∧ True ∧ True ∧ True ∧ True ∧ True ∧ True ∧ True ∧ True ∧ True ∧ True ∧ True ∧ True ∧ True ∧ True ∧ ((z1 ∧ True) ∧ Sx.Ask z3.ok) ∧ True ∧ True ∧ Sx.Ask (z8 ≤ Con.divN z3 ∧ Con.divN z3 ≤ Con.divN z3 ∧ (↑(16 : Nat) : Int) * Con.divN z3 ≤ (140737488355328 : Int) ∧ Con.divN z3 ≤ (9223372036854775807 : Int)) ∧ True ∧ True ∧ True ∧ True ∧ (∃ (g : Int), Sx.Ask ((poInv z0).pre g) ∧ (Sx.Ask (z10 = z10) ∧ (Sx.Ask z2 ∧ Sx.Ask (Con.divN z3 = z0.n)) ∧ True ∧ (Sx.Ask z2 ∧ Sx.Ask ((↑(Con.divN z3).toNat : Int) = z0.n)) ∧ (Sx.Ask z2 ∧ Sx.Ask (z8 = g)) ∧ True) ∧ z6 ∧ z13 ∧ z6 ∧ z1 ∧ (Sx.Ask ((Con.divN z3).toNat = z0.n.toNat) ∧ ∀ (i : Nat), i < z0.n.toNat → (True ∧ Sx.Ask z2 ∧ Sx.Ask (z8 = if (↑i : Int) < g then Con.atC x u sx w ((↑i : Int) + z5) z4 else z8)) ∧ Sx.Ask z2 ∧ Sx.Ask (z8 = if (↑i : Int) < g then Con.atC y v sy w ((↑i : Int) + z5) z4 else z8)) ∧ True) ∧ ∀ (g : Int), let z7 := ((-9223372036854775808 : Int) ≤ g + z5 ∧ g + z5 ≤ (9223372036854775807 : Int)); (poInv z0).pre g → True ∧ Sx.Br (decide (g < z0.n)) (True ∧ True ∧ True ∧ True ∧ True ∧ True ∧ Sx.Ask z7 ∧ True ∧ ((z1 ∧ (Sx.Ask z2 ∧ Sx.Ask (g + z5 = g + z5)) ∧ z9 ∧ True) ∧ Sx.Ask (Con.AtG.mk z3 (g + z5) z0.n).ok) ∧ Sx.Ask (z8 ≤ g ∧ g < (↑z0.n.toNat : Int)) ∧ Sx.Ask (g.toNat < z0.n.toNat) ∧ Sx.Ask z7 ∧ True ∧ ∃ (g' : Int), Sx.Ask ((poInv z0).pre g') ∧ ((Sx.Ask (z10 = z10) ∧ z9 ∧ True ∧ z9 ∧ (Sx.Ask z2 ∧ Sx.Ask (g + z5 = g')) ∧ True) ∧ z6 ∧ z13 ∧ z6 ∧ z1 ∧ (Sx.Ask (z0.n.toNat = z0.n.toNat) ∧ ∀ (i : Nat), let z11 := (↑i : Int); i < z0.n.toNat → (True ∧ Sx.Ask z2 ∧ Sx.Ask ((bif decide (i = g.toNat ∧ z10 ≤ z10 ∧ z10 < z10 + (2 : Nat)) then Con.atC x u sx w (g + z5) z0.n else if z11 < g then Con.atC x u sx w (z11 + z5) z4 else z8) = if z11 < g' then Con.atC x u sx w (z11 + z5) z4 else z8)) ∧ Sx.Ask z2 ∧ Sx.Ask ((bif decide (i = g.toNat ∧ z10 ≤ (1 : Nat) ∧ (1 : Nat) < z10 + (2 : Nat)) then Con.atC y v sy w (g + z5) z0.n else if z11 < g then Con.atC y v sy w (z11 + z5) z4 else z8) = if z11 < g' then Con.atC y v sy w (z11 + z5) z4 else z8)) ∧ True) ∧ Sx.Ask ((poInv z0).meas g' < (poInv z0).meas g)) (True ∧ True ∧ True ∧ Sx.Ask (z0.n.toNat = z0.n.toNat) ∧ ∀ (i : Nat), let z12 := ((↑i : Int) + z5); i < z0.n.toNat → (True ∧ Sx.Ask z2 ∧ Sx.Ask ((if (↑i : Int) < g then Con.atC x u sx w z12 z4 else z8) = Con.atC x u sx w z12 z4)) ∧ Sx.Ask z2 ∧ Sx.Ask ((if (↑i : Int) < g then Con.atC y v sy w z12 z4 else z8) = Con.atC y v sy w z12 z4))) (by kernel_rfl) ?_
  obtain ⟨N, hN⟩ : ∃ N, N = divN (Cur.mk x y u v sx sy w) := ⟨_, rfl⟩
  have hN' : (PsG.mk ⟨x, y⟩ ⟨3, sx, sy, u, v, w⟩).n = N := hN.symm
  have hM : divN (PsG.mk ⟨x, y⟩ ⟨3, sx, sy, u, v, w⟩).cur = N := hN.symm
  have hr : 1 ≤ N ∧ N ≤ 512 := by rw [hN]; exact divF_range _ 9 1 (by decide) (by decide)
  have hc' : Cur.ok ⟨x, y, u, v, sx, sy, w⟩ := hc
  have hN0 : (0 : Int) ≤ (PsG.mk ⟨x, y⟩ ⟨3, sx, sy, u, v, w⟩).n := by rw [hN']; omega
  have hNi : ∀ i, i ≤ N → i ≤ (PsG.mk ⟨x, y⟩ ⟨3, sx, sy, u, v, w⟩).n := fun i h => by rw [hN']; exact h
  have hNm : ∀ i, i < N → ((PsG.mk ⟨x, y⟩ ⟨3, sx, sy, u, v, w⟩).n - (i + 1)).toNat < ((PsG.mk ⟨x, y⟩ ⟨3, sx, sy, u, v, w⟩).n - i).toNat := fun i h => by rw [hN']; omega
  simp only [hN', hM, ← hN]
  simp only [ask_iff, br_iff, eq_self, true_and, and_true, implies_true, forall_const, decide_eq_true_eq, decide_eq_false_iff_not, ne_eq, Nat.mul_one, Nat.add_zero, Nat.zero_add]
  refine ⟨hc', by omega, ⟨(0 : Int), ⟨Int.le_refl 0, hN0⟩, by omega, fun i _ => ?_⟩, fun i hi => ?_⟩
  · rw [if_neg (by omega), if_neg (by omega)]
    exact ⟨rfl, rfl⟩
  have hi' : 0 ≤ i ∧ i ≤ N := by rw [← hN']; exact hi
  refine ⟨fun hlt => ⟨by omega, ⟨hc', ⟨show 0 ≤ i + 1 by omega, show i + 1 ≤ N by omega⟩, hr.1, show N ≤ 1024 by omega⟩, by omega, by omega, by omega, (i + 1 : Int), ⟨show 0 ≤ i + 1 by omega, hNi _ (by omega)⟩, ⟨rfl, fun j hj => ?_⟩, ?_⟩, fun hge => fun j hj => ?_⟩
  · by_cases hj2 : j = i.toNat
    · subst hj2
      rw [decide_eq_true (by omega), decide_eq_true (by omega), cond_true, cond_true, if_pos (by omega), if_pos (by omega), Int.toNat_of_nonneg hi'.1]
      exact ⟨rfl, rfl⟩
    · rw [decide_eq_false (by omega), decide_eq_false (by omega), cond_false, cond_false]
      by_cases hj3 : (j : Int) < i
      · rw [if_pos hj3, if_pos hj3, if_pos (by omega), if_pos (by omega)]
        exact ⟨rfl, rfl⟩
      · rw [if_neg hj3, if_neg hj3, if_neg (by omega), if_neg (by omega)]
        exact ⟨rfl, rfl⟩
  · exact hNm i hlt
  · rw [if_pos (by omega), if_pos (by omega)]
    exact ⟨rfl, rfl⟩
def ptsE (g : PsG) : Int := if g.s.k ≠ 2 ∧ g.s.k ≠ 3 then 14 else if segE g.s ≠ 0 then segE g.s else if inC g.p.x ∧ inC g.p.y then 0 else 3
def ptsN (g : PsG) : Nat := if ptsE g = 0 then g.n.toNat else 0
theorem segE0 {s : Seg} (h : segE s = 0) : s.k = 2 ∨ s.k = 3 → (inC s.x ∧ inC s.y ∧ inC s.u ∧ inC s.v) ∧ (s.k = 3 → 16 ≤ s.w ∧ s.w ≤ 4096) := by
  unfold segE Seg.inB at h
  by_cases hP : inC s.x ∧ inC s.y ∧ inC s.u ∧ inC s.v
  · intro hk
    refine ⟨hP, ?_⟩
    simp only [if_pos hP] at h
    omega
  · simp only [if_neg hP] at h
    omega
theorem ok_of_E {g : PsG} (hk : g.s.k = 2 ∨ g.s.k = 3) (h : segE g.s = 0) (hp : inC g.p.x ∧ inC g.p.y) : g.ok := by
  obtain ⟨a, b⟩ := segE0 h hk
  rcases hk with h2 | h3
  · exact Or.inl h2
  · exact Or.inr ⟨h3, ⟨⟨hp, a.2.2⟩, ⟨a.1, a.2.1⟩, b h3⟩⟩
def spPoints : FSpec := mkSpec 61 (γ := PsG) (fun | [.agg _ p, .agg _ s] => some ⟨ptD p, segD s⟩ | _ => none) (fun g => [ptS g.p, segS g.s]) (fun _ => True) (fun g => .tup 2 (lst [ptsS (ptsN g) (fun i => g.pt i), .int .i64 (ptsE g)]))
theorem ok_points : SpecOK Try.prog spPoints := by
  refine spec_sound (specs := [spCheckSeg, spWithinP, spPts]) (all_ok (⟨ok_checkSeg, ok_withinP, ok_pts, trivial⟩)) (eqs := []) (fun _ _ h => (List.not_mem_nil h).elim) Aff.mixed Try.func61 rfl (by kernel_rfl) (fun _ _ => by kernel_rfl) (fun g => A0) (fun g => Nat.le_of_ble_eq_true (by kernel_rfl)) ?_
  rintro ⟨p, s⟩ _
  refine vc_of (B := let z4 := (PsG.mk p s);let z3 := (True ∧ Sx.Ask (ptsN z4 = (0 : Nat)));let z2 := (IntKind.i64 = IntKind.i64); let z6 := (True ∧ True ∧ True ∧ True ∧ z3 ∧ Sx.Ask z2 ∧ Sx.Ask (segE s = ptsE z4)); let z5 := ((True ∧ Sx.Ask z2 ∧ Sx.Ask (p.x = p.x)) ∧ Sx.Ask z2 ∧ Sx.Ask (p.y = p.y));let z1 := ((((((True ∧ Sx.Ask z2 ∧ Sx.Ask (s.k = s.k)) ∧ Sx.Ask z2 ∧ Sx.Ask (s.x = s.x)) ∧ Sx.Ask z2 ∧ Sx.Ask (s.y = s.y)) ∧ Sx.Ask z2 ∧ Sx.Ask (s.u = s.u)) ∧ Sx.Ask z2 ∧ Sx.Ask (s.v = s.v)) ∧ Sx.Ask z2 ∧ Sx.Ask (s.w = s.w));let z0 := (True ∧ ((z5 ∧ True) ∧ Sx.Ask True) ∧ True ∧ Sx.Br (!decide (Con.inC p.x ∧ Con.inC p.y)) (True ∧ True ∧ True ∧ z3 ∧ Sx.Ask z2 ∧ Sx.Ask ((3 : Int) = ptsE z4)) (True ∧ True ∧ ((z5 ∧ z1 ∧ True) ∧ Sx.Ask z4.ok) ∧ True ∧ True ∧ True ∧ (True ∧ Sx.Ask (z4.n.toNat = ptsN z4) ∧ ∀ (i : Nat), let z7 := (z4.pt (↑i : Int)); i < ptsN z4 → (True ∧ Sx.Ask z2 ∧ Sx.Ask (z7.x = z7.x)) ∧ Sx.Ask z2 ∧ Sx.Ask (z7.y = z7.y)) ∧ Sx.Ask z2 ∧ Sx.Ask ((0 : Int) = ptsE z4)));True ∧ True ∧ True ∧ True ∧ True ∧ True ∧ True ∧ True ∧ Sx.Br (decide (s.k ≠ (2 : Int))) (True ∧ True ∧ True ∧ True ∧ Sx.Br (decide (s.k ≠ (3 : Int))) (True ∧ True ∧ True ∧ z3 ∧ Sx.Ask z2 ∧ Sx.Ask ((14 : Int) = ptsE z4)) (True ∧ ((z1 ∧ True) ∧ Sx.Ask True) ∧ True ∧ True ∧ True ∧ Sx.Br (decide (segE s ≠ (0 : Int))) z6 z0)) (True ∧ True ∧ ((z1 ∧ True) ∧ Sx.Ask True) ∧ True ∧ True ∧ True ∧ Sx.Br (decide (segE s ≠ (0 : Int))) z6 z0)) (by kernel_rfl) ?_
  simp only [ask_iff, br_iff, eq_self, true_and, and_true, implies_true, forall_const, decide_eq_true_eq, decide_eq_false_iff_not, ne_eq, Nat.mul_one, Nat.add_zero, Nat.zero_add]
  have inner : s.k = 2 ∨ s.k = 3 → (¬segE s = 0 → ptsN ⟨p, s⟩ = 0 ∧ segE s = ptsE ⟨p, s⟩) ∧ (segE s = 0 → (¬(inC p.x ∧ inC p.y) → ptsN ⟨p, s⟩ = 0 ∧ 3 = ptsE ⟨p, s⟩) ∧ (inC p.x ∧ inC p.y → PsG.ok ⟨p, s⟩ ∧ (PsG.n ⟨p, s⟩).toNat = ptsN ⟨p, s⟩ ∧ 0 = ptsE ⟨p, s⟩)) := by
    intro hk
    have e0 : ptsE ⟨p, s⟩ = if segE s ≠ 0 then segE s else if inC p.x ∧ inC p.y then 0 else 3 := if_neg (by show ¬(s.k ≠ 2 ∧ s.k ≠ 3); omega)
    refine ⟨fun h => ?_, fun h => ⟨fun h2 => ?_, fun h2 => ?_⟩⟩
    · rw [if_pos h] at e0
      exact ⟨if_neg (by rw [e0]; exact h), e0.symm⟩
    · rw [if_neg (by omega), if_neg h2] at e0
      exact ⟨if_neg (by rw [e0]; decide), e0.symm⟩
    · rw [if_neg (by omega), if_pos h2] at e0
      exact ⟨ok_of_E hk h h2, (if_pos e0).symm, e0.symm⟩
  simp only [Classical.not_not, Bool.not_eq_true', Bool.not_eq_false', decide_eq_false_iff_not, decide_eq_true_eq]
  refine ⟨fun h2 => ⟨fun h3 => ?_, fun h3 => inner (Or.inr h3)⟩, fun h2 => inner (Or.inl h2)⟩
  have e : ptsE ⟨p, s⟩ = 14 := if_pos ⟨h2, h3⟩
  exact ⟨if_neg (by rw [e]; decide), e.symm⟩
def arcG (r : Int) : PsG := ⟨⟨r, 0⟩, ⟨3, 0, r, r, r, 181⟩⟩
def spArc : FSpec := mkSpec 40 (γ := Int) (fun | [.int _ r] => some r | _ => none) (fun r => [.int .i64 r]) (fun _ => True) (fun r => .tup 2 (lst [ptsS (ptsN (arcG r)) (fun i => (arcG r).pt i), .int .i64 (ptsE (arcG r))]))
theorem ok_arc : SpecOK Try.prog spArc := by
  refine spec_sound (specs := [spPoints]) (all_ok (⟨ok_points, trivial⟩)) (eqs := []) (fun _ _ h => (List.not_mem_nil h).elim) Aff.mixed Try.func40 rfl (by kernel_rfl) (fun _ _ => by kernel_rfl) (fun g => A0) (fun g => Nat.le_of_ble_eq_true (by kernel_rfl)) ?_
  rintro r _
  refine vc_of (B := let z4 := (181 : Int);let z3 := (0 : Int);let z1 := (PsG.mk (Con.Pt.mk r z3) (Seg.mk (3 : Int) z3 r r r z4));let z0 := (IntKind.i64 = IntKind.i64);True ∧ True ∧ True ∧ True ∧ True ∧ True ∧ True ∧ True ∧ ((((True ∧ Sx.Ask z0 ∧ Sx.Ask (r = r)) ∧ Sx.Ask z0 ∧ Sx.Ask (z3 = z3)) ∧ ((((((True ∧ Sx.Ask z0 ∧ Sx.Ask ((3 : Int) = (3 : Int))) ∧ Sx.Ask z0 ∧ Sx.Ask (z3 = z3)) ∧ Sx.Ask z0 ∧ Sx.Ask (r = r)) ∧ Sx.Ask z0 ∧ Sx.Ask (r = r)) ∧ Sx.Ask z0 ∧ Sx.Ask (r = r)) ∧ Sx.Ask z0 ∧ Sx.Ask (z4 = z4)) ∧ True) ∧ Sx.Ask True) ∧ True ∧ True ∧ True ∧ True ∧ True ∧ (True ∧ Sx.Ask (ptsN z1 = ptsN (arcG r)) ∧ ∀ (i : Nat), let z2 := ((↑i : Int) + (1 : Int)); i < ptsN (arcG r) → (True ∧ Sx.Ask z0 ∧ Sx.Ask (Con.atC r r z3 z4 z2 (Con.divN z1.cur) = Con.atC r r z3 z4 z2 (Con.divN (arcG r).cur))) ∧ Sx.Ask z0 ∧ Sx.Ask (Con.atC z3 r r z4 z2 (Con.divN z1.cur) = Con.atC z3 r r z4 z2 (Con.divN (arcG r).cur))) ∧ Sx.Ask z0 ∧ Sx.Ask (ptsE z1 = ptsE (arcG r))) (by kernel_rfl) ?_
  simp only [ask_iff, br_iff, eq_self, true_and, and_true, implies_true, forall_const, decide_eq_true_eq, decide_eq_false_iff_not, ne_eq, Nat.mul_one, Nat.add_zero, Nat.zero_add]
  exact ⟨⟨rfl, fun _ _ => ⟨rfl, rfl⟩⟩, rfl⟩
def spArcs : FSpec := mkSpec 11 (γ := Unit) (fun _ => some ()) (fun _ => []) (fun _ => True) (fun _ => .bool true)
theorem ok_arcs : SpecOK Try.prog spArcs := by
  refine spec_sound (specs := [spArc]) (all_ok (⟨ok_arc, trivial⟩)) (eqs := eqG) (all_eq eqG_ok) Aff.mixed Try.func11 rfl (by kernel_rfl) (fun _ _ => by kernel_rfl) (fun g => A0) (fun g => Nat.le_of_ble_eq_true (by kernel_rfl)) ?_
  rintro _ _
  refine vc_of (B := let z3 := (2 : Int);let z1 := (100 : Int);let z0 := (↑(ptsN (arcG z1)) : Int); let z2 := ((↑(z0.tdiv z3 - (1 : Int)).toNat : Int) + (1 : Int));True ∧ (((Sx.Ask (IntKind.i64 = IntKind.i64) ∧ Sx.Ask (z1 = z1)) ∧ True) ∧ Sx.Ask True) ∧ True ∧ True ∧ True ∧ True ∧ True ∧ True ∧ True ∧ True ∧ True ∧ True ∧ True ∧ True ∧ True ∧ True ∧ True ∧ True ∧ Sx.Ask (z3 ≠ (0 : Int) ∧ (-9223372036854775808 : Int) ≤ z0.tdiv z3 ∧ z0.tdiv z3 ≤ (9223372036854775807 : Int)) ∧ Sx.Ask ((-9223372036854775808 : Int) ≤ z0.tdiv z3 - (1 : Int) ∧ z0.tdiv z3 - (1 : Int) ≤ (9223372036854775807 : Int)) ∧ Sx.Ask ((0 : Int) ≤ z0.tdiv z3 - (1 : Int) ∧ z0.tdiv z3 - (1 : Int) < z0) ∧ True ∧ True ∧ True ∧ True ∧ True ∧ True ∧ Sx.Ask ((decide (Con.atC z1 z1 (0 : Int) (181 : Int) z2 (Con.divN (arcG z1).cur) = (71 : Int)) && (decide (Con.atC (0 : Int) z1 z1 (181 : Int) z2 (Con.divN (arcG z1).cur) = (71 : Int)) && true)) = true)) (by kernel_rfl) ?_
  simp only [ask_iff, br_iff, eq_self, true_and, and_true, implies_true, forall_const, decide_eq_true_eq, decide_eq_false_iff_not, ne_eq, Nat.mul_one, Nat.add_zero, Nat.zero_add]
  exact of_decide_eq_true (by kernel_rfl)
end Go.Proofs.Ytfjbjbmbdadmhaa.Cop
