/- conic.Points and what it leans on, by the evaluation. -/
import Derived.Test.YthappngbapbkfaaDoorCon
set_option linter.unusedSimpArgs false
set_option linter.unusedVariables false
namespace Go.Proofs.YthappngbapbkfaaDoor.Cop
open Go.RowKit Sx Num Aff Con
set_option maxRecDepth 100000
abbrev eqS : List (TypeId × List CK) := [(32, [.int, .int, .int, .int, .int, .int])]
theorem eqS_ok : AllEq Tryd.prog eqS := ⟨eqOK_of (m := 6) (by kernel_rfl) (by kernel_rfl) rfl (by decide) (by kernel_rfl), trivial⟩
instance (x : Int) : Decidable (inC x) := by unfold inC; infer_instance
/-! path.within, path.CheckSeg. -/
def allIn (n : Nat) (f : Nat → Int) : Bool := (List.range n).all fun i => decide (inC (f i))
theorem allIn_iff {n : Nat} {f : Nat → Int} : allIn n f = true ↔ ∀ i, i < n → inC (f i) := by
  simp [allIn]
structure WiG where
  n : Nat
  f : Nat → Int
def intsS (g : WiG) : SV := .sl g.n 1 (fun i _ => .int .i64 (g.f i))
def wiInv (g : WiG) : Inv := ⟨Int, fun i => (0 ≤ i ∧ i ≤ g.n) ∧ ∀ j : Nat, (j : Int) < i → inC (g.f j), fun i => ⟨[(5, intsS g), (6, .int .i64 g.n), (7, .int .i64 i)], []⟩, fun i => (g.n - i).toNat⟩
def spWithinL : FSpec := mkSpec 22 (γ := WiG) (fun | [s] => some ⟨slLen s, slCell 0 s⟩ | _ => none) (fun g => [intsS g]) (fun g => g.n ≤ 4294967296) (fun g => .bool (allIn g.n g.f))
theorem ok_withinL : SpecOK Tryd.prog spWithinL := by
  refine spec_sound (specs := []) (all_ok trivial) (eqs := []) (fun _ _ h => (List.not_mem_nil h).elim) Aff.mixed Tryd.func22 rfl (by kernel_rfl) (fun _ _ => by kernel_rfl) (fun g => (⟨[(2, .inv (wiInv g))], []⟩ : Ann)) (fun g => Nat.le_of_ble_eq_true (by kernel_rfl)) ?_
  rintro ⟨n, f⟩ hn
  simp only at hn
  refine vc_of (B := let z2 := (wiInv (WiG.mk n f));let z0 := (IntKind.i64 = IntKind.i64); let z3 := (Sx.Ask z0 ∧ Sx.Ask ((↑n : Int) = (↑n : Int))); let z1 := (Sx.Ask (n = n) ∧ ∀ (i : Nat), i < n → True ∧ Sx.Ask z0 ∧ Sx.Ask (f i = f i));True ∧ True ∧ True ∧ True ∧ (∃ (g : Int), Sx.Ask (z2.pre g) ∧ (z1 ∧ z3 ∧ (Sx.Ask z0 ∧ Sx.Ask ((0 : Int) = g)) ∧ True) ∧ True) ∧ ∀ (g : Int), z2.pre g → True ∧ Sx.Br (decide (g < (↑n : Int))) (Sx.Ask ((0 : Int) ≤ g ∧ g < (↑n : Int)) ∧ True ∧ True ∧ True ∧ True ∧ True ∧ Sx.Br (decide (f g.toNat < (-32767 : Int))) (True ∧ True ∧ True ∧ Sx.Ask (false = allIn n f)) (True ∧ True ∧ True ∧ Sx.Br (decide ((32767 : Int) < f g.toNat)) (True ∧ True ∧ Sx.Ask (false = allIn n f)) (Sx.Ask ((-9223372036854775808 : Int) ≤ g + (1 : Int) ∧ g + (1 : Int) ≤ (9223372036854775807 : Int)) ∧ True ∧ ∃ (g' : Int), Sx.Ask (z2.pre g') ∧ ((z1 ∧ z3 ∧ (Sx.Ask z0 ∧ Sx.Ask (g + (1 : Int) = g')) ∧ True) ∧ True) ∧ Sx.Ask (z2.meas g' < z2.meas g)))) (True ∧ True ∧ Sx.Ask (true = allIn n f))) (by kernel_rfl) ?_
  simp only [ask_iff, br_iff, eq_self, true_and, and_true, implies_true, forall_const, decide_eq_true_eq, decide_eq_false_iff_not, ne_eq, Nat.mul_one, Nat.add_zero, Nat.zero_add]
  have no : ¬ (∀ i, i < n → inC (f i)) → false = allIn n f := fun h => (Bool.eq_false_iff.2 fun hc => h (allIn_iff.1 hc)).symm
  refine ⟨⟨(0 : Int), ⟨⟨Int.le_refl 0, Int.natCast_nonneg n⟩, fun j hj => absurd hj (by omega)⟩, rfl⟩, fun i hi => ?_⟩
  have hi' : (0 ≤ i ∧ i ≤ n) ∧ ∀ j : Nat, (j : Int) < i → inC (f j) := hi
  refine ⟨fun hlt => ⟨by omega, fun h1 => no fun hc => ?_, fun h1 => ⟨fun h2 => no fun hc => ?_, fun h2 => ⟨by omega, (i + 1 : Int), ⟨⟨show 0 ≤ i + 1 by omega, show i + 1 ≤ n by omega⟩, fun j hj => ?_⟩, rfl, ?_⟩⟩⟩, fun hge => ?_⟩
  · have := hc i.toNat (by omega)
    unfold inC at this
    omega
  · have := hc i.toNat (by omega)
    unfold inC at this
    omega
  · by_cases hj2 : (j : Int) < i
    · exact hi'.2 j hj2
    · have hj3 : (j : Int) < i + 1 := hj
      obtain rfl : j = i.toNat := by omega
      show -32767 ≤ f i.toNat ∧ f i.toNat ≤ 32767
      omega
  · show (n - (i + 1)).toNat < (n - i).toNat
    omega
  · exact (allIn_iff.2 fun k hk => hi'.2 k (by omega)).symm
theorem allIn4 (a b c d : Int) : allIn 4 (fun i => bif decide (i = 3) then d else bif decide (i = 2) then c else bif decide (i = 1) then b else a) = decide (inC a ∧ inC b ∧ inC c ∧ inC d) := by
  unfold allIn
  rw [show List.range 4 = [0, 1, 2, 3] from rfl]
  simp [Bool.decide_and]
structure Seg where
  k : Int
  x : Int
  y : Int
  u : Int
  v : Int
  w : Int
def segL (s : Seg) : List SV := [.int .i64 s.k, .int .i64 s.x, .int .i64 s.y, .int .i64 s.u, .int .i64 s.v, .int .i64 s.w]
def segS (s : Seg) : SV := .agg 6 (lst (segL s))
def segD (g : Nat → SV) : Seg := ⟨intOf (g 0), intOf (g 1), intOf (g 2), intOf (g 3), intOf (g 4), intOf (g 5)⟩
def Seg.inB (s : Seg) : Int := if inC s.x ∧ inC s.y ∧ inC s.u ∧ inC s.v then 0 else 3
def segE (s : Seg) : Int :=
  if s.k = 1 ∨ s.k = 2 then if s.u = 0 ∧ s.v = 0 ∧ s.w = 0 then s.inB else 4
  else if s.k = 4 then if s.x = 0 ∧ s.y = 0 ∧ s.u = 0 ∧ s.v = 0 ∧ s.w = 0 then s.inB else 4
  else if s.k = 3 then if s.w < 16 ∨ 4096 < s.w then 3 else s.inB
  else 14
def spCheckSeg : FSpec := mkSpec 13 (γ := Seg) (fun | [.agg _ s] => some (segD s) | _ => none) (fun s => [segS s]) (fun _ => True) (fun s => .int .i64 (segE s))
theorem ok_checkSeg : SpecOK Tryd.prog spCheckSeg := by
  refine spec_sound (specs := [giv spWithinL]) (all_ok (⟨giv_ok ok_withinL, trivial⟩)) (eqs := eqS) (all_eq eqS_ok) Aff.mixed Tryd.func13 rfl (by kernel_rfl) (fun _ _ => by kernel_rfl) (fun g => A0) (fun g => Nat.le_of_ble_eq_true (by kernel_rfl)) ?_
  rintro s _
  refine vc_of (B := let z5 := (decide (s.u = (0 : Int)) && (decide (s.v = (0 : Int)) && (decide (s.w = (0 : Int)) && true)));let z3 := (IntKind.i64 = IntKind.i64); let z6 := (True ∧ True ∧ Sx.Ask z3 ∧ Sx.Ask ((3 : Int) = segE s)); let z4 := (True ∧ True ∧ Sx.Ask z3 ∧ Sx.Ask ((4 : Int) = segE s));let z0 := (True ∧ True ∧ True ∧ True ∧ True ∧ True ∧ True ∧ True ∧ True ∧ (((Sx.Ask ((4 : Nat) = (4 : Nat)) ∧ ∀ (i : Nat), i < (4 : Nat) → True ∧ Sx.Ask z3 ∧ Sx.Ask ((bif decide (i = (3 : Nat)) then s.v else bif decide (i = (2 : Nat)) then s.u else bif decide (i = (1 : Nat)) then s.y else s.x) = bif decide (i = (3 : Nat)) then s.v else bif decide (i = (2 : Nat)) then s.u else bif decide (i = (1 : Nat)) then s.y else s.x)) ∧ True) ∧ Sx.Ask ((4 : Nat) ≤ (4294967296 : Nat))) ∧ True ∧ Sx.Br (!allIn (4 : Nat) fun (i : Nat) => bif decide (i = (3 : Nat)) then s.v else bif decide (i = (2 : Nat)) then s.u else bif decide (i = (1 : Nat)) then s.y else s.x) z6 (True ∧ True ∧ Sx.Ask z3 ∧ Sx.Ask ((0 : Int) = segE s))); let z2 := (True ∧ True ∧ True ∧ True ∧ True ∧ True ∧ True ∧ True ∧ True ∧ Sx.Br (!(decide (s.k = s.k) && (decide (s.x = s.x) && (decide (s.y = s.y) && z5)))) z4 z0); let z1 := (True ∧ True ∧ Sx.Br (decide (s.k = (4 : Int))) (True ∧ True ∧ True ∧ True ∧ True ∧ Sx.Br (!(decide (s.k = (4 : Int)) && (decide (s.x = (0 : Int)) && (decide (s.y = (0 : Int)) && z5)))) z4 z0) (True ∧ True ∧ Sx.Br (decide (s.k = (3 : Int))) (True ∧ True ∧ True ∧ True ∧ Sx.Br (decide (s.w < (16 : Int))) (True ∧ True ∧ True ∧ Sx.Ask z3 ∧ Sx.Ask ((3 : Int) = segE s)) (True ∧ True ∧ True ∧ True ∧ Sx.Br (decide ((4096 : Int) < s.w)) z6 (True ∧ True ∧ True ∧ Sx.Br (!(decide (s.k = s.k) && (decide (s.x = s.x) && (decide (s.y = s.y) && (decide (s.u = s.u) && (decide (s.v = s.v) && (decide (s.w = s.w) && true))))))) z4 z0))) (True ∧ True ∧ Sx.Ask z3 ∧ Sx.Ask ((14 : Int) = segE s))));True ∧ True ∧ True ∧ True ∧ True ∧ True ∧ True ∧ True ∧ True ∧ Sx.Br (decide (s.k = (1 : Int))) (Sx.Br (decide (s.k = (1 : Int))) z2 z1) (True ∧ True ∧ Sx.Br (decide (s.k = (2 : Int))) z2 z1)) (by kernel_rfl) ?_
  simp only [ask_iff, br_iff, eq_self, true_and, and_true, implies_true, forall_const, decide_eq_true_eq, decide_eq_false_iff_not, ne_eq, Nat.mul_one, Nat.add_zero, Nat.zero_add]
  simp only [allIn4]
  have h4 : (4 : Nat) ≤ 4294967296 := by decide
  unfold segE Seg.inB
  by_cases hP : inC s.x ∧ inC s.y ∧ inC s.u ∧ inC s.v
  · simp only [decide_eq_true hP, if_pos hP]
    simp
    repeat' (first | apply And.intro | intro _)
    all_goals omega
  · simp only [decide_eq_false hP, if_neg hP]
    simp
    repeat' (first | apply And.intro | intro _)
    all_goals omega
/-! points, Points. -/
structure PsG where
  p : Pt
  s : Seg
def PsG.cur (g : PsG) : Cur := ⟨g.p.x, g.p.y, g.s.u, g.s.v, g.s.x, g.s.y, g.s.w⟩
def PsG.n (g : PsG) : Int := if g.s.k = 2 then 1 else divN g.cur
def PsG.pt (g : PsG) (i : Int) : Pt := if g.s.k = 2 then ⟨g.s.x, g.s.y⟩ else g.cur.at (i + 1) (divN g.cur)
def PsG.ok (g : PsG) : Prop := g.s.k = 2 ∨ (g.s.k = 3 ∧ g.cur.ok)
def ptsS (n : Nat) (f : Nat → Pt) : SV := .sl n 2 (fun i => lst (ptL (f i)))
def ptsE (g : PsG) : Int := if g.s.k ≠ 2 ∧ g.s.k ≠ 3 then 14 else if segE g.s ≠ 0 then segE g.s else if inC g.p.x ∧ inC g.p.y then 0 else 3
def ptsN (g : PsG) : Nat := if ptsE g = 0 then g.n.toNat else 0
theorem segE0 {s : Seg} (h : segE s = 0) : s.k = 2 ∨ s.k = 3 → (inC s.x ∧ inC s.y ∧ inC s.u ∧ inC s.v) ∧ (s.k = 3 → 16 ≤ s.w ∧ s.w ≤ 4096) := by
  unfold segE Seg.inB at h
  by_cases hP : inC s.x ∧ inC s.y ∧ inC s.u ∧ inC s.v
  · intro hk
    refine ⟨hP, ?_⟩
    simp only [if_pos hP] at h
    omega
  · simp only [if_neg hP] at h
    omega
theorem ok_of_E {g : PsG} (hk : g.s.k = 2 ∨ g.s.k = 3) (h : segE g.s = 0) (hp : inC g.p.x ∧ inC g.p.y) : g.ok := by
  obtain ⟨a, b⟩ := segE0 h hk
  rcases hk with h2 | h3
  · exact Or.inl h2
  · exact Or.inr ⟨h3, ⟨⟨hp, a.2.2⟩, ⟨a.1, a.2.1⟩, b h3⟩⟩
def arcG (r : Int) : PsG := ⟨⟨r, 0⟩, ⟨3, 0, r, r, r, 181⟩⟩
end Go.Proofs.YthappngbapbkfaaDoor.Cop
