/- conic.Points and what it leans on, by the evaluation. -/
import Derived.Test.YtfjbjbmbdadmhaaGreatCon
set_option linter.unusedSimpArgs false
set_option linter.unusedVariables false
namespace Go.Proofs.YtfjbjbmbdadmhaaGreat.Cop
open Go.RowKit Sx Num Aff Con
set_option maxRecDepth 100000
instance (x : Int) : Decidable (inC x) := by unfold inC; infer_instance
/-! path.within, path.CheckSeg. -/
def allIn (n : Nat) (f : Nat → Int) : Bool := (List.range n).all fun i => decide (inC (f i))
theorem allIn_iff {n : Nat} {f : Nat → Int} : allIn n f = true ↔ ∀ i, i < n → inC (f i) := by
  simp [allIn]
structure WiG where
  n : Nat
  f : Nat → Int
def intsS (g : WiG) : SV := .sl g.n 1 (fun i _ => .int .i64 (g.f i))
def wiInv (g : WiG) : Inv := ⟨Int, fun i => (0 ≤ i ∧ i ≤ g.n) ∧ ∀ j : Nat, (j : Int) < i → inC (g.f j), fun i => ⟨[(5, intsS g), (6, .int .i64 g.n), (7, .int .i64 i)], []⟩, fun i => (g.n - i).toNat⟩
theorem allIn4 (a b c d : Int) : allIn 4 (fun i => bif decide (i = 3) then d else bif decide (i = 2) then c else bif decide (i = 1) then b else a) = decide (inC a ∧ inC b ∧ inC c ∧ inC d) := by
  unfold allIn
  rw [show List.range 4 = [0, 1, 2, 3] from rfl]
  simp [Bool.decide_and]
structure Seg where
  k : Int
  x : Int
  y : Int
  u : Int
  v : Int
  w : Int
def segL (s : Seg) : List SV := [.int .i64 s.k, .int .i64 s.x, .int .i64 s.y, .int .i64 s.u, .int .i64 s.v, .int .i64 s.w]
def segS (s : Seg) : SV := .agg 6 (lst (segL s))
def segD (g : Nat → SV) : Seg := ⟨intOf (g 0), intOf (g 1), intOf (g 2), intOf (g 3), intOf (g 4), intOf (g 5)⟩
def Seg.inB (s : Seg) : Int := if inC s.x ∧ inC s.y ∧ inC s.u ∧ inC s.v then 0 else 3
def segE (s : Seg) : Int :=
  if s.k = 1 ∨ s.k = 2 then if s.u = 0 ∧ s.v = 0 ∧ s.w = 0 then s.inB else 4
  else if s.k = 4 then if s.x = 0 ∧ s.y = 0 ∧ s.u = 0 ∧ s.v = 0 ∧ s.w = 0 then s.inB else 4
  else if s.k = 3 then if s.w < 16 ∨ 4096 < s.w then 3 else s.inB
  else 14
/-! points, Points. -/
structure PsG where
  p : Pt
  s : Seg
def PsG.cur (g : PsG) : Cur := ⟨g.p.x, g.p.y, g.s.u, g.s.v, g.s.x, g.s.y, g.s.w⟩
def PsG.n (g : PsG) : Int := if g.s.k = 2 then 1 else divN g.cur
def PsG.pt (g : PsG) (i : Int) : Pt := if g.s.k = 2 then ⟨g.s.x, g.s.y⟩ else g.cur.at (i + 1) (divN g.cur)
def PsG.ok (g : PsG) : Prop := g.s.k = 2 ∨ (g.s.k = 3 ∧ g.cur.ok)
def ptsS (n : Nat) (f : Nat → Pt) : SV := .sl n 2 (fun i => lst (ptL (f i)))
def ptsE (g : PsG) : Int := if g.s.k ≠ 2 ∧ g.s.k ≠ 3 then 14 else if segE g.s ≠ 0 then segE g.s else if inC g.p.x ∧ inC g.p.y then 0 else 3
def ptsN (g : PsG) : Nat := if ptsE g = 0 then g.n.toNat else 0
theorem segE0 {s : Seg} (h : segE s = 0) : s.k = 2 ∨ s.k = 3 → (inC s.x ∧ inC s.y ∧ inC s.u ∧ inC s.v) ∧ (s.k = 3 → 16 ≤ s.w ∧ s.w ≤ 4096) := by
  unfold segE Seg.inB at h
  by_cases hP : inC s.x ∧ inC s.y ∧ inC s.u ∧ inC s.v
  · intro hk
    refine ⟨hP, ?_⟩
    simp only [if_pos hP] at h
    omega
  · simp only [if_neg hP] at h
    omega
theorem ok_of_E {g : PsG} (hk : g.s.k = 2 ∨ g.s.k = 3) (h : segE g.s = 0) (hp : inC g.p.x ∧ inC g.p.y) : g.ok := by
  obtain ⟨a, b⟩ := segE0 h hk
  rcases hk with h2 | h3
  · exact Or.inl h2
  · exact Or.inr ⟨h3, ⟨⟨hp, a.2.2⟩, ⟨a.1, a.2.1⟩, b h3⟩⟩
def arcG (r : Int) : PsG := ⟨⟨r, 0⟩, ⟨3, 0, r, r, r, 181⟩⟩
end Go.Proofs.YtfjbjbmbdadmhaaGreat.Cop
