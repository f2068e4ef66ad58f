/- printworkskeep1.ConicWithinHull, by the evaluation. -/
import Derived.Test.YthappngbapbkfaaDoorCop
set_option linter.unusedSimpArgs false
set_option linter.unusedVariables false
namespace Go.Proofs.YthappngbapbkfaaDoor.Coh
open Go.RowKit Sx Num Aff Con Cop
set_option maxRecDepth 100000
def lo3 (a b c : Int) : Int := min (min a b) c
def hi3 (a b c : Int) : Int := max (max a b) c
def _root_.Go.Proofs.YthappngbapbkfaaDoor.Cop.PsG.cu (g : PsG) : Int := if g.s.k = 2 then g.s.x else g.s.u
def _root_.Go.Proofs.YthappngbapbkfaaDoor.Cop.PsG.cv (g : PsG) : Int := if g.s.k = 2 then g.s.y else g.s.v
theorem pt_in {g : PsG} (he : ptsE g = 0) : g.ok ∧ 1 ≤ g.n ∧ g.n ≤ 512 ∧ ptsN g = g.n.toNat := by
  have hok : g.ok := by
    unfold ptsE at he
    split at he
    · cases he
    · split at he
      · omega
      · split at he
        · exact ok_of_E (by omega) (by omega) (by assumption)
        · cases he
  have hn : 1 ≤ g.n ∧ g.n ≤ 512 := by
    unfold PsG.n
    split
    · decide
    · exact divF_range _ 9 1 (by decide) (by decide)
  exact ⟨hok, hn.1, hn.2, if_pos he⟩
theorem pt_hull {g : PsG} (hok : g.ok) {i : Int} (hi : 0 ≤ i) (hi' : i < g.n) :
    (lo3 g.p.x g.cu g.s.x ≤ (g.pt i).x ∧ (g.pt i).x ≤ hi3 g.p.x g.cu g.s.x) ∧ lo3 g.p.y g.cv g.s.y ≤ (g.pt i).y ∧ (g.pt i).y ≤ hi3 g.p.y g.cv g.s.y := by
  unfold PsG.pt PsG.cu PsG.cv lo3 hi3
  by_cases h2 : g.s.k = 2
  · simp only [if_pos h2]
    omega
  · simp only [if_neg h2]
    have hc : g.cur.ok := by
      rcases hok with h | h
      · exact absurd h h2
      · exact h.2
    have hn : g.n = divN g.cur := if_neg h2
    rw [hn] at hi'
    have hr : 1 ≤ divN g.cur ∧ divN g.cur ≤ 512 := divF_range _ 9 1 (by decide) (by decide)
    have a := atC_between (x0 := g.p.x) (x1 := g.s.u) (x2 := g.s.x) (w := g.s.w) (k := i + 1) (n := divN g.cur) (lo := min (min g.p.x g.s.u) g.s.x) (hi := max (max g.p.x g.s.u) g.s.x) hc.2.2 ⟨by omega, by omega⟩ ⟨hr.1, by omega⟩ (by omega) (by omega) (by omega)
    have b := atC_between (x0 := g.p.y) (x1 := g.s.v) (x2 := g.s.y) (w := g.s.w) (k := i + 1) (n := divN g.cur) (lo := min (min g.p.y g.s.v) g.s.y) (hi := max (max g.p.y g.s.v) g.s.y) hc.2.2 ⟨by omega, by omega⟩ ⟨hr.1, by omega⟩ (by omega) (by omega) (by omega)
    exact ⟨a, b⟩
theorem pt_last {g : PsG} (hok : g.ok) : (g.pt (g.n - 1)).x = g.s.x ∧ (g.pt (g.n - 1)).y = g.s.y := by
  unfold PsG.pt
  by_cases h2 : g.s.k = 2
  · simp only [if_pos h2, and_self]
  · simp only [if_neg h2]
    have hn : g.n = divN g.cur := if_neg h2
    rw [hn]
    have hr : 1 ≤ divN g.cur ∧ divN g.cur ≤ 512 := divF_range _ 9 1 (by decide) (by decide)
    generalize divN g.cur = N at hr
    rw [show N - 1 + 1 = N by omega]
    have hp : 256 * N * N > 0 := Int.mul_pos (by omega) (by omega)
    have e : ∀ x0 x1 x2 w : Int, atC x0 x1 x2 w N N = x2 := fun x0 x1 x2 w => by
      have hs : sumC w N N = 256 * N * N := by unfold sumC; rw [Int.sub_self]; simp
      have hx : 256 * (N - N) * (N - N) * x0 + 2 * N * (N - N) * w * x1 + 256 * N * N * x2 = x2 * (256 * N * N) := by rw [Int.sub_self, Int.mul_comm x2]; simp
      unfold atC
      rw [hs, hx]
      have := nr_between (x := x2 * (256 * N * N)) (b := 256 * N * N) (lo := x2) (hi := x2) (by omega) (Int.le_refl _) (Int.le_refl _)
      omega
    exact ⟨e _ _ _ _, e _ _ _ _⟩
theorem min3 (a b c : Int) : (if c < if b < a then b else a then c else if b < a then b else a) = lo3 a b c := by
  unfold lo3
  generalize hm : (if b < a then b else a) = m
  have : m = min a b := by rw [← hm]; omega
  rw [this]
  omega
theorem max3 (a b c : Int) : (if c > if b > a then b else a then c else if b > a then b else a) = hi3 a b c := by
  unfold hi3
  generalize hm : (if b > a then b else a) = m
  have : m = max a b := by rw [← hm]; omega
  rw [this]
  omega
end Go.Proofs.YthappngbapbkfaaDoor.Coh
