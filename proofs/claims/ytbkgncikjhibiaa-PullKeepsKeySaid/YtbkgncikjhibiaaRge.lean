/- The comparison of runs that Join sorts by: walks of cmp.Or and of the closure. -/
import Derived.Test.YtbkgncikjhibiaaNum
import Derived.Test.YtbkgncikjhibiaaRgn
import Derived.Shelf.SlSortCmp.InsertionK
set_option linter.unusedSimpArgs false
set_option linter.unusedVariables false
namespace Go.Proofs.Ytbkgncikjhibiaa.Rge
open Go.Shelf Go.RowKit Go.Lib Go.Sort Num Rga
/-- cmp.Or of two numbers, in any world that holds them. -/
theorem or_walk (x y : Int) (b : Nat) (W : World) (h0 : W.cell? ⟨b, 0, none⟩ = some (.int .i64 x)) (h1 : W.cell? ⟨b, 1, none⟩ = some (.int .i64 y)) :
    Calls Try.prog 59 #[.slice (some ⟨b, 0, none⟩) 2 2] W fun e w' => e = .returned (.int .i64 (orI x y)) ∧ w' = W := by
  by_cases hx : x = 0
  · have e : orI x y = y := if_pos hx
    rw [e]
    clear e
    subst hx
    by_cases hy : y = 0
    · subst hy
      go_enter Try.func59, Try.ntmps59
      go_wp2
      refine wp_loop_rounds 3 ?_
      rw [rounds_succ]
      go_wp2
      rw [rounds_succ]
      go_wp2
      rw [rounds_succ]
      go_wp2
      go_ret
      exact ⟨rfl, rfl⟩
    · go_enter Try.func59, Try.ntmps59
      go_wp2
      refine wp_loop_rounds 3 ?_
      rw [rounds_succ]
      go_wp2
      rw [rounds_succ]
      go_wp2
      go_ret
      exact ⟨rfl, rfl⟩
  · have e : orI x y = x := if_neg hx
    rw [e]
    clear e
    go_enter Try.func59, Try.ntmps59
    go_wp2
    refine wp_loop_rounds 3 ?_
    rw [rounds_succ]
    go_wp2
    go_ret
    exact ⟨rfl, rfl⟩
theorem cell_new {X : World} {vs : Array Value} {T n i : Nat} {v : Value} (hn : X.heap.size = n) (hv : vs[i]? = some v) : (X.alloc (.cells vs T)).cell? ⟨n, i, none⟩ = some v := by
  subst hn
  simp [hv]
/-- The closure. -/
theorem cmp_walk (a0 a1 a2 b0 b1 b2 : Int) (W : World) (h0 : -9223372036854775808 ≤ a0 - b0 ∧ a0 - b0 ≤ 9223372036854775807) (h1 : -9223372036854775808 ≤ a1 - b1 ∧ a1 - b1 ≤ 9223372036854775807) :
    Calls Try.prog 65 #[.agg #[.int .i64 a0, .int .i64 a1, .int .i64 a2], .agg #[.int .i64 b0, .int .i64 b1, .int .i64 b2]] W fun e w' => e = .returned (.int .i64 (orI (a0 - b0) (a1 - b1))) ∧ ∃ q os', w' = grow (W.drewN q) os' := by
  have hcon := fun b W' h0 h1 => or_walk (a0 - b0) (a1 - b1) b W' h0 h1
  generalize orI (a0 - b0) (a1 - b1) = r at hcon ⊢
  go_enter Try.func65, Try.ntmps65
  go_wp2_with (go_at_call 59; refine (hcon _ _ (cell_new (by simp) rfl) (cell_new (by simp) rfl)).mono ?_; rintro e w' ⟨rfl, rfl⟩)
  go_ret
  exact ⟨rfl, 0, _, by rw [alloc_eq_grow, alloc_eq_grow, alloc_eq_grow, grow_grow, grow_grow]; rfl⟩
end Go.Proofs.Ytbkgncikjhibiaa.Rge
