/- A law's parameters that are slices of integers. -/
import Derived.Test.YtbmgclpgompjmaaFrame
import Derived.Test.YtbmgclpgompjmaaSxx
namespace Go.Proofs.Ytbmgclpgompjmaa.Sx
open Go.RowKit
theorem leaf_ints {P : Program} {w : World} {T e : TypeId} {v : Value} {k : IntKind} (hu : P.underlying T = some (.slice e)) (he : P.underlying e = some (.int k)) (hk : P.cellsOf e = 1) (hl : leaves P 20 e = some [e]) (h : Leaf P w T v) :
    ∃ xs : List Int, R w (fun _ => False) E0 (.sl xs.length 1 (fun i _ => .int k (nums xs i))) v ∧ (∀ x ∈ xs, (Lit.int k x).wf = true) ∧ xs.length ≤ maxLen := by
  obtain ⟨xs, ⟨p, cap, rfl, h1, h2, h3⟩, h4, h5⟩ := sl_of_leaf (c := fun n : Int => [Value.int k n]) (mk := fun l => intOf (ofV (l.getD 0 undef))) (ok := fun n => (Lit.int k n).wf = true) hu hk (by decide) hl (fun cs hcs => by
    obtain ⟨y, m, rfl, e1, l1⟩ := All2.cons_inv hcs
    obtain rfl := All2.nil_inv l1
    obtain ⟨n, rfl, hw⟩ := leaf_int he e1
    exact ⟨rfl, hw⟩) h
  refine ⟨xs, R_row xs h1 ?_, h4, h5⟩
  rcases h3 with h3 | ⟨b, off, h6, h7⟩
  · exact .inl h3
  · refine .inr ⟨b, off, h6, id, fun i hi => ?_⟩
    have := h7 i 0 hi (by decide)
    simpa using this
end Go.Proofs.Ytbmgclpgompjmaa.Sx
