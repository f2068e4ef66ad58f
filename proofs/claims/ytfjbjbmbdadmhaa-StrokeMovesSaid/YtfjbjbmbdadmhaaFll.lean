/- A law's parameters that are slices of lines. -/
import Derived.Test.YtfjbjbmbdadmhaaSlq
import Derived.Test.YtfjbjbmbdadmhaaFla
set_option linter.unusedSimpArgs false
set_option linter.unusedVariables false
namespace Go.Proofs.Ytfjbjbmbdadmhaa.Sx
open Go.RowKit Aff Con Fla
theorem noOwn_li (l : Li) (j : Nat) : noOwn (lst (liL l) j) := noOwn_lst (l := liL l) ⟨fun i j => noOwn_lst (l := ptL (l.f i)) ⟨trivial, trivial, trivial⟩ j, trivial, trivial⟩ j
theorem leaf_lines {w : World} {v : Value} (h : Leaf Try.prog w 24 v) :
    ∃ g : Lns, R w (fun _ => False) E0 (lnsS g) v ∧ g.n ≤ maxLen ∧ ∀ i, i < g.n → (g.f i).n ≤ maxLen := by
  obtain ⟨xs, h3, h4, h5⟩ := sl_of_leaf (n := 20) (ls := [32, 4]) (α := Value × Bool) (c := fun x => [x.1, .bool x.2]) (mk := fun cs => (cs.getD 0 undef, boolOf (ofV (cs.getD 1 undef)))) (ok := fun x => Leaf Try.prog w 32 x.1)
    Try.underlying24 (show Try.prog.cellsOf 36 = 2 by kernel_rfl) (by decide) (by kernel_rfl) (fun cs hcs => by
      obtain ⟨y, m, rfl, e1, l1⟩ := All2.cons_inv hcs
      obtain ⟨z, m', rfl, e2, l2⟩ := All2.cons_inv l1
      obtain rfl := All2.nil_inv l2
      obtain ⟨b, rfl⟩ := leaf_bool Try.underlying4 e2
      exact ⟨rfl, e1⟩) h
  have pts : ∀ v, Leaf Try.prog w 32 v → ∃ (len : Nat) (f : Nat → Pt), R w (fun _ => False) E0 (.sl len 2 (fun i => lst (ptL (f i)))) v ∧ len ≤ maxLen := fun v hv => by
    obtain ⟨len, f, hR, _, hlen⟩ := leaf_rows (k := .i64) (t := 3) 2 Try.underlying32 Try.underlying3 (by kernel_rfl) (by decide) (by kernel_rfl) hv
    exact ⟨len, fun i => ⟨f i 0, f i 1⟩, hR _ (fun i j hj => match j, hj with | 0, _ => rfl | 1, _ => rfl), hlen⟩
  have one : ∀ v, Leaf Try.prog w 32 v → oneCell v := fun v hv => by
    rcases leaf_slice Try.underlying32 hv with rfl | ⟨a, len, cap, rfl, _⟩ <;> exact rfl
  have ch : ∀ v : Value, ∃ r : Nat × (Nat → Pt), Leaf Try.prog w 32 v → R w (fun _ => False) E0 (.sl r.1 2 (fun i => lst (ptL (r.2 i)))) v ∧ r.1 ≤ maxLen := fun v => by
    by_cases hv : Leaf Try.prog w 32 v
    · obtain ⟨len, f, h⟩ := pts v hv
      exact ⟨(len, f), fun _ => h⟩
    · exact ⟨(0, fun _ => ⟨0, 0⟩), fun h => absurd h hv⟩
  obtain ⟨F, hF⟩ := Classical.axiomOfChoice ch
  refine ⟨⟨xs.length, fun i => ⟨(F (xs.getD i (undef, false)).1).1, (F (xs.getD i (undef, false)).1).2, (xs.getD i (undef, false)).2⟩⟩, R_sl (by decide) h3 (fun _ => id) fun i j hi hj => ?_, h5, fun i hi => ?_⟩
  · have e : xs.getD i (undef, false) = xs[i] := by rw [List.getD_eq_getElem?_getD, List.getElem?_eq_getElem hi]; rfl
    have hx := h4 xs[i] (List.getElem_mem hi)
    show ∃ u, _ ∧ _ ∧ R w _ E0 (lst (liL ⟨(F (xs.getD i (undef, false)).1).1, (F (xs.getD i (undef, false)).1).2, (xs.getD i (undef, false)).2⟩) j) u
    rw [e]
    match j, hj with
    | 0, _ => exact ⟨_, rfl, one _ hx, (hF _ hx).1⟩
    | 1, _ => exact ⟨_, rfl, rfl, .bool⟩
  · have hi : i < xs.length := hi
    have e : xs.getD i (undef, false) = xs[i] := by rw [List.getD_eq_getElem?_getD, List.getElem?_eq_getElem hi]; rfl
    have hx := h4 xs[i] (List.getElem_mem hi)
    show (F (xs.getD i (undef, false)).1).1 ≤ maxLen
    rw [e]
    exact (hF _ hx).2
end Go.Proofs.Ytfjbjbmbdadmhaa.Sx
