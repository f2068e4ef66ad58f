/- A law's parameters that are slices of arrays or structs of integers of one kind. -/
import Derived.Test.YthappngbapbkfaaDoorFrame
import Derived.Test.YthappngbapbkfaaDoorSxx
set_option linter.unusedSimpArgs false
set_option linter.unusedVariables false
namespace Go.Proofs.YthappngbapbkfaaDoor.Sx
open Go.RowKit
theorem R_sl {α : Type} {c : α → List Value} {sz : Nat} {w : World} {X : Nat → Prop} {v : Value} {xs : List α} {g : Nat → Nat → SV} (hsz : 0 < sz) (h : Sl c sz w v xs) (hX : ∀ b, ¬ X b)
    (hR : ∀ i j (hi : i < xs.length), j < sz → ∃ u, (c xs[i])[j]? = some u ∧ oneCell u ∧ R w X E0 (g i j) u) : R w X E0 (.sl xs.length sz g) v := by
  obtain ⟨p, cap, rfl, h1, h2, h3⟩ := h
  by_cases h0 : xs = []
  · subst h0; exact .sl0
  rcases h3 with h3 | ⟨b, off, rfl, hcell⟩
  · exact absurd h3 h0
  have hpos : 0 < xs.length := List.length_pos_iff.2 h0
  obtain ⟨u0, hu0, _⟩ := hR 0 0 hpos hsz
  have hcell0 := (hcell 0 0 hpos hsz).trans hu0
  cases hb : w.heap[b]? with
  | none => simp [World.cell?, hb] at hcell0
  | some o =>
    cases o <;> simp only [World.cell?, hb, reduceCtorEq] at hcell0 <;> try (simp at hcell0; done)
    rename_i cc T fr
    have hget : ∀ i j (hi : i < xs.length), j < sz → off + i * sz + j < cc.size ∧ ∃ u, cc.getD (off + i * sz + j) undef = u ∧ oneCell u ∧ R w X E0 (g i j) u := by
      intro i j hi hj
      obtain ⟨u, hu1, hu2, hu3⟩ := hR i j hi hj
      have h4 := (hcell i j hi hj).trans hu1
      simp only [World.cell?, hb, Option.isSome_none, Bool.false_eq_true, if_false] at h4
      have hlt : off + i * sz + j < cc.size := by
        refine Classical.byContradiction fun hc => ?_
        rw [Array.getElem?_eq_none (Nat.not_lt.1 hc)] at h4
        cases h4
      refine ⟨hlt, u, ?_, hu2, hu3⟩
      rw [Array.getD_eq_getD_getElem?, h4]
      rfl
    have hlast := (hget (xs.length - 1) (sz - 1) (by omega) (by omega)).1
    have e1 : (xs.length - 1) * sz + sz = xs.length * sz := by
      obtain ⟨m, hm⟩ : ∃ m, xs.length = m + 1 := ⟨xs.length - 1, by omega⟩
      rw [hm, Nat.add_sub_cancel, Nat.succ_mul]
    refine .sl hb (hX b) (by omega) h1 (fun i j hi hj => ?_) fun i j hi hj => ?_
    · obtain ⟨_, u, hu, hu2, _⟩ := hget i j hi hj
      rw [hu]; exact hu2
    · obtain ⟨_, u, hu, _, hu3⟩ := hget i j hi hj
      rw [hu]; exact hu3
theorem leafs_ints {P : Program} {w : World} {t : TypeId} {k : IntKind} (ht : P.underlying t = some (.int k)) : ∀ (n : Nat) (cs : List Value), All2 (Leaf P w) (List.replicate n t) cs →
    (cs.map fun v => intOf (ofV v)).map (Value.int k) = cs ∧ (cs.map fun v => intOf (ofV v)).length = n ∧ ∀ x ∈ cs.map fun v => intOf (ofV v), (Lit.int k x).wf = true
  | 0, cs, h => by
    obtain rfl := All2.nil_inv h
    exact ⟨rfl, rfl, fun x hx => absurd hx (by simp)⟩
  | n + 1, cs, h => by
    obtain ⟨y, m, rfl, e1, l1⟩ := All2.cons_inv h
    obtain ⟨z, rfl, hw⟩ := leaf_int ht e1
    obtain ⟨h1, h2, h3⟩ := leafs_ints ht n m l1
    refine ⟨?_, by simp only [List.map_cons, List.length_cons]; rw [h2], fun x hx => ?_⟩
    · simp only [List.map_cons]
      rw [h1]
      rfl
    · simp only [List.map_cons, List.mem_cons] at hx
      rcases hx with rfl | hx
      · exact hw
      · exact h3 x hx
/-- A slice whose elements are n integers of one kind each. -/
theorem leaf_rows {P : Program} {w : World} {T e t : TypeId} {v : Value} {k : IntKind} (n : Nat) (hu : P.underlying T = some (.slice e)) (ht : P.underlying t = some (.int k)) (hk : P.cellsOf e = n) (hn : 0 < n)
    (hl : leaves P 20 e = some (List.replicate n t)) (h : Leaf P w T v) :
    ∃ (len : Nat) (f : Nat → Nat → Int), (∀ g : Nat → Nat → SV, (∀ i j, j < n → g i j = .int k (f i j)) → R w (fun _ => False) E0 (.sl len n g) v) ∧ (∀ i j, i < len → j < n → (Lit.int k (f i j)).wf = true) ∧ len ≤ maxLen := by
  obtain ⟨xs, h3, h4, h5⟩ := sl_of_leaf (c := fun l : List Int => l.map (Value.int k)) (mk := fun cs => cs.map fun v => intOf (ofV v)) (ok := fun l => l.length = n ∧ ∀ x ∈ l, (Lit.int k x).wf = true) hu hk hn hl (fun cs hcs => leafs_ints ht n cs hcs) h
  have hx : ∀ i (hi : i < xs.length) j, j < n → ∃ hj : j < (xs[i]).length, (xs.getD i []).getD j 0 = (xs[i])[j] := fun i hi j hj => by
    have hl := (h4 xs[i] (List.getElem_mem hi)).1
    refine ⟨by omega, ?_⟩
    have e1 : xs.getD i [] = xs[i] := by rw [List.getD_eq_getElem?_getD, List.getElem?_eq_getElem hi]; rfl
    rw [e1, List.getD_eq_getElem?_getD, List.getElem?_eq_getElem (by omega)]
    rfl
  refine ⟨xs.length, fun i j => (xs.getD i []).getD j 0, fun g hg => R_sl hn h3 (fun _ => id) fun i j hi hj => ?_, fun i j hi hj => ?_, h5⟩
  · obtain ⟨hj', he⟩ := hx i hi j hj
    refine ⟨.int k (xs[i])[j], by simp [hj'], rfl, ?_⟩
    rw [hg i j hj]
    show R w _ E0 (.int k ((xs.getD i []).getD j 0)) _
    rw [he]
    exact .int
  · obtain ⟨hj', he⟩ := hx i hi j hj
    show (Lit.int k ((xs.getD i []).getD j 0)).wf = true
    rw [he]
    exact (h4 xs[i] (List.getElem_mem hi)).2 _ (List.getElem_mem hj')
end Go.Proofs.YthappngbapbkfaaDoor.Sx
