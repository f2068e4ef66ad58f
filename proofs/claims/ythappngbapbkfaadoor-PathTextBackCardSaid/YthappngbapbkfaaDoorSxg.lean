/- A fact about the world that outlasts what a call may turn: contracts that lean on package-level variables. -/
import Derived.Test.YthappngbapbkfaaDoorSxz
namespace Go.Proofs.YthappngbapbkfaaDoor.Sx
open Go.RowKit
/-- K, whatever is done but to what is there. -/
def sure (K : World → Prop) : World → Fr → Prop := fun w X => ∀ w', Bel X.d w w' → K w'
theorem Bel.then {D D' : Nat → Prop} {a b c : World} (h : Bel D a b) (k : Bel D' b c) (hd : ∀ i, i < a.heap.size → ¬ D i → ¬ D' i) : Bel D a c :=
  ⟨k.os.trans h.os, k.tape.trans h.tape, k.output.trans h.output, Nat.le_trans h.size k.size, fun i hi hn => (k.block i (Nat.lt_of_lt_of_le hi h.size) (hd i hi hn)).trans (h.block i hi hn)⟩
theorem sure_ok (K : World → Prop) : GOK (sure K) := ⟨fun h hr w' hb => h w' (hr.below.then hb fun _ _ _ hc => hc)⟩
theorem sure_okM (K : World → Prop) {w0 X0 H E w ks} (h : sure K w0 X0) (hr : Rep w0 X0 H E w) : sure K w (smlF X0 H E ks) := fun w' hb => h w' (hr.below.then hb fun i hi hn hc => by
  obtain ⟨k, _, e, he, hh⟩ := hc
  rcases hr.low k e i he hh with h1 | h1
  · omega
  · exact hn h1)
theorem sure.here {K : World → Prop} {w : World} {X : Fr} (h : sure K w X) : K w := h w (Bel.refl _ _)
/-- At a law's entry. -/
theorem sure_of {K : World → Prop} {w : World} {X : Nat → Prop} (h : ∀ w', Below w.heap.size w w' → K w') : sure K w (Fr.of X) := fun w' hb => h w' hb.all
end Go.Proofs.YthappngbapbkfaaDoor.Sx
