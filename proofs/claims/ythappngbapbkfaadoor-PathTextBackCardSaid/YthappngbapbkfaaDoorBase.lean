/- Small lemmas that all walks of this seat use: ends of calls, worlds that have only grown. -/
import Derived.WalkKit
import Derived.WalkSpells
import Derived.WalkLawsBesides
import Derived.Handy
import Derived.Lib.Hide
import Derived.Deep.RegionWith
import Derived.Deep.RegionHeld3
import Derived.Deep.QuietTactic
import Derived.BigQuiet
import Derived.StillTailTactics
namespace Go.Proofs.YthappngbapbkfaaDoor
open Go.RowKit
theorem ret_int {k : IntKind} {a b : Int} (h : a = b) : Ending.returned (.int k a) = .returned (.int k b) := by rw [h]
theorem ret_int2 {k : IntKind} {a b : Int} {v : Value} (h : a = b) : Ending.returned (.tuple #[.int k a, v]) = .returned (.tuple #[.int k b, v]) := by rw [h]
theorem ret_bool {a b : Bool} (h : a = b) : Ending.returned (.bool a) = .returned (.bool b) := by rw [h]
theorem getD_mem {α : Type} {zs : List α} {d : α} {k : Nat} (h : k < zs.length) : zs.getD k d ∈ zs := by simp [List.getD, h]
theorem gtrans {a b c : World} (h : Grown a b) (k : Grown b c) : Grown a c :=
  ⟨World.keptBut_trans h.1 (World.keptBut_mono (fun _ f => f.elim) k.1), fun x => (k.2.1 x).trans (h.2.1 x), Nat.le_trans h.2.2 k.2.2⟩
theorem gdrewN {a w : World} (h : Grown a w) (n : Nat) : Grown a (w.drewN n) := h
theorem cell_lt {w : World} {b off : Nat} {s : Option Nat} {v : Value} (h : w.cell? ⟨b, off, s⟩ = some v) : b < w.heap.size ∧ s = none := by
  unfold World.cell? at h
  refine ⟨?_, ?_⟩
  · refine Nat.not_le.1 fun hc => ?_
    rw [Array.getElem?_eq_none hc] at h
    exact absurd h (by simp)
  · split at h
    · split at h
      · exact absurd h (by simp)
      · cases s <;> simp_all
    · exact absurd h (by simp)
theorem gcell {a w : World} (h : Grown a w) {p : Addr} {v : Value} (hc : a.cell? p = some v) : w.cell? p = some v := by
  obtain ⟨b, off, s⟩ := p
  obtain ⟨h1, rfl⟩ := cell_lt hc
  rw [World.keptBut.cell h.1 h1 (fun f => f), hc]
theorem cell_set_ne {w : World} {b o b' o' : Nat} {v : Value} (h : b ≠ b' ∨ o ≠ o') : (w.setCell ⟨b, o, none⟩ v).cell? ⟨b', o', none⟩ = w.cell? ⟨b', o', none⟩ :=
  World.cell?_setCell_other _ _ _ _ (by intro e; simp only [Addr.mk.injEq] at e; omega)
theorem cell_set_eq {w : World} {a : Addr} {u v : Value} (h : w.cell? a = some u) : (w.setCell a v).cell? a = some v := World.cell?_setCell_same _ _ _ h
theorem bdrewN {B : Nat} {a w : World} (h : Below B a w) (n : Nat) : Below B a (w.drewN n) := ⟨h.os, h.tape, h.output, h.size, h.block⟩
end Go.Proofs.YthappngbapbkfaaDoor
