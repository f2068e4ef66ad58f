/- region.Check of any runs; the law RegionCellsBack: by the evaluation. -/
import Derived.Test.YtfjbjbmbdadmhaaItr
import Derived.Test.YtfjbjbmbdadmhaaPtr
set_option linter.unusedSimpArgs false
set_option linter.unusedVariables false
namespace Go.Proofs.Ytfjbjbmbdadmhaa.Rgk
open Go.RowKit Sx Num Aff Con Rga Rgl Rgm Rgn Rgo Itr
set_option maxRecDepth 100000
/-- What is wrong with run i. -/
def ckE (f : Nat → Rn) (i : Nat) : Int :=
  if ((-8192 ≤ (f i).y ∧ (f i).y < 8192) ∧ (-8192 ≤ (f i).x0 ∧ (f i).x0 ≤ 8192) ∧ -8192 ≤ (f i).x1 ∧ (f i).x1 ≤ 8192) then
    if (f i).x0 < (f i).x1 then
      if 0 < i ∧ (f i).y ≤ (f (i - 1)).y ∧ ((f i).y < (f (i - 1)).y ∨ (f i).x0 ≤ (f (i - 1)).x1) then 18 else 0
    else 4
  else 3
def ckF (f : Nat → Rn) : Nat → Nat → Int
  | 0, _ => 0
  | m + 1, i => if ckE f i = 0 then ckF f m (i + 1) else ckE f i
theorem ckE_zero {f : Nat → Rn} {i : Nat} (h : ckE f i = 0) : okR (f i) ∧ (0 < i → ltR (f (i - 1)) (f i)) := by
  unfold ckE at h
  split at h
  · next h1 =>
    split at h
    · next h2 =>
      split at h
      · exact absurd h (by decide)
      · next h3 =>
        refine ⟨⟨h1, h2⟩, fun h0 => ?_⟩
        unfold ltR
        refine Classical.byContradiction fun hc => h3 ⟨h0, by omega, by omega⟩
    · exact absurd h (by decide)
  · exact absurd h (by decide)
theorem ckF_zero {f : Nat → Rn} : ∀ {m i : Nat}, ckF f m i = 0 → ∀ j, i ≤ j → j < i + m → ckE f j = 0
  | 0, i, _, j, h1, h2 => by omega
  | m + 1, i, h, j, h1, h2 => by
    unfold ckF at h
    split at h
    · next he =>
      by_cases hj : j = i
      · rw [hj]; exact he
      · exact ckF_zero h j (by omega) (by omega)
    · next he => exact absurd h he
/-- Adjacent order is order. -/
theorem lt_all {f : Nat → Rn} {n : Nat} (ok : ∀ i, i < n → okR (f i)) (h : ∀ i, i + 1 < n → ltR (f i) (f (i + 1))) : ∀ j i, i < j → j < n → ltR (f i) (f j)
  | 0, i, hi, _ => absurd hi (Nat.not_lt_zero i)
  | j + 1, i, hi, hj => by
    have h1 := h j hj
    by_cases e : i = j
    · rw [e]; exact h1
    · have h2 := lt_all ok h j i (by omega) (by omega)
      have := (ok j (by omega)).2
      unfold ltR at *
      omega
theorem vld_f {g : Rg} (ok : ∀ i, i < g.n → okR (g.f i)) (h : ∀ i j, i < j → j < g.n → ltR (g.f i) (g.f j)) : vld g.L := by
  refine ⟨fun r hr => ?_, ?_⟩
  · obtain ⟨i, hi, rfl⟩ := List.mem_map.1 hr
    exact ok i (List.mem_range.1 hi)
  · rw [List.pairwise_iff_getElem]
    intro i j hi hj hij
    simp only [Rg.L, List.getElem_map, List.getElem_range]
    rw [Rg.len] at hj
    exact h i j hij hj
theorem ck_vld {g : Rg} (h : ckF g.f g.n 0 = 0) : vld g.L := by
  have h0 : ∀ j, j < g.n → ckE g.f j = 0 := fun j hj => ckF_zero h j (Nat.zero_le _) (by omega)
  refine vld_f (fun i hi => (ckE_zero (h0 i hi)).1) (fun i j hij hj => lt_all (fun i hi => (ckE_zero (h0 i hi)).1) (fun i hi => ?_) j i hij hj)
  exact (ckE_zero (h0 (i + 1) hi)).2 (Nat.succ_pos i)
def ckI (g : Rg) : Inv := ⟨Nat, fun i => i ≤ g.n ∧ ckF g.f (g.n - i) i = ckF g.f g.n 0, fun i => ⟨[(0, rgS g), (5, rgS g), (6, .int .i64 g.n), (7, .int .i64 i)], []⟩, fun i => g.n - i⟩
def spCheckA : FSpec := mkSpec 18 (γ := Rg) (fun | [s] => some ⟨slLen s, rgD s⟩ | _ => none) (fun g => [rgS g]) (fun g => g.n ≤ 9223372036854775807) (fun g => .int .i64 (ckF g.f g.n 0))
theorem ok_checkA : SpecOK Try.prog spCheckA := by
  refine spec_sound (specs := [spPermitted, spBorder]) (all_ok (⟨ok_permitted, ok_border, trivial⟩)) (eqs := []) (fun _ _ h => (List.not_mem_nil h).elim) Aff.mixed Try.func18 rfl (by kernel_rfl) (fun _ _ => by kernel_rfl) (fun g => (⟨[(2, .inv (ckI g))], []⟩ : Ann)) (fun g => Nat.le_of_ble_eq_true (by kernel_rfl)) ?_
  rintro g hg
  refine vc_of (B := let z12 := ((18 : Int) = ckF g.f g.n (0 : Nat));let z11 := (↑g.n : Int);let z9 := (1 : Int);let z8 := ((3 : Int) = ckF g.f g.n (0 : Nat));let z1 := (IntKind.i64 = IntKind.i64); let z6 := (Sx.Ask z1 ∧ Sx.Ask (z11 = z11));let z0 := (Sx.Ask (g.n = g.n) ∧ ∀ (i : Nat), i < g.n → ((True ∧ Sx.Ask z1 ∧ Sx.Ask ((g.f i).y = (g.f i).y)) ∧ Sx.Ask z1 ∧ Sx.Ask ((g.f i).x0 = (g.f i).x0)) ∧ Sx.Ask z1 ∧ Sx.Ask ((g.f i).x1 = (g.f i).x1));True ∧ True ∧ True ∧ True ∧ (∃ (g_1 : Nat), Sx.Ask ((ckI g).pre g_1) ∧ (z0 ∧ z0 ∧ z6 ∧ (Sx.Ask z1 ∧ Sx.Ask ((0 : Int) = (↑g_1 : Int))) ∧ True) ∧ True) ∧ ∀ (g_1 : Nat), let z2 := (↑g_1 : Int); let z10 := (g.f (z2 - z9).toNat); let z7 := ((0 : Int) ≤ z2 - z9 ∧ z2 - z9 < z11); let z5 := (g.f z2.toNat); let z4 := ((-9223372036854775808 : Int) ≤ z2 + z9 ∧ z2 + z9 ≤ (9223372036854775807 : Int)); let z3 := ((-9223372036854775808 : Int) ≤ z2 - z9 ∧ z2 - z9 ≤ (9223372036854775807 : Int)); (ckI g).pre g_1 → True ∧ Sx.Br (decide (z2 < z11)) (True ∧ Sx.Ask ((0 : Int) ≤ z2 ∧ z2 < z11) ∧ True ∧ True ∧ True ∧ True ∧ True ∧ True ∧ (((Sx.Ask z1 ∧ Sx.Ask (z5.y = z5.y)) ∧ True) ∧ Sx.Ask True) ∧ True ∧ True ∧ Sx.Br (!(decide ((-8192 : Int) ≤ z5.y) && decide (z5.y < (8192 : Int)))) (True ∧ True ∧ True ∧ True ∧ True ∧ Sx.Ask z1 ∧ Sx.Ask z8) (True ∧ True ∧ (((Sx.Ask z1 ∧ Sx.Ask (z5.x0 = z5.x0)) ∧ True) ∧ Sx.Ask True) ∧ True ∧ True ∧ True ∧ Sx.Br (!(decide ((-8192 : Int) ≤ z5.x0) && decide (z5.x0 ≤ (8192 : Int)))) (True ∧ True ∧ True ∧ Sx.Ask z1 ∧ Sx.Ask z8) (True ∧ True ∧ (((Sx.Ask z1 ∧ Sx.Ask (z5.x1 = z5.x1)) ∧ True) ∧ Sx.Ask True) ∧ True ∧ True ∧ Sx.Br (!(decide ((-8192 : Int) ≤ z5.x1) && decide (z5.x1 ≤ (8192 : Int)))) (True ∧ True ∧ Sx.Ask z1 ∧ Sx.Ask z8) (True ∧ True ∧ True ∧ True ∧ True ∧ Sx.Br (decide (z5.x1 ≤ z5.x0)) (True ∧ True ∧ Sx.Ask z1 ∧ Sx.Ask ((4 : Int) = ckF g.f g.n (0 : Nat))) (True ∧ True ∧ True ∧ Sx.Br (decide ((0 : Int) < z2)) (True ∧ True ∧ True ∧ True ∧ Sx.Ask z3 ∧ Sx.Ask z7 ∧ True ∧ True ∧ True ∧ True ∧ True ∧ Sx.Br (decide (z5.y ≤ z10.y)) (True ∧ True ∧ True ∧ True ∧ Sx.Ask z3 ∧ Sx.Ask z7 ∧ True ∧ True ∧ True ∧ True ∧ Sx.Br (decide (z5.y < z10.y)) (True ∧ True ∧ True ∧ True ∧ Sx.Ask z1 ∧ Sx.Ask z12) (True ∧ True ∧ True ∧ True ∧ Sx.Ask z3 ∧ Sx.Ask z7 ∧ True ∧ True ∧ True ∧ True ∧ True ∧ Sx.Br (decide (z5.x0 ≤ z10.x1)) (True ∧ True ∧ Sx.Ask z1 ∧ Sx.Ask z12) (Sx.Ask z4 ∧ True ∧ ∃ (g' : Nat), Sx.Ask ((ckI g).pre g') ∧ ((z0 ∧ z0 ∧ z6 ∧ (Sx.Ask z1 ∧ Sx.Ask (z2 + z9 = (↑g' : Int))) ∧ True) ∧ True) ∧ Sx.Ask ((ckI g).meas g' < (ckI g).meas g_1)))) (True ∧ Sx.Ask z4 ∧ True ∧ ∃ (g' : Nat), Sx.Ask ((ckI g).pre g') ∧ ((z0 ∧ z0 ∧ z6 ∧ (Sx.Ask z1 ∧ Sx.Ask (z2 + z9 = (↑g' : Int))) ∧ True) ∧ True) ∧ Sx.Ask ((ckI g).meas g' < (ckI g).meas g_1))) (True ∧ True ∧ True ∧ Sx.Ask z4 ∧ True ∧ ∃ (g' : Nat), Sx.Ask ((ckI g).pre g') ∧ ((z0 ∧ z0 ∧ z6 ∧ (Sx.Ask z1 ∧ Sx.Ask (z2 + z9 = (↑g' : Int))) ∧ True) ∧ True) ∧ Sx.Ask ((ckI g).meas g' < (ckI g).meas g_1))))))) (True ∧ True ∧ Sx.Ask z1 ∧ Sx.Ask ((0 : Int) = ckF g.f g.n (0 : Nat)))) (by kernel_rfl) ?_
  simp only [ask_iff, br_iff, eq_self, true_and, and_true, implies_true, forall_const, decide_eq_true_eq, decide_eq_false_iff_not, ne_eq, Nat.mul_one, Nat.add_zero, Nat.zero_add]
  have hg : g.n ≤ 9223372036854775807 := hg
  refine ⟨⟨0, ⟨Nat.zero_le _, rfl⟩, rfl⟩, fun i hi => ?_⟩
  obtain ⟨hi1, hi2⟩ : i ≤ g.n ∧ ckF g.f (g.n - i) i = ckF g.f g.n 0 := hi
  have e1 : ((i : Int)).toNat = i := rfl
  have e2 : ((i : Int) - 1).toNat = i - 1 := by omega
  rw [e1, e2]
  refine ⟨fun hlt => ?_, fun hlt => ?_⟩
  · have hin : i < g.n := by omega
    obtain ⟨m, hm⟩ : ∃ m, g.n - i = m + 1 := ⟨g.n - i - 1, by omega⟩
    rw [hm] at hi2
    have hi2 : (if ckE g.f i = 0 then ckF g.f m (i + 1) else ckE g.f i) = ckF g.f g.n 0 := hi2
    have bad : ∀ e : Int, ckE g.f i = e → e ≠ 0 → e = ckF g.f g.n 0 := fun e he h0 => by
      rw [if_neg (by rw [he]; exact h0)] at hi2
      rw [← hi2, he]
    have fin : ckE g.f i = 0 → (-9223372036854775808 ≤ (i : Int) + 1 ∧ (i : Int) + 1 ≤ 9223372036854775807) ∧ ∃ g' : Nat, (ckI g).pre g' ∧ (i : Int) + 1 = (g' : Int) ∧ (ckI g).meas g' < (ckI g).meas i := fun he => by
      rw [if_pos he] at hi2
      refine ⟨by omega, i + 1, ⟨hin, ?_⟩, rfl, ?_⟩
      · rw [show g.n - (i + 1) = m by omega]; exact hi2
      · show g.n - (i + 1) < g.n - i
        omega
    have q1 : -9223372036854775808 ≤ (i : Int) - 1 ∧ (i : Int) - 1 ≤ 9223372036854775807 := by omega
    have b1 : ∀ p q : Prop, [Decidable p] → [Decidable q] → ((!(decide p && decide q)) = true ↔ ¬ (p ∧ q)) := fun p q _ _ => by
      rw [Bool.not_eq_true', ← Bool.not_eq_true, Bool.and_eq_true, decide_eq_true_eq, decide_eq_true_eq]
    have b2 : ∀ p q : Prop, [Decidable p] → [Decidable q] → ((!(decide p && decide q)) = false ↔ (p ∧ q)) := fun p q _ _ => by
      rw [Bool.not_eq_false', Bool.and_eq_true, decide_eq_true_eq, decide_eq_true_eq]
    simp only [b1, b2]
    have no : ¬ ((-8192 ≤ (g.f i).y ∧ (g.f i).y < 8192) ∧ (-8192 ≤ (g.f i).x0 ∧ (g.f i).x0 ≤ 8192) ∧ -8192 ≤ (g.f i).x1 ∧ (g.f i).x1 ≤ 8192) → 3 = ckF g.f g.n 0 := fun h => bad 3 (by unfold ckE; rw [if_neg h]) (by decide)
    refine ⟨by omega, fun h => no (fun h' => h h'.1), fun a1 => ⟨fun h => no (fun h' => h h'.2.1), fun a2 => ⟨fun h => no (fun h' => h h'.2.2), fun a3 => ⟨fun h => bad 4 (by unfold ckE; rw [if_pos ⟨a1, a2, a3⟩, if_neg (by omega)]) (by decide), fun a4 => ⟨fun h0 => ?_, fun h0 => fin (by unfold ckE; rw [if_pos ⟨a1, a2, a3⟩, if_pos (by omega), if_neg (by omega)])⟩⟩⟩⟩⟩
    have q2 : 0 ≤ (i : Int) - 1 ∧ (i : Int) - 1 < (g.n : Int) := by omega
    have h0' : 0 < i := by omega
    refine ⟨q1, q2, fun hy => ⟨q1, q2, fun hz => bad 18 (by unfold ckE; rw [if_pos ⟨a1, a2, a3⟩, if_pos (by omega), if_pos ⟨h0', hy, .inl hz⟩]) (by decide), fun hz => ⟨q1, q2, fun hx => bad 18 (by unfold ckE; rw [if_pos ⟨a1, a2, a3⟩, if_pos (by omega), if_pos ⟨h0', hy, .inr hx⟩]) (by decide), fun hx => fin (by unfold ckE; rw [if_pos ⟨a1, a2, a3⟩, if_pos (by omega), if_neg (fun h => h.2.2.elim hz hx)])⟩⟩, fun hy => fin (by unfold ckE; rw [if_pos ⟨a1, a2, a3⟩, if_pos (by omega), if_neg (fun h => hy h.2.1)])⟩
  · rw [show g.n - i = 0 by omega] at hi2
    exact hi2
/-! RegionCellsBack. -/
theorem cell_ok {g : Rg} (h : vld g.L) {i : Nat} (hi : i < off g.f g.n) : Rgh.okPt (cellG g i) := by
  obtain ⟨m, k, h1, h2, rfl⟩ := cellF_split g.f hi
  obtain ⟨⟨⟨b1, b2⟩, ⟨b3, b4⟩, b5, b6⟩, b7⟩ := ok_of h h1
  unfold cellG
  rw [cellF_at g.f h1 h2]
  unfold wd at h2
  show (-8192 ≤ (g.f m).x0 + (k : Int) ∧ (g.f m).x0 + (k : Int) < 8192) ∧ -8192 ≤ (g.f m).y ∧ (g.f m).y < 8192
  omega
theorem cell_mem {g : Rg} {y x : Int} : mem g.L y x = true ↔ ∃ i, i < off g.f g.n ∧ (cellG g i).y = y ∧ (cellG g i).x = x := by
  rw [mem_g]
  constructor
  · rintro ⟨m, hm, h1, h2, h3⟩
    have hk : (x - (g.f m).x0).toNat < wd (g.f m) := by unfold wd; omega
    have e1 := off_mono g.f (show m + 1 ≤ g.n by omega)
    have e2 : off g.f (m + 1) = off g.f m + wd (g.f m) := rfl
    refine ⟨off g.f m + (x - (g.f m).x0).toNat, by omega, ?_⟩
    unfold cellG
    rw [cellF_at g.f hm hk]
    exact ⟨h1, by show (g.f m).x0 + (((x - (g.f m).x0).toNat : Nat) : Int) = x; omega⟩
  · rintro ⟨i, hi, h1, h2⟩
    obtain ⟨m, k, a1, a2, rfl⟩ := cellF_split g.f hi
    unfold cellG at h1 h2
    rw [cellF_at g.f a1 a2] at h1 h2
    have h1 : (g.f m).y = y := h1
    have h2 : (g.f m).x0 + (k : Int) = x := h2
    unfold wd at a2
    exact ⟨m, a1, h1, by omega, by omega⟩
/-- The region of its cells, in whatever order. -/
theorem cells_back {g : Rg} (h : vld g.L) : Rgg.joOut (Rgh.PoG.r ⟨off g.f g.n, fun i => cellG g (off g.f g.n - 1 - i)⟩) = g.L := by
  refine uniq _ _ (ofSet_vld _) h (fun y x => ?_)
  rw [Rgo.jo_mem (fun i hi => Rgh.okR_pt (cell_ok h (by have hi : i < off g.f g.n := hi; omega))), Bool.eq_iff_iff, mem_g, cell_mem]
  constructor
  · rintro ⟨i, hi, h1, h2, h3⟩
    have hi : i < off g.f g.n := hi
    have h1 : (cellG g (off g.f g.n - 1 - i)).y = y := h1
    have h2 : (cellG g (off g.f g.n - 1 - i)).x ≤ x := h2
    have h3 : x < (cellG g (off g.f g.n - 1 - i)).x + 1 := h3
    exact ⟨off g.f g.n - 1 - i, by omega, h1, by omega⟩
  · rintro ⟨i, hi, h1, h2⟩
    refine ⟨off g.f g.n - 1 - i, (show off g.f g.n - 1 - i < off g.f g.n by omega), ?_⟩
    show (cellG g (off g.f g.n - 1 - (off g.f g.n - 1 - i))).y = y ∧ (cellG g (off g.f g.n - 1 - (off g.f g.n - 1 - i))).x ≤ x ∧ x < (cellG g (off g.f g.n - 1 - (off g.f g.n - 1 - i))).x + 1
    rw [show off g.f g.n - 1 - (off g.f g.n - 1 - i) = i by omega]
    exact ⟨h1, by omega, by omega⟩
def cbSt (g : Rg) (i : Nat) : List SO := [.cells 1 (lst [.lit false]) 4, .cells 1 (lst [.osl 2 0]) 32, .row 0 i 2 (fun k => lst (ptL (cellG g k))) 34]
noncomputable def spCellsBack : FSpec := mkSpec 4 (γ := Rg) (fun | [s] => some ⟨slLen s, rgD s⟩ | _ => none) (fun g => [rgS g]) (fun g => g.n ≤ 9223372036854775807) (fun _ => .bool true)
theorem ok_cellsBack : SpecOK Try.prog spCellsBack := by
  refine spec_sound (specs := [Rgd.spUnites, spCheckA, spCells, Ptr.spRevP, giv Rgh.spOf, Rgc.spEqR]) (all_ok (⟨Rgd.ok_unites, ok_checkA, ok_cells, Ptr.ok_revP, giv_ok Rgh.ok_of, Rgc.ok_eqR, trivial⟩)) (eqs := []) (fun _ _ h => (List.not_mem_nil h).elim) Aff.mixed Try.func4 rfl (by kernel_rfl) (fun _ _ => by kernel_rfl) (fun g => (⟨[(7, .iter isCells (fun i => i ≤ 20001) (cbSt g) (fun _ => []))], [(6, [.ownC 1 0 34 2])]⟩ : Ann)) (fun g => Nat.le_of_ble_eq_true (by kernel_rfl)) ?_
  rintro g hg
  refine vc_of (B := let z10 := (1 : Nat);let z8 := (0 : Nat);let z7 := (True ∧ True); let z12 := (True ∧ True ∧ z7 ∧ Sx.Ask (true = true));let z6 := (ckF g.f g.n z8 ≠ (0 : Int));let z5 := ((40 : Int) < (↑g.n : Int));let z3 := (IntKind.i64 = IntKind.i64);let z1 := (Rgg.joOut (Rgh.PoG.mk (Itr.off g.f g.n) fun (i : Nat) => Itr.cellG g (Itr.off g.f g.n - z10 - i)).r);let z0 := (Sx.Ask (g.n = g.n) ∧ ∀ (i : Nat), i < g.n → ((True ∧ Sx.Ask z3 ∧ Sx.Ask ((g.f i).y = (g.f i).y)) ∧ Sx.Ask z3 ∧ Sx.Ask ((g.f i).x0 = (g.f i).x0)) ∧ Sx.Ask z3 ∧ Sx.Ask ((g.f i).x1 = (g.f i).x1)); let z2 := ((Sx.Ask ((47 : Go.FuncId) = (47 : Go.FuncId)) ∧ True ∧ True ∧ Sx.Ask (g.n = g.n) ∧ ∀ (i : Nat), i < g.n → ((True ∧ Sx.Ask z3 ∧ Sx.Ask ((g.f i).y = (g.f i).y)) ∧ Sx.Ask z3 ∧ Sx.Ask ((g.f i).x0 = (g.f i).x0)) ∧ Sx.Ask z3 ∧ Sx.Ask ((g.f i).x1 = (g.f i).x1)) ∧ z0 ∧ Sx.Ask (z8 = z8) ∧ Sx.Ask (decide z5 = decide z5) ∧ Sx.Ask (decide z5 = decide z5) ∧ (Sx.Ask z3 ∧ Sx.Ask ((↑g.n : Int) = (↑g.n : Int))) ∧ z0 ∧ Sx.Ask (false = false) ∧ Sx.Ask (decide z6 = decide z6) ∧ (Sx.Ask z3 ∧ Sx.Ask (ckF g.f g.n z8 = ckF g.f g.n z8)) ∧ z0 ∧ Sx.Ask ((!true) = !true) ∧ Sx.Ask (true = true) ∧ Sx.Ask (z8 = z8) ∧ z0 ∧ True);True ∧ (True ∧ Sx.Ask True) ∧ True ∧ True ∧ ((z0 ∧ True) ∧ Sx.Ask (g.n ≤ (9223372036854775807 : Nat))) ∧ True ∧ True ∧ Sx.Br (decide z6) z12 (True ∧ True ∧ True ∧ True ∧ Sx.Br (decide z5) (True ∧ z7 ∧ Sx.Ask (true = true)) (True ∧ True ∧ ((z0 ∧ True) ∧ Sx.Ask True) ∧ Sx.ItOK Go.Proofs.Try.prog Itr.isCells ∧ (((True ∧ Sx.Ask (g.n = g.n) ∧ ∀ (i : Nat), i < g.n → ((True ∧ Sx.Ask z3 ∧ Sx.Ask ((g.f i).y = (g.f i).y)) ∧ Sx.Ask z3 ∧ Sx.Ask ((g.f i).x0 = (g.f i).x0)) ∧ Sx.Ask z3 ∧ Sx.Ask ((g.f i).x1 = (g.f i).x1)) ∧ True) ∧ Sx.Ask (Rga.vld g.L)) ∧ (Sx.Ask (z8 ≤ (20001 : Nat)) ∧ z2 ∧ (True ∧ Sx.Ask (false = false)) ∧ z7 ∧ (Sx.Ask (z8 = z8) ∧ ∀ (i : Nat), i < z8 → (True ∧ False) ∧ False) ∧ True) ∧ (∀ (i : Nat), i < Itr.off g.f g.n → i ≤ (20001 : Nat) → True ∧ True ∧ True ∧ True ∧ True ∧ Sx.Br (decide ((20000 : Int) < (↑i : Int))) z12 (True ∧ True ∧ True ∧ Sx.Ask (i + z10 ≤ (9223372036854775807 : Nat) ∧ (i + z10) * (16 : Nat) ≤ (140737488355328 : Nat)) ∧ True ∧ True ∧ Sx.Ask (i + z10 ≤ (20001 : Nat)) ∧ z2 ∧ (True ∧ Sx.Ask (false = false)) ∧ z7 ∧ (Sx.Ask (i + z10 = i + z10) ∧ ∀ (i_1 : Nat), let z11 := (Itr.cellG g i_1); i_1 < i + z10 → (True ∧ Sx.Ask z3 ∧ Sx.Ask ((bif decide (i_1 < i) then z11.x else (Itr.cellG g i).x) = z11.x)) ∧ Sx.Ask z3 ∧ Sx.Ask ((bif decide (i_1 < i) then z11.y else (Itr.cellG g i).y) = z11.y)) ∧ True)) ∧ (Itr.off g.f g.n ≤ (20001 : Nat) → True ∧ ((True ∧ z7 ∧ (Sx.Ask (Itr.off g.f g.n = Itr.off g.f g.n) ∧ ∀ (i : Nat), let z13 := (Itr.cellG g i); i < Itr.off g.f g.n → (True ∧ Sx.Ask z3 ∧ Sx.Ask (z13.x = z13.x)) ∧ Sx.Ask z3 ∧ Sx.Ask (z13.y = z13.y)) ∧ True) ∧ Sx.Ask (Itr.off g.f g.n ≤ (4294967296 : Nat))) ∧ True ∧ (((Sx.Ask (Itr.off g.f g.n = Itr.off g.f g.n) ∧ ∀ (i : Nat), let z4 := (Itr.cellG g (Itr.off g.f g.n - z10 - i)); i < Itr.off g.f g.n → (True ∧ Sx.Ask z3 ∧ Sx.Ask (z4.x = z4.x)) ∧ Sx.Ask z3 ∧ Sx.Ask (z4.y = z4.y)) ∧ True) ∧ Sx.Ask ((∀ (i : Nat), i < Itr.off g.f g.n → Rgh.okPt (Itr.cellG g (Itr.off g.f g.n - z10 - i))) ∧ Itr.off g.f g.n ≤ (1000000 : Nat))) ∧ True ∧ True ∧ True ∧ True ∧ True ∧ True ∧ True ∧ True ∧ True ∧ True ∧ (((Sx.Ask (z1.length = z1.length) ∧ ∀ (i : Nat), let z9 := (Rga.rI z1 i); i < z1.length → ((True ∧ Sx.Ask z3 ∧ Sx.Ask (z9.y = z9.y)) ∧ Sx.Ask z3 ∧ Sx.Ask (z9.x0 = z9.x0)) ∧ Sx.Ask z3 ∧ Sx.Ask (z9.x1 = z9.x1)) ∧ z0 ∧ True) ∧ Sx.Ask (Rgc.EqG.mk (Rga.Rg.mk z1.length (Rga.rI z1)) g).ok) ∧ True ∧ True ∧ z7 ∧ Sx.Ask (true = true))))) (by kernel_rfl) ?_
  simp only [ask_iff, br_iff, eq_self, true_and, and_true, implies_true, forall_const, decide_eq_true_eq, decide_eq_false_iff_not, ne_eq, Nat.mul_one, Nat.add_zero, Nat.zero_add]
  refine ⟨hg, fun hc h40 => ?_⟩
  have hv : vld g.L := ck_vld (Classical.byContradiction hc)
  have e := cells_back hv
  refine ⟨it_cells, hv, ⟨by decide, fun i hi => absurd hi (Nat.not_lt_zero i)⟩, fun i hi hle hle2 => ⟨by omega, by omega, fun k hk => ?_⟩, fun hle => ⟨by omega, ⟨fun i hi => cell_ok hv (by omega), by omega⟩, ?_⟩⟩
  · by_cases c : k < i
    · rw [decide_eq_true c]; exact ⟨rfl, rfl⟩
    · rw [decide_eq_false c, show k = i by omega]; exact ⟨rfl, rfl⟩
  · exact ⟨by show vld (Rg.L ⟨_, rI _⟩); rw [Rg.L_of]; exact ofSet_vld _, (Rg.L_of _).trans e⟩
end Go.Proofs.Ytfjbjbmbdadmhaa.Rgk
