/- Package flat: some, Painted, Ink: by the evaluation. -/
import Derived.Test.YtbkgncikjhibiaaApt
import Derived.Test.YtbkgncikjhibiaaRgg
set_option linter.unusedSimpArgs false
set_option linter.unusedVariables false
namespace Go.Proofs.Ytbkgncikjhibiaa.Som
open Go.RowKit Sx Num Aff Con Rga Rgl Rgm Rgn Rgc Gat Gar Ows Apl Apt
set_option maxRecDepth 100000
/-! The functions that select. -/
def spP1 : FSpec := mkSpec 28 (γ := Vec) (fun | [s] => some (vcD s) | _ => none) (fun v => [vcS v]) (fun _ => True) (fun _ => .lit true)
theorem ok_P1 : SpecOK Try.prog spP1 := by
  refine spec_sound (specs := []) (all_ok trivial) (eqs := []) (fun _ _ h => (List.not_mem_nil h).elim) Aff.mixed Try.func28 rfl (by kernel_rfl) (fun _ _ => by kernel_rfl) (fun g => A0) (fun g => Nat.le_of_ble_eq_true (by kernel_rfl)) ?_
  rintro v _
  refine vc_of (B := True ∧ True ∧ True ∧ True ∧ Sx.Ask (true = true)) (by kernel_rfl) ?_
  simp only [ask_iff, br_iff, eq_self, true_and, and_true, implies_true, forall_const, decide_eq_true_eq, decide_eq_false_iff_not, ne_eq, Nat.mul_one, Nat.add_zero, Nat.zero_add, Int.toNat_natCast, Bool.or_false]
/-- So much of an ink. -/
structure InG where
  ink : Nat
  least : Int
def inF (h : InG) : SV := .fn 27 2 (lst [.ref 1 (lst [.int .i64 h.ink]), .ref 1 (lst [.int .i64 h.least])])
def has (h : InG) (v : Vec) : Bool := decide (h.least ≤ v h.ink)
def spI1 : FSpec := mkSpec 27 (γ := InG × Vec) (fun | [s, .ref _ a, .ref _ b] => some (⟨(Sx.intOf (a 0)).toNat, Sx.intOf (b 0)⟩, vcD s) | _ => none)
  (fun g => [vcS g.2, .ref 1 (lst [.int .i64 g.1.ink]), .ref 1 (lst [.int .i64 g.1.least])]) (fun g => g.1.ink < 8 ∧ 0 ≤ g.2 g.1.ink ∧ g.2 g.1.ink ≤ 255) (fun g => .bool (has g.1 g.2))
theorem ok_I1 : SpecOK Try.prog spI1 := by
  refine spec_sound (specs := []) (all_ok trivial) (eqs := []) (fun _ _ h => (List.not_mem_nil h).elim) Aff.mixed Try.func27 rfl (by kernel_rfl) (fun _ _ => by kernel_rfl) (fun g => A0) (fun g => Nat.le_of_ble_eq_true (by kernel_rfl)) ?_
  rintro ⟨h, v⟩ hh
  refine vc_of (B := let z0 := ((0 : Nat) + (↑h.ink : Int).toNat * (1 : Nat));True ∧ True ∧ True ∧ Sx.Ask ((0 : Int) ≤ (↑h.ink : Int) ∧ (↑h.ink : Int) < (↑(8 : Nat) : Int)) ∧ Sx.Br (decide ((0 : Nat) + (↑h.ink : Int).toNat * (1 : Nat) + (1 : Nat) ≤ (8 : Nat))) True False ∧ Sx.Ask ((-9223372036854775808 : Int) ≤ v z0 ∧ v z0 ≤ (9223372036854775807 : Int)) ∧ True ∧ True ∧ True ∧ True ∧ Sx.Ask (decide (h.least ≤ v z0) = has h v)) (by kernel_rfl) ?_
  simp only [ask_iff, br_iff, eq_self, true_and, and_true, implies_true, forall_const, decide_eq_true_eq, decide_eq_false_iff_not, ne_eq, Nat.mul_one, Nat.add_zero, Nat.zero_add, Int.toNat_natCast, Bool.or_false]
  have hh : h.ink < 8 ∧ 0 ≤ v h.ink ∧ v h.ink ≤ 255 := hh
  exact ⟨by omega, fun hc => by omega, by omega, rfl⟩
/-! some. -/
/-- The runs of the selected pieces among the first k. -/
def sel (b : Vec → Bool) (P : Pcs) : Nat → List Rn
  | 0 => []
  | k + 1 => if b (P.ink k) = true then sel b P k ++ Lf (P.p k) (P.m k) else sel b P k
def rowR (n : Nat) (f : Nat → Rn) : SO := .row 0 n 3 (fun i => lst (rnL (f i))) 43
structure SmOk (b : Vec → Bool) (P : Pcs) : Prop where
  ok : ∀ r ∈ sel b P P.n, okR r
  tot : ∀ k, k ≤ P.n → (sel b P k).length ≤ 100000000
  n : P.n ≤ 4096
def smI (F : SV) (b : Vec → Bool) (P : Pcs) : Inv := ⟨Nat, fun k => k ≤ P.n, fun k => ⟨[(1, F), (5, .osl 0 0), (8, pcS P), (9, .int .i64 P.n), (10, .int .i64 k)], [rowR (sel b P k).length (rI (sel b P k))]⟩, fun k => P.n - k⟩
noncomputable def smR (b : Vec → Bool) (P : Pcs) : List Rn := Rgg.joOut ⟨(sel b P P.n).length, rI (sel b P P.n)⟩
def P1F : SV := .fn 28 0 (lst [])
noncomputable def spSomP : FSpec := mkSpec 26 (γ := Pcs) (fun | [s, _] => some (pcD s) | _ => none) (fun P => [pcS P, P1F]) (fun P => SmOk (fun _ => true) P) (fun P => runsS (smR (fun _ => true) P))
theorem sel_step {b : Vec → Bool} {P : Pcs} {k : Nat} (hb : b (P.ink k) = true) : sel b P (k + 1) = sel b P k ++ Lf (P.p k) (P.m k) := by show (if _ then _ else _) = _; rw [if_pos hb]
theorem sel_skip {b : Vec → Bool} {P : Pcs} {k : Nat} (hb : ¬ b (P.ink k) = true) : sel b P (k + 1) = sel b P k := by show (if _ then _ else _) = _; rw [if_neg hb]
theorem rI_apps (L : List Rn) (f : Nat → Rn) (n i : Nat) (hi : i < (L ++ Lf f n).length) : rI (L ++ Lf f n) i = bif decide (i < L.length) then rI L i else f (i - L.length) := by
  rw [List.length_append, Lf_len] at hi
  unfold rI
  rw [List.getD_eq_getElem?_getD, List.getD_eq_getElem?_getD]
  by_cases h : i < L.length
  · rw [decide_eq_true h, List.getElem?_append_left h]; rfl
  · rw [decide_eq_false h, List.getElem?_append_right (by omega)]
    have := Lf_get f (n := n) (i := i - L.length) (by omega)
    unfold rI at this
    rw [List.getD_eq_getElem?_getD] at this
    exact this
theorem sm_same {L M : List Rn} (h : L = M) : L.length = M.length ∧ ∀ i, i < M.length → ((rI L i).y = (rI M i).y ∧ (rI L i).x0 = (rI M i).x0) ∧ (rI L i).x1 = (rI M i).x1 := by
  subst h
  exact ⟨rfl, fun _ _ => ⟨⟨rfl, rfl⟩, rfl⟩⟩
theorem sm_add {b : Vec → Bool} {P : Pcs} {k : Nat} (hb : b (P.ink k) = true) : (sel b P k).length + P.m k = (sel b P (k + 1)).length ∧ ∀ i, i < (sel b P (k + 1)).length →
    ((bif decide (i < (sel b P k).length) then (rI (sel b P k) i).y else (P.p k (i - (sel b P k).length)).y) = (rI (sel b P (k + 1)) i).y ∧
      (bif decide (i < (sel b P k).length) then (rI (sel b P k) i).x0 else (P.p k (i - (sel b P k).length)).x0) = (rI (sel b P (k + 1)) i).x0) ∧
      (bif decide (i < (sel b P k).length) then (rI (sel b P k) i).x1 else (P.p k (i - (sel b P k).length)).x1) = (rI (sel b P (k + 1)) i).x1 := by
  rw [sel_step hb]
  refine ⟨by rw [List.length_append, Lf_len], fun i hi => ?_⟩
  rw [rI_apps _ _ _ _ hi]
  cases decide (i < (sel b P k).length) <;> exact ⟨⟨rfl, rfl⟩, rfl⟩
theorem sm_jo {b : Vec → Bool} {P : Pcs} (h : SmOk b P) : Rgg.joOk ⟨(sel b P P.n).length, rI (sel b P P.n)⟩ := by
  refine ⟨fun i hi => h.ok _ ?_, h.tot _ (Nat.le_refl _)⟩
  show rI (sel b P P.n) i ∈ _
  unfold rI
  rw [List.getD_eq_getElem?_getD, List.getElem?_eq_getElem hi]
  exact List.getElem_mem hi
theorem ok_somP : SpecOK Try.prog spSomP := by
  refine spec_sound (specs := [spP1, giv Rgg.spJoin]) (all_ok (⟨ok_P1, giv_ok Rgg.ok_join, trivial⟩)) (eqs := []) (fun _ _ h => (List.not_mem_nil h).elim) Aff.mixed Try.func26 rfl (by kernel_rfl) (fun _ _ => by kernel_rfl) (fun g => (⟨[(3, .inv (smI P1F (fun _ => true) g))], [(2, [.own 5 43 3])]⟩ : Ann)) (fun g => Nat.le_of_ble_eq_true (by kernel_rfl)) ?_
  rintro P hP
  refine vc_of (B := let z8 := (Sx.Ask ((28 : Go.FuncId) = (28 : Go.FuncId)) ∧ True);let z3 := (IntKind.u8 = IntKind.u8);let z2 := (IntKind.i64 = IntKind.i64); let z9 := (Sx.Ask z2 ∧ Sx.Ask ((↑P.n : Int) = (↑P.n : Int)));let z1 := (Sx.Ask (P.n = P.n) ∧ ∀ (i : Nat), i < P.n → ((((((((True ∧ Sx.Ask (P.m i = P.m i) ∧ ∀ (i_1 : Nat), let z13 := (P.p i i_1); i_1 < P.m i → ((True ∧ Sx.Ask z2 ∧ Sx.Ask (z13.y = z13.y)) ∧ Sx.Ask z2 ∧ Sx.Ask (z13.x0 = z13.x0)) ∧ Sx.Ask z2 ∧ Sx.Ask (z13.x1 = z13.x1)) ∧ Sx.Ask z3 ∧ Sx.Ask (P.ink i (0 : Nat) = P.ink i (0 : Nat))) ∧ Sx.Ask z3 ∧ Sx.Ask (P.ink i (1 : Nat) = P.ink i (1 : Nat))) ∧ Sx.Ask z3 ∧ Sx.Ask (P.ink i (2 : Nat) = P.ink i (2 : Nat))) ∧ Sx.Ask z3 ∧ Sx.Ask (P.ink i (3 : Nat) = P.ink i (3 : Nat))) ∧ Sx.Ask z3 ∧ Sx.Ask (P.ink i (4 : Nat) = P.ink i (4 : Nat))) ∧ Sx.Ask z3 ∧ Sx.Ask (P.ink i (5 : Nat) = P.ink i (5 : Nat))) ∧ Sx.Ask z3 ∧ Sx.Ask (P.ink i (6 : Nat) = P.ink i (6 : Nat))) ∧ Sx.Ask z3 ∧ Sx.Ask (P.ink i (7 : Nat) = P.ink i (7 : Nat)));let z0 := (fun (x : Gar.Vec) => true); let z11 := (smI P1F z0 P);True ∧ True ∧ True ∧ True ∧ True ∧ (∃ (g : Nat), Sx.Ask (z11.pre g) ∧ (z8 ∧ True ∧ z1 ∧ z9 ∧ (Sx.Ask z2 ∧ Sx.Ask ((0 : Int) = (↑g : Int))) ∧ True) ∧ (Sx.Ask ((0 : Nat) = (sel z0 P g).length) ∧ ∀ (i : Nat), i < (sel z0 P g).length → ((True ∧ False) ∧ False) ∧ False) ∧ True) ∧ ∀ (g : Nat), let z5 := (↑g : Int); let z4 := (sel z0 P g); let z6 := (Rgg.joOut (Rga.Rg.mk z4.length (Rga.rI z4))); z11.pre g → True ∧ Sx.Br (decide (z5 < (↑P.n : Int))) (Sx.Ask ((0 : Int) ≤ z5 ∧ z5 < (↑P.n : Int)) ∧ True ∧ True ∧ True ∧ True ∧ True ∧ True ∧ ((((((((((True ∧ Sx.Ask z3 ∧ Sx.Ask (P.ink z5.toNat (0 : Nat) = P.ink z5.toNat (0 : Nat))) ∧ Sx.Ask z3 ∧ Sx.Ask (P.ink z5.toNat (1 : Nat) = P.ink z5.toNat (1 : Nat))) ∧ Sx.Ask z3 ∧ Sx.Ask (P.ink z5.toNat (2 : Nat) = P.ink z5.toNat (2 : Nat))) ∧ Sx.Ask z3 ∧ Sx.Ask (P.ink z5.toNat (3 : Nat) = P.ink z5.toNat (3 : Nat))) ∧ Sx.Ask z3 ∧ Sx.Ask (P.ink z5.toNat (4 : Nat) = P.ink z5.toNat (4 : Nat))) ∧ Sx.Ask z3 ∧ Sx.Ask (P.ink z5.toNat (5 : Nat) = P.ink z5.toNat (5 : Nat))) ∧ Sx.Ask z3 ∧ Sx.Ask (P.ink z5.toNat (6 : Nat) = P.ink z5.toNat (6 : Nat))) ∧ Sx.Ask z3 ∧ Sx.Ask (P.ink z5.toNat (7 : Nat) = P.ink z5.toNat (7 : Nat))) ∧ True) ∧ Sx.Ask True) ∧ True ∧ True ∧ True ∧ Sx.Ask (z4.length + P.m z5.toNat ≤ (9223372036854775807 : Nat) ∧ (z4.length + P.m z5.toNat) * (24 : Nat) ≤ (140737488355328 : Nat)) ∧ True ∧ Sx.Ask ((-9223372036854775808 : Int) ≤ z5 + (1 : Int) ∧ z5 + (1 : Int) ≤ (9223372036854775807 : Int)) ∧ True ∧ ∃ (g' : Nat), Sx.Ask (z11.pre g') ∧ ((z8 ∧ True ∧ z1 ∧ z9 ∧ (Sx.Ask z2 ∧ Sx.Ask (z5 + (1 : Int) = (↑g' : Int))) ∧ True) ∧ (Sx.Ask (z4.length + P.m z5.toNat = (sel z0 P g').length) ∧ ∀ (i : Nat), let z12 := (Rga.rI (sel z0 P g') i); let z7 := (P.p z5.toNat (i - z4.length)); i < (sel z0 P g').length → ((True ∧ Sx.Ask z2 ∧ Sx.Ask ((bif decide (i < z4.length) then (Rga.rI z4 i).y else z7.y) = z12.y)) ∧ Sx.Ask z2 ∧ Sx.Ask ((bif decide (i < z4.length) then (Rga.rI z4 i).x0 else z7.x0) = z12.x0)) ∧ Sx.Ask z2 ∧ Sx.Ask ((bif decide (i < z4.length) then (Rga.rI z4 i).x1 else z7.x1) = z12.x1)) ∧ True) ∧ Sx.Ask (z11.meas g' < z11.meas g)) (True ∧ (((Sx.Ask (z4.length = z4.length) ∧ ∀ (i : Nat), let z10 := (Rga.rI z4 i); i < z4.length → ((True ∧ Sx.Ask z2 ∧ Sx.Ask (z10.y = z10.y)) ∧ Sx.Ask z2 ∧ Sx.Ask (z10.x0 = z10.x0)) ∧ Sx.Ask z2 ∧ Sx.Ask (z10.x1 = z10.x1)) ∧ True) ∧ Sx.Ask (Rgg.joOk (Rga.Rg.mk z4.length (Rga.rI z4)))) ∧ True ∧ True ∧ Sx.Ask (z6.length = (smR z0 P).length) ∧ ∀ (i : Nat), let z14 := (Rga.rI (smR z0 P) i); i < (smR z0 P).length → ((True ∧ Sx.Ask z2 ∧ Sx.Ask ((Rga.rI z6 i).y = z14.y)) ∧ Sx.Ask z2 ∧ Sx.Ask ((Rga.rI z6 i).x0 = z14.x0)) ∧ Sx.Ask z2 ∧ Sx.Ask ((Rga.rI z6 i).x1 = z14.x1))) (by kernel_rfl) ?_
  simp only [ask_iff, br_iff, eq_self, true_and, and_true, implies_true, forall_const, decide_eq_true_eq, decide_eq_false_iff_not, ne_eq, Nat.mul_one, Nat.add_zero, Nat.zero_add, Int.toNat_natCast, Bool.or_false]
  have hn := hP.n
  refine ⟨⟨0, Nat.zero_le _, rfl, rfl, fun i hi => absurd hi (Nat.not_lt_zero _)⟩, fun k hk => ⟨fun hlt => ?_, fun hge => ?_⟩⟩
  · have hadd := sm_add (b := fun _ => true) (P := P) (k := k) rfl
    have ht := hP.tot (k + 1) (by omega)
    exact ⟨by omega, by omega, by omega, k + 1, by show k + 1 ≤ P.n; omega, ⟨by omega, hadd⟩, by show P.n - (k + 1) < P.n - k; omega⟩
  · have hkn : k = P.n := by have : k ≤ P.n := hk; omega
    subst hkn
    exact ⟨sm_jo hP, sm_same rfl⟩
structure SiG where
  P : Pcs
  h : InG
def siDec : List SV → Option SiG
  | [s, .fn _ _ c] => match c 0, c 1 with
    | .ref _ a, .ref _ b => some ⟨pcD s, ⟨(Sx.intOf (a 0)).toNat, Sx.intOf (b 0)⟩⟩
    | _, _ => none
  | _ => none
noncomputable def spSomI : FSpec := mkSpec 26 (γ := SiG) siDec (fun g => [pcS g.P, inF g.h])
  (fun g => SmOk (has g.h) g.P ∧ g.h.ink < 8 ∧ ∀ k, k < g.P.n → 0 ≤ g.P.ink k g.h.ink ∧ g.P.ink k g.h.ink ≤ 255) (fun g => runsS (smR (has g.h) g.P))
theorem pcC_at (P : Pcs) (k j : Nat) : Sx.intOf (pcC P k (1 + j)) = P.ink k j := by rw [Nat.add_comm]; rfl
theorem pcC_ink (P : Pcs) (k : Nat) : (fun j => Sx.intOf (pcC P k (1 + j))) = P.ink k := funext fun j => pcC_at P k j
theorem ok_somI : SpecOK Try.prog spSomI := by
  refine spec_sound (specs := [spI1, giv Rgg.spJoin]) (all_ok (⟨ok_I1, giv_ok Rgg.ok_join, trivial⟩)) (eqs := []) (fun _ _ h => (List.not_mem_nil h).elim) Aff.mixed Try.func26 rfl (by kernel_rfl) (fun _ _ => by kernel_rfl) (fun g => (⟨[(3, .inv (smI (inF g.h) (has g.h) g.P))], [(2, [.own 5 43 3])]⟩ : Ann)) (fun g => Nat.le_of_ble_eq_true (by kernel_rfl)) ?_
  rintro ⟨P, h⟩ ⟨hP, hi, hv⟩
  refine vc_of (B := let z17 := (0 : Nat);let z16 := (smR (has h) P);let z11 := (↑h.ink : Int);let z6 := (smI (inF h) (has h) P);let z4 := (IntKind.u8 = IntKind.u8);let z1 := (IntKind.i64 = IntKind.i64); let z8 := (Sx.Ask z1 ∧ Sx.Ask ((↑P.n : Int) = (↑P.n : Int))); let z3 := (Sx.Ask ((27 : Go.FuncId) = (27 : Go.FuncId)) ∧ (True ∧ True ∧ Sx.Ask z1 ∧ Sx.Ask (z11 = z11)) ∧ True ∧ Sx.Ask z1 ∧ Sx.Ask (h.least = h.least));let z0 := (Sx.Ask (P.n = P.n) ∧ ∀ (i : Nat), i < P.n → ((((((((True ∧ Sx.Ask (P.m i = P.m i) ∧ ∀ (i_1 : Nat), let z18 := (P.p i i_1); i_1 < P.m i → ((True ∧ Sx.Ask z1 ∧ Sx.Ask (z18.y = z18.y)) ∧ Sx.Ask z1 ∧ Sx.Ask (z18.x0 = z18.x0)) ∧ Sx.Ask z1 ∧ Sx.Ask (z18.x1 = z18.x1)) ∧ Sx.Ask z4 ∧ Sx.Ask (P.ink i z17 = P.ink i z17)) ∧ Sx.Ask z4 ∧ Sx.Ask (P.ink i (1 : Nat) = P.ink i (1 : Nat))) ∧ Sx.Ask z4 ∧ Sx.Ask (P.ink i (2 : Nat) = P.ink i (2 : Nat))) ∧ Sx.Ask z4 ∧ Sx.Ask (P.ink i (3 : Nat) = P.ink i (3 : Nat))) ∧ Sx.Ask z4 ∧ Sx.Ask (P.ink i (4 : Nat) = P.ink i (4 : Nat))) ∧ Sx.Ask z4 ∧ Sx.Ask (P.ink i (5 : Nat) = P.ink i (5 : Nat))) ∧ Sx.Ask z4 ∧ Sx.Ask (P.ink i (6 : Nat) = P.ink i (6 : Nat))) ∧ Sx.Ask z4 ∧ Sx.Ask (P.ink i (7 : Nat) = P.ink i (7 : Nat)));True ∧ True ∧ True ∧ True ∧ True ∧ (∃ (g : Nat), Sx.Ask (z6.pre g) ∧ (z3 ∧ True ∧ z0 ∧ z8 ∧ (Sx.Ask z1 ∧ Sx.Ask ((0 : Int) = (↑g : Int))) ∧ True) ∧ (Sx.Ask (z17 = (sel (has h) P g).length) ∧ ∀ (i : Nat), i < (sel (has h) P g).length → ((True ∧ False) ∧ False) ∧ False) ∧ True) ∧ ∀ (g : Nat), let z5 := (↑g : Int); let z10 := (Gar.pcC P z5.toNat (z17 + (z17 + (1 : Nat) + z11.toNat))); let z9 := ((-9223372036854775808 : Int) ≤ z5 + (1 : Int) ∧ z5 + (1 : Int) ≤ (9223372036854775807 : Int)); let z2 := (sel (has h) P g); let z7 := (Rgg.joOut (Rga.Rg.mk z2.length (Rga.rI z2))); z6.pre g → True ∧ Sx.Br (decide (z5 < (↑P.n : Int))) (Sx.Ask ((0 : Int) ≤ z5 ∧ z5 < (↑P.n : Int)) ∧ True ∧ True ∧ True ∧ True ∧ True ∧ True ∧ ((((((((((True ∧ Sx.Ask z4 ∧ Sx.Ask (P.ink z5.toNat z17 = P.ink z5.toNat z17)) ∧ Sx.Ask z4 ∧ Sx.Ask (P.ink z5.toNat (1 : Nat) = P.ink z5.toNat (1 : Nat))) ∧ Sx.Ask z4 ∧ Sx.Ask (P.ink z5.toNat (2 : Nat) = P.ink z5.toNat (2 : Nat))) ∧ Sx.Ask z4 ∧ Sx.Ask (P.ink z5.toNat (3 : Nat) = P.ink z5.toNat (3 : Nat))) ∧ Sx.Ask z4 ∧ Sx.Ask (P.ink z5.toNat (4 : Nat) = P.ink z5.toNat (4 : Nat))) ∧ Sx.Ask z4 ∧ Sx.Ask (P.ink z5.toNat (5 : Nat) = P.ink z5.toNat (5 : Nat))) ∧ Sx.Ask z4 ∧ Sx.Ask (P.ink z5.toNat (6 : Nat) = P.ink z5.toNat (6 : Nat))) ∧ Sx.Ask z4 ∧ Sx.Ask (P.ink z5.toNat (7 : Nat) = P.ink z5.toNat (7 : Nat))) ∧ (True ∧ Sx.Ask z1 ∧ Sx.Ask (z11 = (↑z11.toNat : Int))) ∧ (True ∧ Sx.Ask z1 ∧ Sx.Ask (h.least = h.least)) ∧ True) ∧ Sx.Ask (z11.toNat < (8 : Nat) ∧ (0 : Int) ≤ Sx.intOf z10 ∧ Sx.intOf z10 ≤ (255 : Int))) ∧ Sx.Br (has (InG.mk z11.toNat h.least) fun (j : Nat) => Sx.intOf (Gar.pcC P z5.toNat (z17 + (z17 + (1 : Nat) + j)))) (True ∧ True ∧ True ∧ Sx.Ask (z2.length + P.m z5.toNat ≤ (9223372036854775807 : Nat) ∧ (z2.length + P.m z5.toNat) * (24 : Nat) ≤ (140737488355328 : Nat)) ∧ True ∧ Sx.Ask z9 ∧ True ∧ ∃ (g' : Nat), let z12 := (sel (has h) P g'); Sx.Ask (z6.pre g') ∧ ((z3 ∧ True ∧ z0 ∧ z8 ∧ (Sx.Ask z1 ∧ Sx.Ask (z5 + (1 : Int) = (↑g' : Int))) ∧ True) ∧ (Sx.Ask (z2.length + P.m z5.toNat = z12.length) ∧ ∀ (i : Nat), let z14 := (P.p z5.toNat (i - z2.length)); i < z12.length → ((True ∧ Sx.Ask z1 ∧ Sx.Ask ((bif decide (i < z2.length) then (Rga.rI z2 i).y else z14.y) = (Rga.rI z12 i).y)) ∧ Sx.Ask z1 ∧ Sx.Ask ((bif decide (i < z2.length) then (Rga.rI z2 i).x0 else z14.x0) = (Rga.rI z12 i).x0)) ∧ Sx.Ask z1 ∧ Sx.Ask ((bif decide (i < z2.length) then (Rga.rI z2 i).x1 else z14.x1) = (Rga.rI z12 i).x1)) ∧ True) ∧ Sx.Ask (z6.meas g' < z6.meas g)) (Sx.Ask z9 ∧ True ∧ ∃ (g' : Nat), let z13 := (sel (has h) P g'); Sx.Ask (z6.pre g') ∧ ((z3 ∧ True ∧ z0 ∧ z8 ∧ (Sx.Ask z1 ∧ Sx.Ask (z5 + (1 : Int) = (↑g' : Int))) ∧ True) ∧ (Sx.Ask (z2.length = z13.length) ∧ ∀ (i : Nat), i < z13.length → ((True ∧ Sx.Ask z1 ∧ Sx.Ask ((Rga.rI z2 i).y = (Rga.rI z13 i).y)) ∧ Sx.Ask z1 ∧ Sx.Ask ((Rga.rI z2 i).x0 = (Rga.rI z13 i).x0)) ∧ Sx.Ask z1 ∧ Sx.Ask ((Rga.rI z2 i).x1 = (Rga.rI z13 i).x1)) ∧ True) ∧ Sx.Ask (z6.meas g' < z6.meas g))) (True ∧ (((Sx.Ask (z2.length = z2.length) ∧ ∀ (i : Nat), let z15 := (Rga.rI z2 i); i < z2.length → ((True ∧ Sx.Ask z1 ∧ Sx.Ask (z15.y = z15.y)) ∧ Sx.Ask z1 ∧ Sx.Ask (z15.x0 = z15.x0)) ∧ Sx.Ask z1 ∧ Sx.Ask (z15.x1 = z15.x1)) ∧ True) ∧ Sx.Ask (Rgg.joOk (Rga.Rg.mk z2.length (Rga.rI z2)))) ∧ True ∧ True ∧ Sx.Ask (z7.length = z16.length) ∧ ∀ (i : Nat), i < z16.length → ((True ∧ Sx.Ask z1 ∧ Sx.Ask ((Rga.rI z7 i).y = (Rga.rI z16 i).y)) ∧ Sx.Ask z1 ∧ Sx.Ask ((Rga.rI z7 i).x0 = (Rga.rI z16 i).x0)) ∧ Sx.Ask z1 ∧ Sx.Ask ((Rga.rI z7 i).x1 = (Rga.rI z16 i).x1))) (by kernel_rfl) ?_
  simp only [ask_iff, br_iff, eq_self, true_and, and_true, implies_true, forall_const, decide_eq_true_eq, decide_eq_false_iff_not, ne_eq, Nat.mul_one, Nat.add_zero, Nat.zero_add, Int.toNat_natCast, Bool.or_false]
  simp only [pcC_ink, pcC_at]
  have hP : SmOk (has h) P := hP
  have hn := hP.n
  refine ⟨⟨0, Nat.zero_le _, rfl, rfl, fun i hi => absurd hi (Nat.not_lt_zero _)⟩, fun k hk => ⟨fun hlt => ⟨by omega, ⟨hi, hv k (by show k < P.n; omega)⟩, fun hb => ?_, fun hb => ?_⟩, fun hge => ?_⟩⟩
  · have hadd := sm_add (b := has h) (P := P) (k := k) hb
    have ht := hP.tot (k + 1) (by omega)
    exact ⟨by omega, by omega, k + 1, by show k + 1 ≤ P.n; omega, ⟨by omega, hadd⟩, by show P.n - (k + 1) < P.n - k; omega⟩
  · exact ⟨by omega, k + 1, by show k + 1 ≤ P.n; omega, ⟨by omega, sm_same (sel_skip (by rw [hb]; decide)).symm⟩, by show P.n - (k + 1) < P.n - k; omega⟩
  · have hkn : k = P.n := by have : k ≤ P.n := hk; omega
    subst hkn
    exact ⟨sm_jo hP, sm_same rfl⟩
/-! Painted, Ink. -/
theorem sel_mem {b : Vec → Bool} {P : Pcs} {r : Rn} : ∀ {n}, r ∈ sel b P n ↔ ∃ k i, k < n ∧ b (P.ink k) = true ∧ i < P.m k ∧ r = P.p k i
  | 0 => ⟨fun h => (List.not_mem_nil h).elim, fun ⟨_, _, h, _⟩ => absurd h (Nat.not_lt_zero _)⟩
  | n + 1 => by
    have mL : ∀ {k}, r ∈ Lf (P.p k) (P.m k) ↔ ∃ i, i < P.m k ∧ r = P.p k i := fun {k} => by
      unfold Lf
      rw [List.mem_map]
      exact ⟨fun ⟨i, h, e⟩ => ⟨i, List.mem_range.1 h, e.symm⟩, fun ⟨i, h, e⟩ => ⟨i, List.mem_range.2 h, e.symm⟩⟩
    by_cases hb : b (P.ink n) = true
    · rw [sel_step hb, List.mem_append, sel_mem, mL]
      constructor
      · rintro (⟨k, i, h1, h2⟩ | ⟨i, h1, h2⟩)
        · exact ⟨k, i, by omega, h2⟩
        · exact ⟨n, i, by omega, hb, h1, h2⟩
      · rintro ⟨k, i, h1, h2, h3, h4⟩
        by_cases hk : k = n
        · subst hk; exact .inr ⟨i, h3, h4⟩
        · exact .inl ⟨k, i, by omega, h2, h3, h4⟩
    · rw [sel_skip hb, sel_mem]
      constructor
      · rintro ⟨k, i, h1, h2⟩; exact ⟨k, i, by omega, h2⟩
      · rintro ⟨k, i, h1, h2, h3⟩
        refine ⟨k, i, ?_, h2, h3⟩
        have : k ≠ n := fun hc => by subst hc; exact hb h2
        omega
theorem sel_len {b : Vec → Bool} {P : Pcs} : ∀ k, (sel b P k).length ≤ (al P k).length
  | 0 => Nat.le_refl _
  | k + 1 => by
    have ih := sel_len (b := b) (P := P) k
    show _ ≤ (al P k ++ alr P k (P.m k)).length
    rw [List.length_append, alr_len]
    by_cases hb : b (P.ink k) = true
    · rw [sel_step hb, List.length_append, Lf_len]; omega
    · rw [sel_skip hb]; omega
theorem sm_ok {P : Pcs} (h : PcOK P) (b : Vec → Bool) : SmOk b P where
  ok r hr := by
    obtain ⟨k, i, h1, _, h2, rfl⟩ := sel_mem.1 hr
    exact (h.v k h1).1 _ (L_mem h2)
  tot k hk := Nat.le_trans (sel_len k) (Nat.le_trans (al_mono P k P.n hk) h.tot)
  n := h.n
noncomputable def spPainted : FSpec := mkSpec 10 (γ := ChG) (fun | [.int _ w, .int _ h, s] => some ⟨w.toNat, h.toNat, pcD s⟩ | _ => none) (fun g => [.int .i64 g.w, .int .i64 g.h, pcS g.P]) ChG.Ok (fun g => okP (runsS (smR (fun _ => true) g.P)))
theorem ok_painted : SpecOK Try.prog spPainted := by
  refine spec_sound (specs := [spCheckF, spSomP]) (all_ok (⟨ok_checkF, ok_somP, trivial⟩)) (eqs := []) (fun _ _ h => (List.not_mem_nil h).elim) Aff.mixed Try.func10 rfl (by kernel_rfl) (fun _ _ => by kernel_rfl) (fun g => A0) (fun g => Nat.le_of_ble_eq_true (by kernel_rfl)) ?_
  rintro g hg
  refine vc_of (B := let z3 := (IntKind.u8 = IntKind.u8);let z2 := (IntKind.i64 = IntKind.i64);let z1 := (smR (fun (x : Gar.Vec) => true) g.P);let z0 := (Sx.Ask (g.P.n = g.P.n) ∧ ∀ (i : Nat), i < g.P.n → ((((((((True ∧ Sx.Ask (g.P.m i = g.P.m i) ∧ ∀ (i_1 : Nat), let z4 := (g.P.p i i_1); i_1 < g.P.m i → ((True ∧ Sx.Ask z2 ∧ Sx.Ask (z4.y = z4.y)) ∧ Sx.Ask z2 ∧ Sx.Ask (z4.x0 = z4.x0)) ∧ Sx.Ask z2 ∧ Sx.Ask (z4.x1 = z4.x1)) ∧ Sx.Ask z3 ∧ Sx.Ask (g.P.ink i (0 : Nat) = g.P.ink i (0 : Nat))) ∧ Sx.Ask z3 ∧ Sx.Ask (g.P.ink i (1 : Nat) = g.P.ink i (1 : Nat))) ∧ Sx.Ask z3 ∧ Sx.Ask (g.P.ink i (2 : Nat) = g.P.ink i (2 : Nat))) ∧ Sx.Ask z3 ∧ Sx.Ask (g.P.ink i (3 : Nat) = g.P.ink i (3 : Nat))) ∧ Sx.Ask z3 ∧ Sx.Ask (g.P.ink i (4 : Nat) = g.P.ink i (4 : Nat))) ∧ Sx.Ask z3 ∧ Sx.Ask (g.P.ink i (5 : Nat) = g.P.ink i (5 : Nat))) ∧ Sx.Ask z3 ∧ Sx.Ask (g.P.ink i (6 : Nat) = g.P.ink i (6 : Nat))) ∧ Sx.Ask z3 ∧ Sx.Ask (g.P.ink i (7 : Nat) = g.P.ink i (7 : Nat)));True ∧ True ∧ True ∧ True ∧ True ∧ (((Sx.Ask z2 ∧ Sx.Ask ((↑g.w : Int) = (↑(↑g.w : Int).toNat : Int))) ∧ (Sx.Ask z2 ∧ Sx.Ask ((↑g.h : Int) = (↑(↑g.h : Int).toNat : Int))) ∧ z0 ∧ True) ∧ Sx.Ask (Apt.ChG.mk (↑g.w : Int).toNat (↑g.h : Int).toNat g.P).Ok) ∧ True ∧ True ∧ True ∧ True ∧ ((z0 ∧ (Sx.Ask ((28 : Nat) = (28 : Go.FuncId)) ∧ True) ∧ True) ∧ Sx.Ask (SmOk (fun (x : Gar.Vec) => true) g.P)) ∧ True ∧ True ∧ True ∧ (True ∧ Sx.Ask (z1.length = z1.length) ∧ ∀ (i : Nat), let z5 := (Rga.rI z1 i); i < z1.length → ((True ∧ Sx.Ask z2 ∧ Sx.Ask (z5.y = z5.y)) ∧ Sx.Ask z2 ∧ Sx.Ask (z5.x0 = z5.x0)) ∧ Sx.Ask z2 ∧ Sx.Ask (z5.x1 = z5.x1)) ∧ Sx.Ask z2 ∧ Sx.Ask ((0 : Int) = (0 : Int))) (by kernel_rfl) ?_
  simp only [ask_iff, br_iff, eq_self, true_and, and_true, implies_true, forall_const, decide_eq_true_eq, decide_eq_false_iff_not, ne_eq, Nat.mul_one, Nat.add_zero, Nat.zero_add, Int.toNat_natCast, Bool.or_false]
  exact ⟨hg, sm_ok hg.P _⟩
structure IkG where
  w : Nat
  h : Nat
  P : Pcs
  i : InG
structure IkG.Ok (g : IkG) : Prop where
  c : ChG.Ok ⟨g.w, g.h, g.P⟩
  ink : g.i.ink < 8
  least : 1 ≤ g.i.least ∧ g.i.least ≤ 255
  v : ∀ k, k < g.P.n → 0 ≤ g.P.ink k g.i.ink ∧ g.P.ink k g.i.ink ≤ 255
noncomputable def spInk : FSpec := mkSpec 9 (γ := IkG) (fun | [.int _ w, .int _ h, s, .int _ i, .int _ l] => some ⟨w.toNat, h.toNat, pcD s, i.toNat, l⟩ | _ => none) (fun g => [.int .i64 g.w, .int .i64 g.h, pcS g.P, .int .i64 g.i.ink, .int .i64 g.i.least]) IkG.Ok (fun g => okP (runsS (smR (has g.i) g.P)))
theorem ok_ink : SpecOK Try.prog spInk := by
  refine spec_sound (specs := [spCheckF, giv spSomI]) (all_ok (⟨ok_checkF, giv_ok ok_somI, trivial⟩)) (eqs := []) (fun _ _ h => (List.not_mem_nil h).elim) Aff.mixed Try.func9 rfl (by kernel_rfl) (fun _ _ => by kernel_rfl) (fun g => A0) (fun g => Nat.le_of_ble_eq_true (by kernel_rfl)) ?_
  rintro g hg
  refine vc_of (B := let z8 := ((3 : Int) = (0 : Int));let z5 := (↑g.i.ink : Int);let z4 := (smR (has g.i) g.P); let z6 := (True ∧ Sx.Ask (z4.length = (0 : Nat)));let z3 := (IntKind.u8 = IntKind.u8);let z2 := (has (InG.mk z5.toNat g.i.least));let z1 := (IntKind.i64 = IntKind.i64);let z0 := (Sx.Ask (g.P.n = g.P.n) ∧ ∀ (i : Nat), i < g.P.n → ((((((((True ∧ Sx.Ask (g.P.m i = g.P.m i) ∧ ∀ (i_1 : Nat), let z7 := (g.P.p i i_1); i_1 < g.P.m i → ((True ∧ Sx.Ask z1 ∧ Sx.Ask (z7.y = z7.y)) ∧ Sx.Ask z1 ∧ Sx.Ask (z7.x0 = z7.x0)) ∧ Sx.Ask z1 ∧ Sx.Ask (z7.x1 = z7.x1)) ∧ Sx.Ask z3 ∧ Sx.Ask (g.P.ink i (0 : Nat) = g.P.ink i (0 : Nat))) ∧ Sx.Ask z3 ∧ Sx.Ask (g.P.ink i (1 : Nat) = g.P.ink i (1 : Nat))) ∧ Sx.Ask z3 ∧ Sx.Ask (g.P.ink i (2 : Nat) = g.P.ink i (2 : Nat))) ∧ Sx.Ask z3 ∧ Sx.Ask (g.P.ink i (3 : Nat) = g.P.ink i (3 : Nat))) ∧ Sx.Ask z3 ∧ Sx.Ask (g.P.ink i (4 : Nat) = g.P.ink i (4 : Nat))) ∧ Sx.Ask z3 ∧ Sx.Ask (g.P.ink i (5 : Nat) = g.P.ink i (5 : Nat))) ∧ Sx.Ask z3 ∧ Sx.Ask (g.P.ink i (6 : Nat) = g.P.ink i (6 : Nat))) ∧ Sx.Ask z3 ∧ Sx.Ask (g.P.ink i (7 : Nat) = g.P.ink i (7 : Nat)));True ∧ True ∧ True ∧ True ∧ True ∧ True ∧ True ∧ (((Sx.Ask z1 ∧ Sx.Ask ((↑g.w : Int) = (↑(↑g.w : Int).toNat : Int))) ∧ (Sx.Ask z1 ∧ Sx.Ask ((↑g.h : Int) = (↑(↑g.h : Int).toNat : Int))) ∧ z0 ∧ True) ∧ Sx.Ask (Apt.ChG.mk (↑g.w : Int).toNat (↑g.h : Int).toNat g.P).Ok) ∧ True ∧ True ∧ True ∧ True ∧ True ∧ True ∧ True ∧ True ∧ True ∧ True ∧ Sx.Br (decide ((8 : Int) ≤ z5)) (True ∧ True ∧ True ∧ True ∧ True ∧ True ∧ z6 ∧ Sx.Ask z1 ∧ Sx.Ask z8) (True ∧ True ∧ True ∧ True ∧ Sx.Br (decide (g.i.least < (1 : Int))) (True ∧ True ∧ True ∧ True ∧ z6 ∧ Sx.Ask z1 ∧ Sx.Ask z8) (True ∧ True ∧ True ∧ Sx.Br (decide ((255 : Int) < g.i.least)) (True ∧ True ∧ True ∧ z6 ∧ Sx.Ask z1 ∧ Sx.Ask z8) (True ∧ True ∧ ((z0 ∧ (Sx.Ask ((27 : Nat) = (27 : Go.FuncId)) ∧ (True ∧ True ∧ Sx.Ask z1 ∧ Sx.Ask (z5 = (↑z5.toNat : Int))) ∧ True ∧ Sx.Ask z1 ∧ Sx.Ask (g.i.least = g.i.least)) ∧ True) ∧ Sx.Ask (SmOk z2 g.P ∧ z5.toNat < (8 : Nat) ∧ ∀ (k : Nat), k < g.P.n → (0 : Int) ≤ g.P.ink k z5.toNat ∧ g.P.ink k z5.toNat ≤ (255 : Int))) ∧ True ∧ True ∧ True ∧ (True ∧ Sx.Ask ((smR z2 g.P).length = z4.length) ∧ ∀ (i : Nat), let z9 := (Rga.rI (smR z2 g.P) i); i < z4.length → ((True ∧ Sx.Ask z1 ∧ Sx.Ask (z9.y = (Rga.rI z4 i).y)) ∧ Sx.Ask z1 ∧ Sx.Ask (z9.x0 = (Rga.rI z4 i).x0)) ∧ Sx.Ask z1 ∧ Sx.Ask (z9.x1 = (Rga.rI z4 i).x1)) ∧ Sx.Ask z1 ∧ Sx.Ask ((0 : Int) = (0 : Int)))))) (by kernel_rfl) ?_
  simp only [ask_iff, br_iff, eq_self, true_and, and_true, implies_true, forall_const, decide_eq_true_eq, decide_eq_false_iff_not, ne_eq, Nat.mul_one, Nat.add_zero, Nat.zero_add, Int.toNat_natCast, Bool.or_false]
  have h1 := hg.ink
  have h2 := hg.least
  exact ⟨hg.c, fun h => by omega, fun _ => ⟨fun h => by omega, fun _ => ⟨fun h => by omega, fun _ => ⟨sm_ok hg.c.P _, h1, hg.v⟩⟩⟩⟩
end Go.Proofs.Ytbkgncikjhibiaa.Som
