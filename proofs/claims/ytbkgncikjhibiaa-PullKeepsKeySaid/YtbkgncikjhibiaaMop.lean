/- Package morph: check, with, Dilate, Erode, Open, Close; squares, within: by the evaluation. -/
import Derived.Test.YtbkgncikjhibiaaMor
import Derived.Test.YtbkgncikjhibiaaMos
set_option linter.unusedSimpArgs false
set_option linter.unusedVariables false
namespace Go.Proofs.Ytbkgncikjhibiaa.Mop
open Go.RowKit Sx Num Aff Con Rga Rgl Rgm Rgn Rgo Itr Mol Moe Mos Mor
set_option maxRecDepth 100000
def spCheckM : FSpec := mkSpec 53 (γ := DiG) (fun | [s, .int _ w] => some ⟨⟨slLen s, rgD s⟩, w.toNat⟩ | _ => none) (fun h => [rgS h.g, .int .i64 h.w]) (fun h => vld h.g.L ∧ h.w ≤ 64) (fun _ => .int .i64 0)
theorem ok_checkM : SpecOK Try.prog spCheckM := by
  refine spec_sound (specs := [spCheckR]) (all_ok (⟨ok_checkR, trivial⟩)) (eqs := []) (fun _ _ h => (List.not_mem_nil h).elim) Aff.mixed Try.func53 rfl (by kernel_rfl) (fun _ _ => by kernel_rfl) (fun g => A0) (fun g => Nat.le_of_ble_eq_true (by kernel_rfl)) ?_
  rintro g hg
  refine vc_of (B := let z0 := (IntKind.i64 = IntKind.i64);True ∧ True ∧ (((Sx.Ask (g.g.n = g.g.n) ∧ ∀ (i : Nat), i < g.g.n → ((True ∧ Sx.Ask z0 ∧ Sx.Ask ((g.g.f i).y = (g.g.f i).y)) ∧ Sx.Ask z0 ∧ Sx.Ask ((g.g.f i).x0 = (g.g.f i).x0)) ∧ Sx.Ask z0 ∧ Sx.Ask ((g.g.f i).x1 = (g.g.f i).x1)) ∧ True) ∧ Sx.Ask (Rga.vld g.g.L ∧ g.g.n ≤ (4294967296 : Nat))) ∧ True ∧ True ∧ True ∧ True ∧ True ∧ True ∧ True ∧ True ∧ True ∧ Sx.Br (decide ((64 : Int) < (↑g.w : Int))) (True ∧ True ∧ Sx.Ask z0 ∧ Sx.Ask ((3 : Int) = (0 : Int))) (True ∧ True ∧ Sx.Ask z0 ∧ Sx.Ask ((0 : Int) = (0 : Int)))) (by kernel_rfl) ?_
  simp only [ask_iff, br_iff, eq_self, true_and, and_true, implies_true, forall_const, decide_eq_true_eq, decide_eq_false_iff_not, ne_eq, Nat.mul_one, Nat.add_zero, Nat.zero_add]
  obtain ⟨hv, hw⟩ := hg
  have hl := vld_len hv
  rw [Rg.len] at hl
  exact ⟨⟨hv, by omega⟩, fun h => absurd h (by omega)⟩
noncomputable def opn (h : DiG) : List Rn := DiG.o ⟨Ls (ero h), h.w⟩
noncomputable def cls (h : DiG) : List Rn := ero ⟨Ls h.o, h.w⟩
structure OpOk (h : DiG) : Prop where
  a : h.Ok
  b : (⟨Ls (ero h), h.w⟩ : DiG).Ok
  c : (ero h).length * (2 * h.w + 1) ≤ 1000000
structure ClOk (h : DiG) : Prop where
  a : h.Ok
  b : h.g.n * (2 * h.w + 1) ≤ 1000000
  c : (⟨Ls h.o, h.w⟩ : DiG).Ok
def DiOk (h : DiG) : Prop := h.Ok ∧ h.g.n * h.q ≤ 1000000
noncomputable def spWithD : FSpec := mkSpec 35 (γ := DiG) (fun | [s, .int _ w, .fn _ _ _] => some ⟨⟨slLen s, rgD s⟩, w.toNat⟩ | _ => none) (fun h => [rgS h.g, .int .i64 h.w, .fn 36 0 (lst [])]) DiOk (fun h => Rgc.okP (runsS (h.o)))
theorem ok_withD : SpecOK Try.prog spWithD := by
  refine spec_sound (specs := [spCheckM, spDilate]) (all_ok (⟨ok_checkM, ok_dilate, trivial⟩)) (eqs := []) (fun _ _ h => (List.not_mem_nil h).elim) Aff.mixed Try.func35 rfl (by kernel_rfl) (fun _ _ => by kernel_rfl) (fun g => A0) (fun g => Nat.le_of_ble_eq_true (by kernel_rfl)) ?_
  rintro g hg
  refine vc_of (B := let z1 := (IntKind.i64 = IntKind.i64);let z0 := ((Sx.Ask (g.g.n = g.g.n) ∧ ∀ (i : Nat), i < g.g.n → ((True ∧ Sx.Ask z1 ∧ Sx.Ask ((g.g.f i).y = (g.g.f i).y)) ∧ Sx.Ask z1 ∧ Sx.Ask ((g.g.f i).x0 = (g.g.f i).x0)) ∧ Sx.Ask z1 ∧ Sx.Ask ((g.g.f i).x1 = (g.g.f i).x1)) ∧ (Sx.Ask z1 ∧ Sx.Ask ((↑g.w : Int) = (↑(↑g.w : Int).toNat : Int))) ∧ True);True ∧ True ∧ True ∧ True ∧ (z0 ∧ Sx.Ask (Rga.vld g.g.L ∧ g.w ≤ (64 : Nat))) ∧ True ∧ True ∧ True ∧ True ∧ True ∧ True ∧ (z0 ∧ Sx.Ask (g.Ok ∧ g.g.n * g.q ≤ (1000000 : Nat))) ∧ True ∧ True ∧ True ∧ (True ∧ Sx.Ask (g.o.length = g.o.length) ∧ ∀ (i : Nat), let z2 := (Rga.rI g.o i); i < g.o.length → ((True ∧ Sx.Ask z1 ∧ Sx.Ask (z2.y = z2.y)) ∧ Sx.Ask z1 ∧ Sx.Ask (z2.x0 = z2.x0)) ∧ Sx.Ask z1 ∧ Sx.Ask (z2.x1 = z2.x1)) ∧ Sx.Ask z1 ∧ Sx.Ask ((0 : Int) = (0 : Int))) (by kernel_rfl) ?_
  simp only [ask_iff, br_iff, eq_self, true_and, and_true, implies_true, forall_const, decide_eq_true_eq, decide_eq_false_iff_not, ne_eq, Nat.mul_one, Nat.add_zero, Nat.zero_add]
  exact ⟨⟨rfl, hg.1.g.v, hg.1.w⟩, rfl, hg⟩
noncomputable def spDilate : FSpec := mkSpec 21 (γ := DiG) (fun | [s, .int _ w] => some ⟨⟨slLen s, rgD s⟩, w.toNat⟩ | _ => none) (fun h => [rgS h.g, .int .i64 h.w]) DiOk (fun h => Rgc.okP (runsS (h.o)))
theorem ok_Dilate : SpecOK Try.prog spDilate := by
  refine spec_sound (specs := [spWithD]) (all_ok (⟨ok_withD, trivial⟩)) (eqs := []) (fun _ _ h => (List.not_mem_nil h).elim) Aff.mixed Try.func21 rfl (by kernel_rfl) (fun _ _ => by kernel_rfl) (fun g => A0) (fun g => Nat.le_of_ble_eq_true (by kernel_rfl)) ?_
  rintro g hg
  refine vc_of (B := let z0 := (IntKind.i64 = IntKind.i64);True ∧ True ∧ True ∧ True ∧ (((Sx.Ask (g.g.n = g.g.n) ∧ ∀ (i : Nat), i < g.g.n → ((True ∧ Sx.Ask z0 ∧ Sx.Ask ((g.g.f i).y = (g.g.f i).y)) ∧ Sx.Ask z0 ∧ Sx.Ask ((g.g.f i).x0 = (g.g.f i).x0)) ∧ Sx.Ask z0 ∧ Sx.Ask ((g.g.f i).x1 = (g.g.f i).x1)) ∧ (Sx.Ask z0 ∧ Sx.Ask ((↑g.w : Int) = (↑(↑g.w : Int).toNat : Int))) ∧ (Sx.Ask ((36 : Nat) = (36 : Go.FuncId)) ∧ True) ∧ True) ∧ Sx.Ask (DiOk g)) ∧ True ∧ True ∧ True ∧ True ∧ True ∧ (True ∧ Sx.Ask (g.o.length = g.o.length) ∧ ∀ (i : Nat), let z1 := (Rga.rI g.o i); i < g.o.length → ((True ∧ Sx.Ask z0 ∧ Sx.Ask (z1.y = z1.y)) ∧ Sx.Ask z0 ∧ Sx.Ask (z1.x0 = z1.x0)) ∧ Sx.Ask z0 ∧ Sx.Ask (z1.x1 = z1.x1)) ∧ Sx.Ask z0 ∧ Sx.Ask ((0 : Int) = (0 : Int))) (by kernel_rfl) ?_
  simp only [ask_iff, br_iff, eq_self, true_and, and_true, implies_true, forall_const, decide_eq_true_eq, decide_eq_false_iff_not, ne_eq, Nat.mul_one, Nat.add_zero, Nat.zero_add]
  exact ⟨rfl, hg⟩
structure TwG where
  a : Rg
  b : Rg
/-! squares. -/
end Go.Proofs.Ytbkgncikjhibiaa.Mop
