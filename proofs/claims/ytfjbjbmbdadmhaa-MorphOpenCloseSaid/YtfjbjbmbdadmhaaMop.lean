/- Package morph: check, with, Dilate, Erode, Open, Close; squares, within: by the evaluation. -/
import Derived.Test.YtfjbjbmbdadmhaaMor
import Derived.Test.YtfjbjbmbdadmhaaMos
set_option linter.unusedSimpArgs false
set_option linter.unusedVariables false
namespace Go.Proofs.Ytfjbjbmbdadmhaa.Mop
open Go.RowKit Sx Num Aff Con Rga Rgl Rgm Rgn Rgo Itr Mol Moe Mos Mor
set_option maxRecDepth 100000
def spCheckM : FSpec := mkSpec 70 (γ := DiG) (fun | [s, .int _ w] => some ⟨⟨slLen s, rgD s⟩, w.toNat⟩ | _ => none) (fun h => [rgS h.g, .int .i64 h.w]) (fun h => vld h.g.L ∧ h.w ≤ 64) (fun _ => .int .i64 0)
theorem ok_checkM : SpecOK Try.prog spCheckM := by
  refine spec_sound (specs := [spCheckR]) (all_ok (⟨ok_checkR, trivial⟩)) (eqs := []) (fun _ _ h => (List.not_mem_nil h).elim) Aff.mixed Try.func70 rfl (by kernel_rfl) (fun _ _ => by kernel_rfl) (fun g => A0) (fun g => Nat.le_of_ble_eq_true (by kernel_rfl)) ?_
  rintro g hg
  refine vc_of (B := let z0 := (IntKind.i64 = IntKind.i64);True ∧ True ∧ (((Sx.Ask (g.g.n = g.g.n) ∧ ∀ (i : Nat), i < g.g.n → ((True ∧ Sx.Ask z0 ∧ Sx.Ask ((g.g.f i).y = (g.g.f i).y)) ∧ Sx.Ask z0 ∧ Sx.Ask ((g.g.f i).x0 = (g.g.f i).x0)) ∧ Sx.Ask z0 ∧ Sx.Ask ((g.g.f i).x1 = (g.g.f i).x1)) ∧ True) ∧ Sx.Ask (Rga.vld g.g.L ∧ g.g.n ≤ (4294967296 : Nat))) ∧ True ∧ True ∧ True ∧ True ∧ True ∧ True ∧ True ∧ True ∧ True ∧ Sx.Br (decide ((64 : Int) < (↑g.w : Int))) (True ∧ True ∧ Sx.Ask z0 ∧ Sx.Ask ((3 : Int) = (0 : Int))) (True ∧ True ∧ Sx.Ask z0 ∧ Sx.Ask ((0 : Int) = (0 : Int)))) (by kernel_rfl) ?_
  simp only [ask_iff, br_iff, eq_self, true_and, and_true, implies_true, forall_const, decide_eq_true_eq, decide_eq_false_iff_not, ne_eq, Nat.mul_one, Nat.add_zero, Nat.zero_add]
  obtain ⟨hv, hw⟩ := hg
  have hl := vld_len hv
  rw [Rg.len] at hl
  exact ⟨⟨hv, by omega⟩, fun h => absurd h (by omega)⟩
noncomputable def opn (h : DiG) : List Rn := DiG.o ⟨Ls (ero h), h.w⟩
noncomputable def cls (h : DiG) : List Rn := ero ⟨Ls h.o, h.w⟩
structure OpOk (h : DiG) : Prop where
  a : h.Ok
  b : (⟨Ls (ero h), h.w⟩ : DiG).Ok
  c : (ero h).length * (2 * h.w + 1) ≤ 1000000
structure ClOk (h : DiG) : Prop where
  a : h.Ok
  b : h.g.n * (2 * h.w + 1) ≤ 1000000
  c : (⟨Ls h.o, h.w⟩ : DiG).Ok
def DiOk (h : DiG) : Prop := h.Ok ∧ h.g.n * h.q ≤ 1000000
noncomputable def spOpen1 : FSpec := mkSpec 52 (γ := DiG) (fun | [s, .int _ w] => some ⟨⟨slLen s, rgD s⟩, w.toNat⟩ | _ => none) (fun h => [rgS h.g, .int .i64 h.w]) OpOk (fun h => runsS (opn h))
theorem ok_open1 : SpecOK Try.prog spOpen1 := by
  refine spec_sound (specs := [spErode, spDilate]) (all_ok (⟨ok_erode, ok_dilate, trivial⟩)) (eqs := []) (fun _ _ h => (List.not_mem_nil h).elim) Aff.mixed Try.func52 rfl (by kernel_rfl) (fun _ _ => by kernel_rfl) (fun g => A0) (fun g => Nat.le_of_ble_eq_true (by kernel_rfl)) ?_
  rintro g hg
  refine vc_of (B := let z4 := (Moe.ero g);let z1 := (IntKind.i64 = IntKind.i64); let z3 := (Sx.Ask z1 ∧ Sx.Ask ((↑g.w : Int) = (↑(↑g.w : Int).toNat : Int)));let z0 := (Mol.DiG.mk (Rga.Rg.mk z4.length (Rga.rI z4)) (↑g.w : Int).toNat);True ∧ True ∧ True ∧ (((Sx.Ask (g.g.n = g.g.n) ∧ ∀ (i : Nat), i < g.g.n → ((True ∧ Sx.Ask z1 ∧ Sx.Ask ((g.g.f i).y = (g.g.f i).y)) ∧ Sx.Ask z1 ∧ Sx.Ask ((g.g.f i).x0 = (g.g.f i).x0)) ∧ Sx.Ask z1 ∧ Sx.Ask ((g.g.f i).x1 = (g.g.f i).x1)) ∧ z3 ∧ True) ∧ Sx.Ask g.Ok) ∧ True ∧ (((Sx.Ask (z4.length = z4.length) ∧ ∀ (i : Nat), let z2 := (Rga.rI z4 i); i < z4.length → ((True ∧ Sx.Ask z1 ∧ Sx.Ask (z2.y = z2.y)) ∧ Sx.Ask z1 ∧ Sx.Ask (z2.x0 = z2.x0)) ∧ Sx.Ask z1 ∧ Sx.Ask (z2.x1 = z2.x1)) ∧ z3 ∧ True) ∧ Sx.Ask (z0.Ok ∧ z4.length * z0.q ≤ (1000000 : Nat))) ∧ True ∧ True ∧ Sx.Ask (z0.o.length = (opn g).length) ∧ ∀ (i : Nat), i < (opn g).length → ((True ∧ Sx.Ask z1 ∧ Sx.Ask ((Rga.rI z0.o i).y = (Rga.rI (opn g) i).y)) ∧ Sx.Ask z1 ∧ Sx.Ask ((Rga.rI z0.o i).x0 = (Rga.rI (opn g) i).x0)) ∧ Sx.Ask z1 ∧ Sx.Ask ((Rga.rI z0.o i).x1 = (Rga.rI (opn g) i).x1)) (by kernel_rfl) ?_
  simp only [ask_iff, br_iff, eq_self, true_and, and_true, implies_true, forall_const, decide_eq_true_eq, decide_eq_false_iff_not, ne_eq, Nat.mul_one, Nat.add_zero, Nat.zero_add]
  refine ⟨⟨rfl, hg.a⟩, ⟨rfl, hg.b, hg.c⟩, rfl, fun i _ => ⟨⟨rfl, rfl⟩, rfl⟩⟩
noncomputable def spClose1 : FSpec := mkSpec 53 (γ := DiG) (fun | [s, .int _ w] => some ⟨⟨slLen s, rgD s⟩, w.toNat⟩ | _ => none) (fun h => [rgS h.g, .int .i64 h.w]) ClOk (fun h => runsS (cls h))
theorem ok_close1 : SpecOK Try.prog spClose1 := by
  refine spec_sound (specs := [spErode, spDilate]) (all_ok (⟨ok_erode, ok_dilate, trivial⟩)) (eqs := []) (fun _ _ h => (List.not_mem_nil h).elim) Aff.mixed Try.func53 rfl (by kernel_rfl) (fun _ _ => by kernel_rfl) (fun g => A0) (fun g => Nat.le_of_ble_eq_true (by kernel_rfl)) ?_
  rintro g hg
  refine vc_of (B := let z1 := (IntKind.i64 = IntKind.i64); let z2 := (Sx.Ask z1 ∧ Sx.Ask ((↑g.w : Int) = (↑(↑g.w : Int).toNat : Int)));let z0 := (Mol.DiG.mk (Rga.Rg.mk g.o.length (Rga.rI g.o)) (↑g.w : Int).toNat);True ∧ True ∧ True ∧ (((Sx.Ask (g.g.n = g.g.n) ∧ ∀ (i : Nat), i < g.g.n → ((True ∧ Sx.Ask z1 ∧ Sx.Ask ((g.g.f i).y = (g.g.f i).y)) ∧ Sx.Ask z1 ∧ Sx.Ask ((g.g.f i).x0 = (g.g.f i).x0)) ∧ Sx.Ask z1 ∧ Sx.Ask ((g.g.f i).x1 = (g.g.f i).x1)) ∧ z2 ∧ True) ∧ Sx.Ask (g.Ok ∧ g.g.n * g.q ≤ (1000000 : Nat))) ∧ True ∧ (((Sx.Ask (g.o.length = g.o.length) ∧ ∀ (i : Nat), let z3 := (Rga.rI g.o i); i < g.o.length → ((True ∧ Sx.Ask z1 ∧ Sx.Ask (z3.y = z3.y)) ∧ Sx.Ask z1 ∧ Sx.Ask (z3.x0 = z3.x0)) ∧ Sx.Ask z1 ∧ Sx.Ask (z3.x1 = z3.x1)) ∧ z2 ∧ True) ∧ Sx.Ask z0.Ok) ∧ True ∧ True ∧ Sx.Ask ((Moe.ero z0).length = (cls g).length) ∧ ∀ (i : Nat), let z4 := (Rga.rI (Moe.ero z0) i); i < (cls g).length → ((True ∧ Sx.Ask z1 ∧ Sx.Ask (z4.y = (Rga.rI (cls g) i).y)) ∧ Sx.Ask z1 ∧ Sx.Ask (z4.x0 = (Rga.rI (cls g) i).x0)) ∧ Sx.Ask z1 ∧ Sx.Ask (z4.x1 = (Rga.rI (cls g) i).x1)) (by kernel_rfl) ?_
  simp only [ask_iff, br_iff, eq_self, true_and, and_true, implies_true, forall_const, decide_eq_true_eq, decide_eq_false_iff_not, ne_eq, Nat.mul_one, Nat.add_zero, Nat.zero_add]
  refine ⟨⟨rfl, hg.a, hg.b⟩, ⟨rfl, hg.c⟩, rfl, fun i _ => ⟨⟨rfl, rfl⟩, rfl⟩⟩
noncomputable def spWithD : FSpec := mkSpec 49 (γ := DiG) (fun | [s, .int _ w, .fn _ _ _] => some ⟨⟨slLen s, rgD s⟩, w.toNat⟩ | _ => none) (fun h => [rgS h.g, .int .i64 h.w, .fn 50 0 (lst [])]) DiOk (fun h => Rgc.okP (runsS (h.o)))
theorem ok_withD : SpecOK Try.prog spWithD := by
  refine spec_sound (specs := [spCheckM, spDilate]) (all_ok (⟨ok_checkM, ok_dilate, trivial⟩)) (eqs := []) (fun _ _ h => (List.not_mem_nil h).elim) Aff.mixed Try.func49 rfl (by kernel_rfl) (fun _ _ => by kernel_rfl) (fun g => A0) (fun g => Nat.le_of_ble_eq_true (by kernel_rfl)) ?_
  rintro g hg
  refine vc_of (B := let z1 := (IntKind.i64 = IntKind.i64);let z0 := ((Sx.Ask (g.g.n = g.g.n) ∧ ∀ (i : Nat), i < g.g.n → ((True ∧ Sx.Ask z1 ∧ Sx.Ask ((g.g.f i).y = (g.g.f i).y)) ∧ Sx.Ask z1 ∧ Sx.Ask ((g.g.f i).x0 = (g.g.f i).x0)) ∧ Sx.Ask z1 ∧ Sx.Ask ((g.g.f i).x1 = (g.g.f i).x1)) ∧ (Sx.Ask z1 ∧ Sx.Ask ((↑g.w : Int) = (↑(↑g.w : Int).toNat : Int))) ∧ True);True ∧ True ∧ True ∧ True ∧ (z0 ∧ Sx.Ask (Rga.vld g.g.L ∧ g.w ≤ (64 : Nat))) ∧ True ∧ True ∧ True ∧ True ∧ True ∧ True ∧ (z0 ∧ Sx.Ask (g.Ok ∧ g.g.n * g.q ≤ (1000000 : Nat))) ∧ True ∧ True ∧ True ∧ (True ∧ Sx.Ask (g.o.length = g.o.length) ∧ ∀ (i : Nat), let z2 := (Rga.rI g.o i); i < g.o.length → ((True ∧ Sx.Ask z1 ∧ Sx.Ask (z2.y = z2.y)) ∧ Sx.Ask z1 ∧ Sx.Ask (z2.x0 = z2.x0)) ∧ Sx.Ask z1 ∧ Sx.Ask (z2.x1 = z2.x1)) ∧ Sx.Ask z1 ∧ Sx.Ask ((0 : Int) = (0 : Int))) (by kernel_rfl) ?_
  simp only [ask_iff, br_iff, eq_self, true_and, and_true, implies_true, forall_const, decide_eq_true_eq, decide_eq_false_iff_not, ne_eq, Nat.mul_one, Nat.add_zero, Nat.zero_add]
  exact ⟨⟨rfl, hg.1.g.v, hg.1.w⟩, rfl, hg⟩
noncomputable def spDilate : FSpec := mkSpec 25 (γ := DiG) (fun | [s, .int _ w] => some ⟨⟨slLen s, rgD s⟩, w.toNat⟩ | _ => none) (fun h => [rgS h.g, .int .i64 h.w]) DiOk (fun h => Rgc.okP (runsS (h.o)))
theorem ok_Dilate : SpecOK Try.prog spDilate := by
  refine spec_sound (specs := [spWithD]) (all_ok (⟨ok_withD, trivial⟩)) (eqs := []) (fun _ _ h => (List.not_mem_nil h).elim) Aff.mixed Try.func25 rfl (by kernel_rfl) (fun _ _ => by kernel_rfl) (fun g => A0) (fun g => Nat.le_of_ble_eq_true (by kernel_rfl)) ?_
  rintro g hg
  refine vc_of (B := let z0 := (IntKind.i64 = IntKind.i64);True ∧ True ∧ True ∧ True ∧ (((Sx.Ask (g.g.n = g.g.n) ∧ ∀ (i : Nat), i < g.g.n → ((True ∧ Sx.Ask z0 ∧ Sx.Ask ((g.g.f i).y = (g.g.f i).y)) ∧ Sx.Ask z0 ∧ Sx.Ask ((g.g.f i).x0 = (g.g.f i).x0)) ∧ Sx.Ask z0 ∧ Sx.Ask ((g.g.f i).x1 = (g.g.f i).x1)) ∧ (Sx.Ask z0 ∧ Sx.Ask ((↑g.w : Int) = (↑(↑g.w : Int).toNat : Int))) ∧ (Sx.Ask ((50 : Nat) = (50 : Go.FuncId)) ∧ True) ∧ True) ∧ Sx.Ask (DiOk g)) ∧ True ∧ True ∧ True ∧ True ∧ True ∧ (True ∧ Sx.Ask (g.o.length = g.o.length) ∧ ∀ (i : Nat), let z1 := (Rga.rI g.o i); i < g.o.length → ((True ∧ Sx.Ask z0 ∧ Sx.Ask (z1.y = z1.y)) ∧ Sx.Ask z0 ∧ Sx.Ask (z1.x0 = z1.x0)) ∧ Sx.Ask z0 ∧ Sx.Ask (z1.x1 = z1.x1)) ∧ Sx.Ask z0 ∧ Sx.Ask ((0 : Int) = (0 : Int))) (by kernel_rfl) ?_
  simp only [ask_iff, br_iff, eq_self, true_and, and_true, implies_true, forall_const, decide_eq_true_eq, decide_eq_false_iff_not, ne_eq, Nat.mul_one, Nat.add_zero, Nat.zero_add]
  exact ⟨rfl, hg⟩
noncomputable def spWithE : FSpec := mkSpec 49 (γ := DiG) (fun | [s, .int _ w, .fn _ _ _] => some ⟨⟨slLen s, rgD s⟩, w.toNat⟩ | _ => none) (fun h => [rgS h.g, .int .i64 h.w, .fn 51 0 (lst [])]) DiG.Ok (fun h => Rgc.okP (runsS (ero h)))
theorem ok_withE : SpecOK Try.prog spWithE := by
  refine spec_sound (specs := [spCheckM, spErode]) (all_ok (⟨ok_checkM, ok_erode, trivial⟩)) (eqs := []) (fun _ _ h => (List.not_mem_nil h).elim) Aff.mixed Try.func49 rfl (by kernel_rfl) (fun _ _ => by kernel_rfl) (fun g => A0) (fun g => Nat.le_of_ble_eq_true (by kernel_rfl)) ?_
  rintro g hg
  refine vc_of (B := let z1 := (IntKind.i64 = IntKind.i64);let z0 := ((Sx.Ask (g.g.n = g.g.n) ∧ ∀ (i : Nat), i < g.g.n → ((True ∧ Sx.Ask z1 ∧ Sx.Ask ((g.g.f i).y = (g.g.f i).y)) ∧ Sx.Ask z1 ∧ Sx.Ask ((g.g.f i).x0 = (g.g.f i).x0)) ∧ Sx.Ask z1 ∧ Sx.Ask ((g.g.f i).x1 = (g.g.f i).x1)) ∧ (Sx.Ask z1 ∧ Sx.Ask ((↑g.w : Int) = (↑(↑g.w : Int).toNat : Int))) ∧ True);True ∧ True ∧ True ∧ True ∧ (z0 ∧ Sx.Ask (Rga.vld g.g.L ∧ g.w ≤ (64 : Nat))) ∧ True ∧ True ∧ True ∧ True ∧ True ∧ True ∧ (z0 ∧ Sx.Ask g.Ok) ∧ True ∧ True ∧ True ∧ (True ∧ Sx.Ask ((Moe.ero g).length = (Moe.ero g).length) ∧ ∀ (i : Nat), let z2 := (Rga.rI (Moe.ero g) i); i < (Moe.ero g).length → ((True ∧ Sx.Ask z1 ∧ Sx.Ask (z2.y = z2.y)) ∧ Sx.Ask z1 ∧ Sx.Ask (z2.x0 = z2.x0)) ∧ Sx.Ask z1 ∧ Sx.Ask (z2.x1 = z2.x1)) ∧ Sx.Ask z1 ∧ Sx.Ask ((0 : Int) = (0 : Int))) (by kernel_rfl) ?_
  simp only [ask_iff, br_iff, eq_self, true_and, and_true, implies_true, forall_const, decide_eq_true_eq, decide_eq_false_iff_not, ne_eq, Nat.mul_one, Nat.add_zero, Nat.zero_add]
  exact ⟨⟨rfl, (hg : g.Ok).g.v, (hg : g.Ok).w⟩, rfl, hg⟩
noncomputable def spErode : FSpec := mkSpec 26 (γ := DiG) (fun | [s, .int _ w] => some ⟨⟨slLen s, rgD s⟩, w.toNat⟩ | _ => none) (fun h => [rgS h.g, .int .i64 h.w]) DiG.Ok (fun h => Rgc.okP (runsS (ero h)))
theorem ok_Erode : SpecOK Try.prog spErode := by
  refine spec_sound (specs := [spWithE]) (all_ok (⟨ok_withE, trivial⟩)) (eqs := []) (fun _ _ h => (List.not_mem_nil h).elim) Aff.mixed Try.func26 rfl (by kernel_rfl) (fun _ _ => by kernel_rfl) (fun g => A0) (fun g => Nat.le_of_ble_eq_true (by kernel_rfl)) ?_
  rintro g hg
  refine vc_of (B := let z0 := (IntKind.i64 = IntKind.i64);True ∧ True ∧ True ∧ True ∧ (((Sx.Ask (g.g.n = g.g.n) ∧ ∀ (i : Nat), i < g.g.n → ((True ∧ Sx.Ask z0 ∧ Sx.Ask ((g.g.f i).y = (g.g.f i).y)) ∧ Sx.Ask z0 ∧ Sx.Ask ((g.g.f i).x0 = (g.g.f i).x0)) ∧ Sx.Ask z0 ∧ Sx.Ask ((g.g.f i).x1 = (g.g.f i).x1)) ∧ (Sx.Ask z0 ∧ Sx.Ask ((↑g.w : Int) = (↑(↑g.w : Int).toNat : Int))) ∧ (Sx.Ask ((51 : Nat) = (51 : Go.FuncId)) ∧ True) ∧ True) ∧ Sx.Ask g.Ok) ∧ True ∧ True ∧ True ∧ True ∧ True ∧ (True ∧ Sx.Ask ((Moe.ero g).length = (Moe.ero g).length) ∧ ∀ (i : Nat), let z1 := (Rga.rI (Moe.ero g) i); i < (Moe.ero g).length → ((True ∧ Sx.Ask z0 ∧ Sx.Ask (z1.y = z1.y)) ∧ Sx.Ask z0 ∧ Sx.Ask (z1.x0 = z1.x0)) ∧ Sx.Ask z0 ∧ Sx.Ask (z1.x1 = z1.x1)) ∧ Sx.Ask z0 ∧ Sx.Ask ((0 : Int) = (0 : Int))) (by kernel_rfl) ?_
  simp only [ask_iff, br_iff, eq_self, true_and, and_true, implies_true, forall_const, decide_eq_true_eq, decide_eq_false_iff_not, ne_eq, Nat.mul_one, Nat.add_zero, Nat.zero_add]
  exact ⟨rfl, hg⟩
noncomputable def spWithO : FSpec := mkSpec 49 (γ := DiG) (fun | [s, .int _ w, .fn _ _ _] => some ⟨⟨slLen s, rgD s⟩, w.toNat⟩ | _ => none) (fun h => [rgS h.g, .int .i64 h.w, .fn 52 0 (lst [])]) OpOk (fun h => Rgc.okP (runsS (opn h)))
theorem ok_withO : SpecOK Try.prog spWithO := by
  refine spec_sound (specs := [spCheckM, spOpen1]) (all_ok (⟨ok_checkM, ok_open1, trivial⟩)) (eqs := []) (fun _ _ h => (List.not_mem_nil h).elim) Aff.mixed Try.func49 rfl (by kernel_rfl) (fun _ _ => by kernel_rfl) (fun g => A0) (fun g => Nat.le_of_ble_eq_true (by kernel_rfl)) ?_
  rintro g hg
  refine vc_of (B := let z1 := (IntKind.i64 = IntKind.i64);let z0 := ((Sx.Ask (g.g.n = g.g.n) ∧ ∀ (i : Nat), i < g.g.n → ((True ∧ Sx.Ask z1 ∧ Sx.Ask ((g.g.f i).y = (g.g.f i).y)) ∧ Sx.Ask z1 ∧ Sx.Ask ((g.g.f i).x0 = (g.g.f i).x0)) ∧ Sx.Ask z1 ∧ Sx.Ask ((g.g.f i).x1 = (g.g.f i).x1)) ∧ (Sx.Ask z1 ∧ Sx.Ask ((↑g.w : Int) = (↑(↑g.w : Int).toNat : Int))) ∧ True);True ∧ True ∧ True ∧ True ∧ (z0 ∧ Sx.Ask (Rga.vld g.g.L ∧ g.w ≤ (64 : Nat))) ∧ True ∧ True ∧ True ∧ True ∧ True ∧ True ∧ (z0 ∧ Sx.Ask (OpOk g)) ∧ True ∧ True ∧ True ∧ (True ∧ Sx.Ask ((opn g).length = (opn g).length) ∧ ∀ (i : Nat), let z2 := (Rga.rI (opn g) i); i < (opn g).length → ((True ∧ Sx.Ask z1 ∧ Sx.Ask (z2.y = z2.y)) ∧ Sx.Ask z1 ∧ Sx.Ask (z2.x0 = z2.x0)) ∧ Sx.Ask z1 ∧ Sx.Ask (z2.x1 = z2.x1)) ∧ Sx.Ask z1 ∧ Sx.Ask ((0 : Int) = (0 : Int))) (by kernel_rfl) ?_
  simp only [ask_iff, br_iff, eq_self, true_and, and_true, implies_true, forall_const, decide_eq_true_eq, decide_eq_false_iff_not, ne_eq, Nat.mul_one, Nat.add_zero, Nat.zero_add]
  exact ⟨⟨rfl, hg.a.g.v, hg.a.w⟩, rfl, hg⟩
noncomputable def spOpen : FSpec := mkSpec 28 (γ := DiG) (fun | [s, .int _ w] => some ⟨⟨slLen s, rgD s⟩, w.toNat⟩ | _ => none) (fun h => [rgS h.g, .int .i64 h.w]) OpOk (fun h => Rgc.okP (runsS (opn h)))
theorem ok_Open : SpecOK Try.prog spOpen := by
  refine spec_sound (specs := [spWithO]) (all_ok (⟨ok_withO, trivial⟩)) (eqs := []) (fun _ _ h => (List.not_mem_nil h).elim) Aff.mixed Try.func28 rfl (by kernel_rfl) (fun _ _ => by kernel_rfl) (fun g => A0) (fun g => Nat.le_of_ble_eq_true (by kernel_rfl)) ?_
  rintro g hg
  refine vc_of (B := let z0 := (IntKind.i64 = IntKind.i64);True ∧ True ∧ True ∧ True ∧ (((Sx.Ask (g.g.n = g.g.n) ∧ ∀ (i : Nat), i < g.g.n → ((True ∧ Sx.Ask z0 ∧ Sx.Ask ((g.g.f i).y = (g.g.f i).y)) ∧ Sx.Ask z0 ∧ Sx.Ask ((g.g.f i).x0 = (g.g.f i).x0)) ∧ Sx.Ask z0 ∧ Sx.Ask ((g.g.f i).x1 = (g.g.f i).x1)) ∧ (Sx.Ask z0 ∧ Sx.Ask ((↑g.w : Int) = (↑(↑g.w : Int).toNat : Int))) ∧ (Sx.Ask ((52 : Nat) = (52 : Go.FuncId)) ∧ True) ∧ True) ∧ Sx.Ask (OpOk g)) ∧ True ∧ True ∧ True ∧ True ∧ True ∧ (True ∧ Sx.Ask ((opn g).length = (opn g).length) ∧ ∀ (i : Nat), let z1 := (Rga.rI (opn g) i); i < (opn g).length → ((True ∧ Sx.Ask z0 ∧ Sx.Ask (z1.y = z1.y)) ∧ Sx.Ask z0 ∧ Sx.Ask (z1.x0 = z1.x0)) ∧ Sx.Ask z0 ∧ Sx.Ask (z1.x1 = z1.x1)) ∧ Sx.Ask z0 ∧ Sx.Ask ((0 : Int) = (0 : Int))) (by kernel_rfl) ?_
  simp only [ask_iff, br_iff, eq_self, true_and, and_true, implies_true, forall_const, decide_eq_true_eq, decide_eq_false_iff_not, ne_eq, Nat.mul_one, Nat.add_zero, Nat.zero_add]
  exact ⟨rfl, hg⟩
noncomputable def spWithC : FSpec := mkSpec 49 (γ := DiG) (fun | [s, .int _ w, .fn _ _ _] => some ⟨⟨slLen s, rgD s⟩, w.toNat⟩ | _ => none) (fun h => [rgS h.g, .int .i64 h.w, .fn 53 0 (lst [])]) ClOk (fun h => Rgc.okP (runsS (cls h)))
theorem ok_withC : SpecOK Try.prog spWithC := by
  refine spec_sound (specs := [spCheckM, spClose1]) (all_ok (⟨ok_checkM, ok_close1, trivial⟩)) (eqs := []) (fun _ _ h => (List.not_mem_nil h).elim) Aff.mixed Try.func49 rfl (by kernel_rfl) (fun _ _ => by kernel_rfl) (fun g => A0) (fun g => Nat.le_of_ble_eq_true (by kernel_rfl)) ?_
  rintro g hg
  refine vc_of (B := let z1 := (IntKind.i64 = IntKind.i64);let z0 := ((Sx.Ask (g.g.n = g.g.n) ∧ ∀ (i : Nat), i < g.g.n → ((True ∧ Sx.Ask z1 ∧ Sx.Ask ((g.g.f i).y = (g.g.f i).y)) ∧ Sx.Ask z1 ∧ Sx.Ask ((g.g.f i).x0 = (g.g.f i).x0)) ∧ Sx.Ask z1 ∧ Sx.Ask ((g.g.f i).x1 = (g.g.f i).x1)) ∧ (Sx.Ask z1 ∧ Sx.Ask ((↑g.w : Int) = (↑(↑g.w : Int).toNat : Int))) ∧ True);True ∧ True ∧ True ∧ True ∧ (z0 ∧ Sx.Ask (Rga.vld g.g.L ∧ g.w ≤ (64 : Nat))) ∧ True ∧ True ∧ True ∧ True ∧ True ∧ True ∧ (z0 ∧ Sx.Ask (ClOk g)) ∧ True ∧ True ∧ True ∧ (True ∧ Sx.Ask ((cls g).length = (cls g).length) ∧ ∀ (i : Nat), let z2 := (Rga.rI (cls g) i); i < (cls g).length → ((True ∧ Sx.Ask z1 ∧ Sx.Ask (z2.y = z2.y)) ∧ Sx.Ask z1 ∧ Sx.Ask (z2.x0 = z2.x0)) ∧ Sx.Ask z1 ∧ Sx.Ask (z2.x1 = z2.x1)) ∧ Sx.Ask z1 ∧ Sx.Ask ((0 : Int) = (0 : Int))) (by kernel_rfl) ?_
  simp only [ask_iff, br_iff, eq_self, true_and, and_true, implies_true, forall_const, decide_eq_true_eq, decide_eq_false_iff_not, ne_eq, Nat.mul_one, Nat.add_zero, Nat.zero_add]
  exact ⟨⟨rfl, hg.a.g.v, hg.a.w⟩, rfl, hg⟩
noncomputable def spClose : FSpec := mkSpec 29 (γ := DiG) (fun | [s, .int _ w] => some ⟨⟨slLen s, rgD s⟩, w.toNat⟩ | _ => none) (fun h => [rgS h.g, .int .i64 h.w]) ClOk (fun h => Rgc.okP (runsS (cls h)))
theorem ok_Close : SpecOK Try.prog spClose := by
  refine spec_sound (specs := [spWithC]) (all_ok (⟨ok_withC, trivial⟩)) (eqs := []) (fun _ _ h => (List.not_mem_nil h).elim) Aff.mixed Try.func29 rfl (by kernel_rfl) (fun _ _ => by kernel_rfl) (fun g => A0) (fun g => Nat.le_of_ble_eq_true (by kernel_rfl)) ?_
  rintro g hg
  refine vc_of (B := let z0 := (IntKind.i64 = IntKind.i64);True ∧ True ∧ True ∧ True ∧ (((Sx.Ask (g.g.n = g.g.n) ∧ ∀ (i : Nat), i < g.g.n → ((True ∧ Sx.Ask z0 ∧ Sx.Ask ((g.g.f i).y = (g.g.f i).y)) ∧ Sx.Ask z0 ∧ Sx.Ask ((g.g.f i).x0 = (g.g.f i).x0)) ∧ Sx.Ask z0 ∧ Sx.Ask ((g.g.f i).x1 = (g.g.f i).x1)) ∧ (Sx.Ask z0 ∧ Sx.Ask ((↑g.w : Int) = (↑(↑g.w : Int).toNat : Int))) ∧ (Sx.Ask ((53 : Nat) = (53 : Go.FuncId)) ∧ True) ∧ True) ∧ Sx.Ask (ClOk g)) ∧ True ∧ True ∧ True ∧ True ∧ True ∧ (True ∧ Sx.Ask ((cls g).length = (cls g).length) ∧ ∀ (i : Nat), let z1 := (Rga.rI (cls g) i); i < (cls g).length → ((True ∧ Sx.Ask z0 ∧ Sx.Ask (z1.y = z1.y)) ∧ Sx.Ask z0 ∧ Sx.Ask (z1.x0 = z1.x0)) ∧ Sx.Ask z0 ∧ Sx.Ask (z1.x1 = z1.x1)) ∧ Sx.Ask z0 ∧ Sx.Ask ((0 : Int) = (0 : Int))) (by kernel_rfl) ?_
  simp only [ask_iff, br_iff, eq_self, true_and, and_true, implies_true, forall_const, decide_eq_true_eq, decide_eq_false_iff_not, ne_eq, Nat.mul_one, Nat.add_zero, Nat.zero_add]
  exact ⟨rfl, hg⟩
structure TwG where
  a : Rg
  b : Rg
noncomputable def spWithin : FSpec := mkSpec 27 (γ := TwG) (fun | [s, t] => some ⟨⟨slLen s, rgD s⟩, ⟨slLen t, rgD t⟩⟩ | _ => none) (fun g => [rgS g.a, rgS g.b]) (fun g => vld g.a.L ∧ vld g.b.L) (fun g => .bool (decide ((Rgb.cbOut Rgb.mn ⟨g.a, g.b⟩).length = 0)))
theorem ok_within : SpecOK Try.prog spWithin := by
  refine spec_sound (specs := [Rgc.spMinus]) (all_ok (⟨Rgc.ok_Minus, trivial⟩)) (eqs := []) (fun _ _ h => (List.not_mem_nil h).elim) Aff.mixed Try.func27 rfl (by kernel_rfl) (fun _ _ => by kernel_rfl) (fun g => A0) (fun g => Nat.le_of_ble_eq_true (by kernel_rfl)) ?_
  rintro g hg
  refine vc_of (B := let z1 := (Rgb.cbOut Rgb.mn (Rgm.CbG.mk g.a g.b));let z0 := (IntKind.i64 = IntKind.i64);True ∧ True ∧ True ∧ (((Sx.Ask (g.a.n = g.a.n) ∧ ∀ (i : Nat), i < g.a.n → ((True ∧ Sx.Ask z0 ∧ Sx.Ask ((g.a.f i).y = (g.a.f i).y)) ∧ Sx.Ask z0 ∧ Sx.Ask ((g.a.f i).x0 = (g.a.f i).x0)) ∧ Sx.Ask z0 ∧ Sx.Ask ((g.a.f i).x1 = (g.a.f i).x1)) ∧ (Sx.Ask (g.b.n = g.b.n) ∧ ∀ (i : Nat), i < g.b.n → ((True ∧ Sx.Ask z0 ∧ Sx.Ask ((g.b.f i).y = (g.b.f i).y)) ∧ Sx.Ask z0 ∧ Sx.Ask ((g.b.f i).x0 = (g.b.f i).x0)) ∧ Sx.Ask z0 ∧ Sx.Ask ((g.b.f i).x1 = (g.b.f i).x1)) ∧ True) ∧ Sx.Ask (Rga.vld g.a.L ∧ Rga.vld g.b.L)) ∧ True ∧ True ∧ True ∧ True ∧ True ∧ True ∧ True ∧ True ∧ True ∧ True ∧ True ∧ True ∧ True ∧ True ∧ Sx.Ask (decide ((↑z1.length : Int) = (0 : Int)) = decide (z1.length = (0 : Nat)))) (by kernel_rfl) ?_
  simp only [ask_iff, br_iff, eq_self, true_and, and_true, implies_true, forall_const, decide_eq_true_eq, decide_eq_false_iff_not, ne_eq, Nat.mul_one, Nat.add_zero, Nat.zero_add]
  refine ⟨hg, ?_⟩
  congr 1
  exact propext (by omega)
/-! squares. -/
noncomputable def spSquares : FSpec := mkSpec 22 (γ := Unit) (fun | [] => some () | _ => none) (fun _ => []) (fun _ => True) (fun _ => .lit true)
theorem ok_squares : SpecOK Try.prog spSquares := by
  refine spec_sound (specs := [giv spDilate, Rgd.spRect, Rgc.spEqR]) (all_ok (⟨giv_ok ok_Dilate, Rgd.ok_rect, Rgc.ok_eqR, trivial⟩)) (eqs := []) (fun _ _ h => (List.not_mem_nil h).elim) Aff.mixed Try.func22 rfl (by kernel_rfl) (fun _ _ => by kernel_rfl) (fun g => A0) (fun g => Nat.le_of_ble_eq_true (by kernel_rfl)) ?_
  rintro _ _
  refine vc_of (B := let z3 := (Rgd.ReG.mk (4 : Int) (4 : Int) (7 : Int) (7 : Int));let z2 := (IntKind.i64 = IntKind.i64); let z7 := (Sx.Ask z2 ∧ Sx.Ask ((7 : Int) = (7 : Int))); let z6 := (Sx.Ask z2 ∧ Sx.Ask ((4 : Int) = (4 : Int)));let z1 := (Rgn.Lf z3.f z3.n);let z0 := (Mol.DiG.mk (Rga.Rg.mk (1 : Nat) fun (i : Nat) => Rga.Rn.mk (5 : Int) (5 : Int) (6 : Int)) (Int.toNat (1 : Int)));True ∧ True ∧ True ∧ (((Sx.Ask ((1 : Nat) = (1 : Nat)) ∧ ∀ (i : Nat), i < (1 : Nat) → ((True ∧ Sx.Ask z2 ∧ Sx.Ask ((5 : Int) = (5 : Int))) ∧ Sx.Ask z2 ∧ Sx.Ask ((5 : Int) = (5 : Int))) ∧ Sx.Ask z2 ∧ Sx.Ask ((6 : Int) = (6 : Int))) ∧ (Sx.Ask z2 ∧ Sx.Ask ((1 : Int) = (↑(Int.toNat (1 : Int)) : Int))) ∧ True) ∧ Sx.Ask (DiOk z0)) ∧ True ∧ True ∧ True ∧ True ∧ True ∧ ((z6 ∧ z6 ∧ z7 ∧ z7 ∧ True) ∧ Sx.Ask z3.ok) ∧ True ∧ True ∧ True ∧ True ∧ True ∧ True ∧ True ∧ True ∧ True ∧ True ∧ True ∧ True ∧ True ∧ Sx.Br (decide ((↑z0.o.length : Int) = (3 : Int))) (True ∧ True ∧ (((Sx.Ask (z0.o.length = z0.o.length) ∧ ∀ (i : Nat), let z4 := (Rga.rI z0.o i); i < z0.o.length → ((True ∧ Sx.Ask z2 ∧ Sx.Ask (z4.y = z4.y)) ∧ Sx.Ask z2 ∧ Sx.Ask (z4.x0 = z4.x0)) ∧ Sx.Ask z2 ∧ Sx.Ask (z4.x1 = z4.x1)) ∧ (Sx.Ask (z1.length = z1.length) ∧ ∀ (i : Nat), let z5 := (Rga.rI z1 i); i < z1.length → ((True ∧ Sx.Ask z2 ∧ Sx.Ask (z5.y = z5.y)) ∧ Sx.Ask z2 ∧ Sx.Ask (z5.x0 = z5.x0)) ∧ Sx.Ask z2 ∧ Sx.Ask (z5.x1 = z5.x1)) ∧ True) ∧ Sx.Ask (Rgc.EqG.mk (Rga.Rg.mk z0.o.length (Rga.rI z0.o)) (Rga.Rg.mk z1.length (Rga.rI z1))).ok) ∧ True ∧ True ∧ True ∧ Sx.Ask (true = true)) (True ∧ True ∧ True ∧ Sx.Ask (false = true))) (by kernel_rfl) ?_
  simp only [ask_iff, br_iff, eq_self, true_and, and_true, implies_true, forall_const, decide_eq_true_eq, decide_eq_false_iff_not, ne_eq, Nat.mul_one, Nat.add_zero, Nat.zero_add]
  have ew : Int.toNat 1 = 1 := rfl
  have eo : DiG.o ⟨⟨1, fun _ => ⟨5, 5, 6⟩⟩, 1⟩ = [⟨4, 4, 7⟩, ⟨5, 4, 7⟩, ⟨6, 4, 7⟩] := sq_o
  have hv : vld [⟨4, 4, 7⟩, ⟨5, 4, 7⟩, ⟨6, 4, 7⟩] := eo ▸ DiG.o_vld _
  rw [ew, eo]
  refine ⟨⟨rfl, sq_ok, by decide⟩, ⟨by decide, by decide, by decide, by decide, by decide, by decide⟩, fun _ => ⟨hv, rfl⟩, fun h => absurd rfl h⟩
end Go.Proofs.Ytfjbjbmbdadmhaa.Mop
