/- printworkskeep1.box, fills: by the evaluation. -/
import Derived.Test.YtppdojjhegiffaaFlg
import Derived.Test.YtppdojjhegiffaaFlt
import Derived.Test.YtppdojjhegiffaaRgd
set_option linter.unusedSimpArgs false
set_option linter.unusedVariables false
namespace Go.Proofs.Ytppdojjhegiffaa.Flh
open Go.RowKit Sx Num Aff Con Rga Rgl Fla Flb Flc Fld Fle Flp Flf
set_option maxRecDepth 100000
/-! The box. -/
def boxL : List Cop.Seg := [⟨1, 0, 0, 0, 0, 0⟩, ⟨2, 4, 0, 0, 0, 0⟩, ⟨2, 4, 2, 0, 0, 0⟩, ⟨2, 0, 2, 0, 0, 0⟩, ⟨4, 0, 0, 0, 0, 0⟩]
def boxF (i : Nat) : Cop.Seg := boxL.getD i ⟨0, 0, 0, 0, 0, 0⟩
def boxP : Pth.Pth := ⟨5, boxF⟩
def spRectP : FSpec := mkSpec 71 (γ := Unit) (fun | [_, _, _, _] => some () | _ => none) (fun _ => [.int .i64 0, .int .i64 0, .int .i64 4, .int .i64 2]) (fun _ => True) (fun _ => .tup 2 (lst [Pth.pthS boxP, .int .i64 0]))
theorem ok_rectP : SpecOK Try.prog spRectP := by
  refine spec_sound (specs := [giv Cop.spWithinL]) (all_ok (⟨giv_ok Cop.ok_withinL, trivial⟩)) (eqs := []) (fun _ _ h => (List.not_mem_nil h).elim) Aff.mixed Try.func71 rfl (by kernel_rfl) (fun _ _ => by kernel_rfl) (fun g => A0) (fun g => Nat.le_of_ble_eq_true (by kernel_rfl)) ?_
  rintro g hg
  refine vc_of (B := let z3 := (4 : Nat);let z2 := (0 : Int);let z1 := (IntKind.i64 = IntKind.i64);True ∧ True ∧ True ∧ True ∧ True ∧ True ∧ True ∧ (((Sx.Ask (z3 = z3) ∧ ∀ (i : Nat), i < z3 → True ∧ Sx.Ask z1 ∧ Sx.Ask ((bif decide (i = (3 : Nat)) then (2 : Int) else bif decide (i = (2 : Nat)) then (4 : Int) else bif decide (i = (1 : Nat)) then z2 else z2) = bif decide (i = (3 : Nat)) then (2 : Int) else bif decide (i = (2 : Nat)) then (4 : Int) else bif decide (i = (1 : Nat)) then z2 else z2)) ∧ True) ∧ Sx.Ask (z3 ≤ (4294967296 : Nat))) ∧ True ∧ True ∧ True ∧ True ∧ True ∧ True ∧ True ∧ True ∧ True ∧ True ∧ True ∧ True ∧ True ∧ True ∧ True ∧ True ∧ True ∧ True ∧ True ∧ True ∧ True ∧ True ∧ True ∧ True ∧ True ∧ True ∧ (True ∧ Sx.Ask ((5 : Nat) = (5 : Nat)) ∧ ∀ (i : Nat), let z6 := (i = (1 : Nat)); let z5 := (i = (2 : Nat)); let z4 := (i = (3 : Nat)); let z0 := (bif decide (i = z3) then z2 else bif decide z4 then z2 else bif decide z5 then z2 else bif decide z6 then z2 else z2); i < (5 : Nat) → (((((True ∧ Sx.Ask z1 ∧ Sx.Ask ((bif decide (i = z3) then (4 : Int) else bif decide z4 then (2 : Int) else bif decide z5 then (2 : Int) else bif decide z6 then (2 : Int) else (1 : Int)) = (boxP.f i).k)) ∧ Sx.Ask z1 ∧ Sx.Ask ((bif decide (i = z3) then z2 else bif decide z4 then z2 else bif decide z5 then (4 : Int) else bif decide z6 then (4 : Int) else z2) = (boxP.f i).x)) ∧ Sx.Ask z1 ∧ Sx.Ask ((bif decide (i = z3) then z2 else bif decide z4 then (2 : Int) else bif decide z5 then (2 : Int) else bif decide z6 then z2 else z2) = (boxP.f i).y)) ∧ Sx.Ask z1 ∧ Sx.Ask (z0 = (boxP.f i).u)) ∧ Sx.Ask z1 ∧ Sx.Ask (z0 = (boxP.f i).v)) ∧ Sx.Ask z1 ∧ Sx.Ask (z0 = (boxP.f i).w)) ∧ Sx.Ask z1 ∧ Sx.Ask (z2 = z2)) (by kernel_rfl) ?_
  simp only [ask_iff, br_iff, eq_self, true_and, and_true, implies_true, forall_const, decide_eq_true_eq, decide_eq_false_iff_not, ne_eq, Nat.mul_one, Nat.add_zero, Nat.zero_add, Int.toNat_natCast, and_self, List.append_assoc, false_and, and_false]
  refine ⟨by decide, fun i hi => ?_⟩
  match i, hi with
  | 0, _ => exact ⟨⟨⟨⟨⟨rfl, rfl⟩, rfl⟩, rfl⟩, rfl⟩, rfl⟩
  | 1, _ => exact ⟨⟨⟨⟨⟨rfl, rfl⟩, rfl⟩, rfl⟩, rfl⟩, rfl⟩
  | 2, _ => exact ⟨⟨⟨⟨⟨rfl, rfl⟩, rfl⟩, rfl⟩, rfl⟩, rfl⟩
  | 3, _ => exact ⟨⟨⟨⟨⟨rfl, rfl⟩, rfl⟩, rfl⟩, rfl⟩, rfl⟩
  | 4, _ => exact ⟨⟨⟨⟨⟨rfl, rfl⟩, rfl⟩, rfl⟩, rfl⟩, rfl⟩
def spBox : FSpec := mkSpec 48 (γ := Unit) (fun | [] => some () | _ => none) (fun _ => []) (fun _ => True) (fun _ => Pth.pthS boxP)
theorem ok_box : SpecOK Try.prog spBox := by
  refine spec_sound (specs := [spRectP]) (all_ok (⟨ok_rectP, trivial⟩)) (eqs := []) (fun _ _ h => (List.not_mem_nil h).elim) Aff.mixed Try.func48 rfl (by kernel_rfl) (fun _ _ => by kernel_rfl) (fun g => A0) (fun g => Nat.le_of_ble_eq_true (by kernel_rfl)) ?_
  rintro g hg
  refine vc_of (B := let z0 := (IntKind.i64 = IntKind.i64); let z2 := (Sx.Ask z0 ∧ Sx.Ask ((0 : Int) = (0 : Int)));True ∧ ((z2 ∧ z2 ∧ (Sx.Ask z0 ∧ Sx.Ask ((4 : Int) = (4 : Int))) ∧ (Sx.Ask z0 ∧ Sx.Ask ((2 : Int) = (2 : Int))) ∧ True) ∧ Sx.Ask True) ∧ True ∧ True ∧ True ∧ True ∧ True ∧ True ∧ True ∧ True ∧ Sx.Ask ((5 : Nat) = (5 : Nat)) ∧ ∀ (i : Nat), let z1 := (boxP.f i); i < (5 : Nat) → (((((True ∧ Sx.Ask z0 ∧ Sx.Ask (z1.k = z1.k)) ∧ Sx.Ask z0 ∧ Sx.Ask (z1.x = z1.x)) ∧ Sx.Ask z0 ∧ Sx.Ask (z1.y = z1.y)) ∧ Sx.Ask z0 ∧ Sx.Ask (z1.u = z1.u)) ∧ Sx.Ask z0 ∧ Sx.Ask (z1.v = z1.v)) ∧ Sx.Ask z0 ∧ Sx.Ask (z1.w = z1.w)) (by kernel_rfl) ?_
  simp only [ask_iff, br_iff, eq_self, true_and, and_true, implies_true, forall_const, decide_eq_true_eq, decide_eq_false_iff_not, ne_eq, Nat.mul_one, Nat.add_zero, Nat.zero_add, Int.toNat_natCast, and_self, List.append_assoc, false_and, and_false]
/-! What it has. -/
structure IsBox (g : Lns) : Prop where
  n : g.n = 1
  m : (g.f 0).n = 4
  p0 : (g.f 0).f 0 = ⟨0, 0⟩
  p1 : (g.f 0).f 1 = ⟨4, 0⟩
  p2 : (g.f 0).f 2 = ⟨4, 2⟩
  p3 : (g.f 0).f 3 = ⟨0, 2⟩
theorem IsBox.E {g : Lns} (h : IsBox g) : g.E = [⟨4, 0, 2, 0, 2, 1⟩, ⟨0, 0, 2, 0, 2, -1⟩] := by
  unfold Lns.E
  rw [h.n]
  show [] ++ (g.f 0).ed (g.f 0).n = _
  rw [h.m]
  show [] ++ ((((([] : List Ed) ++ mkE ((g.f 0).f 0) ((g.f 0).f ((0 + 1) % (g.f 0).n))) ++ mkE ((g.f 0).f 1) ((g.f 0).f ((1 + 1) % (g.f 0).n))) ++ mkE ((g.f 0).f 2) ((g.f 0).f ((2 + 1) % (g.f 0).n))) ++ mkE ((g.f 0).f 3) ((g.f 0).f ((3 + 1) % (g.f 0).n))) = _
  rw [h.m]
  show [] ++ ((((([] : List Ed) ++ mkE ((g.f 0).f 0) ((g.f 0).f 1)) ++ mkE ((g.f 0).f 1) ((g.f 0).f 2)) ++ mkE ((g.f 0).f 2) ((g.f 0).f 3)) ++ mkE ((g.f 0).f 3) ((g.f 0).f 0)) = _
  rw [h.p0, h.p1, h.p2, h.p3]
  rfl
theorem IsBox.fin {g : Lns} (h : IsBox g) : g.fin := by
  refine ⟨by rw [h.n]; decide, fun i hi => ?_⟩
  obtain rfl : i = 0 := by have := h.n; omega
  refine ⟨by rw [h.m]; decide, fun i hi => ?_⟩
  rw [h.m] at hi
  match i, hi with
  | 0, _ => rw [h.p0]; exact ⟨⟨by decide, by decide⟩, by decide, by decide⟩
  | 1, _ => rw [h.p1]; exact ⟨⟨by decide, by decide⟩, by decide, by decide⟩
  | 2, _ => rw [h.p2]; exact ⟨⟨by decide, by decide⟩, by decide, by decide⟩
  | 3, _ => rw [h.p3]; exact ⟨⟨by decide, by decide⟩, by decide, by decide⟩
def lB : List Rn := [⟨0, 0, 4⟩, ⟨1, 0, 4⟩]
theorem vB : vld lB := by
  refine ⟨fun r hr => ?_, List.pairwise_cons.2 ⟨fun r hr => ?_, List.pairwise_singleton _ _⟩⟩
  · rcases List.mem_cons.1 hr with rfl | hr
    · exact ⟨⟨⟨by decide, by decide⟩, ⟨by decide, by decide⟩, by decide, by decide⟩, by decide⟩
    · rw [List.mem_singleton.1 hr]
      exact ⟨⟨⟨by decide, by decide⟩, ⟨by decide, by decide⟩, by decide, by decide⟩, by decide⟩
  · rw [List.mem_singleton.1 hr]
    exact .inl (by decide)
theorem IsBox.fill {g : Lns} (h : IsBox g) : fillL ins1 g = lB := by
  refine ofSet_eq vB fun y x => ?_
  rw [h.E]
  have f1 : Ed.first ⟨4, 0, 2, 0, 2, 1⟩ y = 4 := by unfold Ed.first Ed.num; simp
  have f2 : Ed.first ⟨0, 0, 2, 0, 2, -1⟩ y = 0 := by unfold Ed.first Ed.num; simp
  have e1 : wE (eI [⟨4, 0, 2, 0, 2, 1⟩, ⟨0, 0, 2, 0, 2, -1⟩]) 2 y x = (if (0 ≤ y ∧ y < 2) ∧ 4 ≤ x then 1 else 0) + (if (0 ≤ y ∧ y < 2) ∧ 0 ≤ x then -1 else 0) := by
    show 0 + (if Ed.on ⟨4, 0, 2, 0, 2, 1⟩ y = true ∧ Ed.first ⟨4, 0, 2, 0, 2, 1⟩ y ≤ x then (1 : Int) else 0) + (if Ed.on ⟨0, 0, 2, 0, 2, -1⟩ y = true ∧ Ed.first ⟨0, 0, 2, 0, 2, -1⟩ y ≤ x then (-1 : Int) else 0) = _
    rw [f1, f2, Int.zero_add]
    unfold Ed.on
    simp only [decide_eq_true_eq]
  show mem lB y x = chi ins1 (eI [⟨4, 0, 2, 0, 2, 1⟩, ⟨0, 0, 2, 0, 2, -1⟩]) 2 y x
  unfold chi ins1
  rw [e1, Bool.eq_iff_iff, Bool.and_eq_true, decide_eq_true_iff, decide_eq_true_iff]
  show ((inR ⟨0, 0, 4⟩ y x || (inR ⟨1, 0, 4⟩ y x || false)) = true) ↔ _
  rw [Bool.or_false, Bool.or_eq_true, inR_iff, inR_iff]
  show (((0 : Int) = y ∧ 0 ≤ x ∧ x < 4) ∨ ((1 : Int) = y ∧ 0 ≤ x ∧ x < 4)) ↔ _
  split <;> split <;> omega
def spFills : FSpec := mkSpec 25 (γ := Unit) (fun | [] => some () | _ => none) (fun _ => []) (fun _ => True) (fun _ => .lit true)
theorem ok_fills : SpecOK Try.prog spFills := by
  refine spec_sound (specs := [spBox, Flt.spFlat, spFill1, Rgd.spRect, giv Rgc.spEqR]) (all_ok (⟨ok_box, Flt.ok_flat, ok_fill1, Rgd.ok_rect, giv_ok Rgc.ok_eqR, trivial⟩)) (eqs := []) (fun _ _ h => (List.not_mem_nil h).elim) Aff.mixed Try.func25 rfl (by kernel_rfl) (fun _ _ => by kernel_rfl) (fun g => A0) (fun g => Nat.le_of_ble_eq_true (by kernel_rfl)) ?_
  rintro g hg
  refine vc_of (B := let z11 := (5 : Nat);let z6 := (Rgd.ReG.mk (0 : Int) (0 : Int) (4 : Int) (2 : Int));let z3 := (Pth.Pth.mk z11 boxF);let z2 := (IntKind.i64 = IntKind.i64); let z7 := (Sx.Ask z2 ∧ Sx.Ask ((0 : Int) = (0 : Int)));let z1 := (Rgn.Lf z6.f z6.n);let z0 := (Fla.Lns.mk (z3.mv z11) fun (i : Nat) => Fla.Li.mk (Flt.qline (Flt.pat z3 i)).length (Flt.gp (Flt.qline (Flt.pat z3 i))) (Flt.qshut (Flt.pat z3 i))); let z4 := (Flf.fillL Flf.ins1 z0);True ∧ (True ∧ Sx.Ask True) ∧ (((Sx.Ask (z11 = z11) ∧ ∀ (i : Nat), let z8 := (boxP.f i); i < z11 → (((((True ∧ Sx.Ask z2 ∧ Sx.Ask (z8.k = z8.k)) ∧ Sx.Ask z2 ∧ Sx.Ask (z8.x = z8.x)) ∧ Sx.Ask z2 ∧ Sx.Ask (z8.y = z8.y)) ∧ Sx.Ask z2 ∧ Sx.Ask (z8.u = z8.u)) ∧ Sx.Ask z2 ∧ Sx.Ask (z8.v = z8.v)) ∧ Sx.Ask z2 ∧ Sx.Ask (z8.w = z8.w)) ∧ True) ∧ Sx.Ask (z11 ≤ (9223372036854775807 : Nat))) ∧ True ∧ True ∧ True ∧ True ∧ True ∧ True ∧ (((Sx.Ask (z3.mv z11 = z3.mv z11) ∧ ∀ (i : Nat), let z5 := (Flt.qline (Flt.pat z3 i)); i < z3.mv z11 → (True ∧ Sx.Ask (z5.length = z5.length) ∧ ∀ (i_1 : Nat), let z12 := (Flt.gp z5 i_1); i_1 < z5.length → (True ∧ Sx.Ask z2 ∧ Sx.Ask (z12.x = z12.x)) ∧ Sx.Ask z2 ∧ Sx.Ask (z12.y = z12.y)) ∧ Sx.Ask (Flt.qshut (Flt.pat z3 i) = Flt.qshut (Flt.pat z3 i))) ∧ z7 ∧ True) ∧ Sx.Ask (z0.fin ∧ z0.E.length ≤ (1048576 : Nat))) ∧ True ∧ True ∧ True ∧ True ∧ True ∧ ((z7 ∧ z7 ∧ (Sx.Ask z2 ∧ Sx.Ask ((4 : Int) = (4 : Int))) ∧ (Sx.Ask z2 ∧ Sx.Ask ((2 : Int) = (2 : Int))) ∧ True) ∧ Sx.Ask z6.ok) ∧ True ∧ True ∧ True ∧ True ∧ True ∧ True ∧ True ∧ True ∧ True ∧ True ∧ True ∧ True ∧ True ∧ Sx.Br (decide ((↑z4.length : Int) = (2 : Int))) (True ∧ True ∧ (((Sx.Ask (z4.length = z4.length) ∧ ∀ (i : Nat), let z9 := (Rga.rI z4 i); i < z4.length → ((True ∧ Sx.Ask z2 ∧ Sx.Ask (z9.y = z9.y)) ∧ Sx.Ask z2 ∧ Sx.Ask (z9.x0 = z9.x0)) ∧ Sx.Ask z2 ∧ Sx.Ask (z9.x1 = z9.x1)) ∧ (Sx.Ask (z1.length = z1.length) ∧ ∀ (i : Nat), let z10 := (Rga.rI z1 i); i < z1.length → ((True ∧ Sx.Ask z2 ∧ Sx.Ask (z10.y = z10.y)) ∧ Sx.Ask z2 ∧ Sx.Ask (z10.x0 = z10.x0)) ∧ Sx.Ask z2 ∧ Sx.Ask (z10.x1 = z10.x1)) ∧ True) ∧ Sx.Ask (Rgc.EqG.mk (Rga.Rg.mk z4.length (Rga.rI z4)) (Rga.Rg.mk z1.length (Rga.rI z1))).ok) ∧ True ∧ True ∧ True ∧ Sx.Ask (true = true)) (True ∧ True ∧ True ∧ Sx.Ask (false = true))) (by kernel_rfl) ?_
  simp only [ask_iff, br_iff, eq_self, true_and, and_true, implies_true, forall_const, decide_eq_true_eq, decide_eq_false_iff_not, ne_eq, Nat.mul_one, Nat.add_zero, Nat.zero_add, Int.toNat_natCast, and_self, List.append_assoc, false_and, and_false]
  have hb : IsBox ⟨Pth.Pth.mv ⟨5, boxF⟩ 5, fun i => ⟨(Flt.qline (Flt.pat ⟨5, boxF⟩ i)).length, Flt.gp (Flt.qline (Flt.pat ⟨5, boxF⟩ i)), Flt.qshut (Flt.pat ⟨5, boxF⟩ i)⟩⟩ := ⟨by kernel_rfl, by kernel_rfl, by kernel_rfl, by kernel_rfl, by kernel_rfl, by kernel_rfl⟩
  generalize (⟨Pth.Pth.mv ⟨5, boxF⟩ 5, fun i => ⟨(Flt.qline (Flt.pat ⟨5, boxF⟩ i)).length, Flt.gp (Flt.qline (Flt.pat ⟨5, boxF⟩ i)), Flt.qshut (Flt.pat ⟨5, boxF⟩ i)⟩⟩ : Lns) = G at hb ⊢
  rw [hb.fill, hb.E]
  refine ⟨by decide, ⟨hb.fin, by decide⟩, ⟨by decide, by decide, by decide, by decide, by decide, by decide⟩, fun _ => ?_, fun h => absurd rfl h⟩
  show vld (Rg.L ⟨lB.length, rI lB⟩) ∧ Rg.L ⟨lB.length, rI lB⟩ = _
  rw [Rg.L_of]
  exact ⟨vB, rfl⟩
end Go.Proofs.Ytppdojjhegiffaa.Flh
