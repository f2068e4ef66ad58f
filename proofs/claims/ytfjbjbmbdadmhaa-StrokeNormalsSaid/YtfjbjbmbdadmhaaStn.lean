/- Package stroke: Outline; the law StrokeNormals: by the evaluation. -/
import Derived.Test.YtfjbjbmbdadmhaaStv
import Derived.Test.YtfjbjbmbdadmhaaRgd
set_option linter.unusedSimpArgs false
set_option linter.unusedVariables false
namespace Go.Proofs.Ytfjbjbmbdadmhaa.Stn
open Go.RowKit Sx Num Aff Con Rga Rgl Rgn Fla Flg Sta Stb Stc Sto Ste Stl Stm Stv
set_option maxRecDepth 100000
/-! Outline. -/
def OuG.full (g : OuG) : Prop := OuG.ok g ∧ Lns.fin ⟨1, fun _ => g.l⟩
noncomputable def spOutline : FSpec := mkSpec 32 (γ := OuG) (fun | [.agg _ l, .agg _ g] => some ⟨liD l, styD g⟩ | _ => none) (fun g => [liS g.l, styS g.s]) OuG.full (fun g => .tup 3 (lst [partsS (outX g.s g.l), discsS (outX g.s g.l), .int .i64 0]))
theorem ok_outline : SpecOK Try.prog spOutline := by
  refine spec_sound (specs := [giv spCk, spOutX]) (all_ok (⟨giv_ok ok_ck, ok_outX, trivial⟩)) (eqs := []) (fun _ _ h => (List.not_mem_nil h).elim) Aff.mixed Try.func32 rfl (by kernel_rfl) (fun _ _ => by kernel_rfl) (fun g => A0) (fun g => Nat.le_of_ble_eq_true (by kernel_rfl)) ?_
  rintro ⟨l, s⟩ hg
  refine vc_of (B := let z1 := (Ste.outX s l);let z0 := (IntKind.i64 = IntKind.i64); let z3 := (True ∧ Sx.Ask (l.n = l.n) ∧ ∀ (i : Nat), i < l.n → (True ∧ Sx.Ask z0 ∧ Sx.Ask ((l.f i).x = (l.f i).x)) ∧ Sx.Ask z0 ∧ Sx.Ask ((l.f i).y = (l.f i).y)); let z2 := ((((True ∧ Sx.Ask z0 ∧ Sx.Ask (s.w = s.w)) ∧ Sx.Ask z0 ∧ Sx.Ask (s.cap = s.cap)) ∧ Sx.Ask z0 ∧ Sx.Ask (s.join = s.join)) ∧ Sx.Ask z0 ∧ Sx.Ask (s.limit = s.limit));True ∧ True ∧ True ∧ True ∧ True ∧ True ∧ True ∧ True ∧ (((Sx.Ask ((1 : Nat) = (1 : Nat)) ∧ ∀ (i : Nat), i < (1 : Nat) → z3 ∧ Sx.Ask (l.c = l.c)) ∧ z2 ∧ True) ∧ Sx.Ask (Sto.StrG.mk (Fla.Lns.mk (1 : Nat) fun (i : Nat) => l) s).ok) ∧ True ∧ True ∧ True ∧ True ∧ True ∧ (((z3 ∧ Sx.Ask (l.c = l.c)) ∧ z2 ∧ True) ∧ Sx.Ask (Sto.OuG.mk l s).ok) ∧ True ∧ True ∧ True ∧ True ∧ True ∧ True ∧ True ∧ True ∧ True ∧ True ∧ True ∧ True ∧ True ∧ True ∧ True ∧ True ∧ True ∧ True ∧ True ∧ ((True ∧ Sx.Ask (z1.n = z1.n) ∧ ∀ (i : Nat), i < z1.n → (True ∧ Sx.Ask (z1.m i = z1.m i) ∧ ∀ (i_1 : Nat), i_1 < z1.m i → (True ∧ Sx.Ask z0 ∧ Sx.Ask ((z1.p i i_1).x = (z1.p i i_1).x)) ∧ Sx.Ask z0 ∧ Sx.Ask ((z1.p i i_1).y = (z1.p i i_1).y)) ∧ Sx.Ask (true = true)) ∧ Sx.Ask (z1.k = z1.k) ∧ ∀ (i : Nat), i < z1.k → (True ∧ Sx.Ask z0 ∧ Sx.Ask ((z1.d i).x = (z1.d i).x)) ∧ Sx.Ask z0 ∧ Sx.Ask ((z1.d i).y = (z1.d i).y)) ∧ Sx.Ask z0 ∧ Sx.Ask ((0 : Int) = (0 : Int))) (by kernel_rfl) ?_
  simp only [ask_iff, br_iff, eq_self, true_and, and_true, implies_true, forall_const, decide_eq_true_eq, decide_eq_false_iff_not, ne_eq, Nat.mul_one, Nat.add_zero, Nat.zero_add, Int.toNat_natCast, and_self, List.append_assoc, false_and, and_false]
  exact ⟨⟨hg.2, hg.1.1.2⟩, hg.1⟩
/-! strokes. -/
noncomputable def spStks : FSpec := mkSpec 30 (γ := Unit) (fun | [] => some () | _ => none) (fun _ => []) (fun _ => True) (fun _ => .lit true)
theorem ok_stks : SpecOK Try.prog spStks := by
  refine spec_sound (specs := [giv spStr, Rgd.spRect, Rgc.spEqR]) (all_ok (⟨giv_ok ok_str, Rgd.ok_rect, Rgc.ok_eqR, trivial⟩)) (eqs := []) (fun _ _ h => (List.not_mem_nil h).elim) Aff.mixed Try.func30 rfl (by kernel_rfl) (fun _ _ => by kernel_rfl) (fun g => A0) (fun g => Nat.le_of_ble_eq_true (by kernel_rfl)) ?_
  rintro g hg
  refine vc_of (B := let z7 := (1 : Nat);let z5 := (0 : Int);let z3 := (Rgd.ReG.mk z5 (-2 : Int) (10 : Int) (2 : Int));let z2 := (IntKind.i64 = IntKind.i64);let z1 := (Rgn.Lf z3.f z3.n);let z0 := (Sto.StrG.mk (Fla.Lns.mk z7 fun (i : Nat) => Fla.Li.mk (2 : Nat) (fun (i : Nat) => Con.Pt.mk (bif decide (i = z7) then (10 : Int) else z5) (bif decide (i = z7) then z5 else z5)) false) (Sto.Sty.mk (4 : Int) z5 z5 (64 : Int))); let z6 := (Ste.outR z0);True ∧ True ∧ True ∧ True ∧ True ∧ True ∧ True ∧ (((Sx.Ask (z7 = z7) ∧ ∀ (i : Nat), i < z7 → (True ∧ Sx.Ask ((2 : Nat) = (2 : Nat)) ∧ ∀ (i : Nat), i < (2 : Nat) → (True ∧ Sx.Ask z2 ∧ Sx.Ask ((bif decide (i = z7) then (10 : Int) else z5) = bif decide (i = z7) then (10 : Int) else z5)) ∧ Sx.Ask z2 ∧ Sx.Ask ((bif decide (i = z7) then z5 else z5) = bif decide (i = z7) then z5 else z5)) ∧ Sx.Ask (false = false)) ∧ ((((True ∧ Sx.Ask z2 ∧ Sx.Ask ((4 : Int) = (4 : Int))) ∧ Sx.Ask z2 ∧ Sx.Ask (z5 = z5)) ∧ Sx.Ask z2 ∧ Sx.Ask (z5 = z5)) ∧ Sx.Ask z2 ∧ Sx.Ask ((64 : Int) = (64 : Int))) ∧ True) ∧ Sx.Ask (Ste.StrOK z0)) ∧ True ∧ True ∧ True ∧ True ∧ True ∧ (((Sx.Ask z2 ∧ Sx.Ask (z5 = z5)) ∧ (Sx.Ask z2 ∧ Sx.Ask ((-2 : Int) = (-2 : Int))) ∧ (Sx.Ask z2 ∧ Sx.Ask ((10 : Int) = (10 : Int))) ∧ (Sx.Ask z2 ∧ Sx.Ask ((2 : Int) = (2 : Int))) ∧ True) ∧ Sx.Ask z3.ok) ∧ True ∧ True ∧ True ∧ True ∧ True ∧ True ∧ True ∧ True ∧ True ∧ True ∧ True ∧ True ∧ True ∧ Sx.Br (decide ((↑z6.length : Int) = (4 : Int))) (True ∧ True ∧ (((Sx.Ask (z6.length = z6.length) ∧ ∀ (i : Nat), let z4 := (Rga.rI z6 i); i < z6.length → ((True ∧ Sx.Ask z2 ∧ Sx.Ask (z4.y = z4.y)) ∧ Sx.Ask z2 ∧ Sx.Ask (z4.x0 = z4.x0)) ∧ Sx.Ask z2 ∧ Sx.Ask (z4.x1 = z4.x1)) ∧ (Sx.Ask (z1.length = z1.length) ∧ ∀ (i : Nat), let z8 := (Rga.rI z1 i); i < z1.length → ((True ∧ Sx.Ask z2 ∧ Sx.Ask (z8.y = z8.y)) ∧ Sx.Ask z2 ∧ Sx.Ask (z8.x0 = z8.x0)) ∧ Sx.Ask z2 ∧ Sx.Ask (z8.x1 = z8.x1)) ∧ True) ∧ Sx.Ask (Rgc.EqG.mk (Rga.Rg.mk z6.length (Rga.rI z6)) (Rga.Rg.mk z1.length (Rga.rI z1))).ok) ∧ True ∧ True ∧ True ∧ Sx.Ask (true = true)) (True ∧ True ∧ True ∧ Sx.Ask (false = true))) (by kernel_rfl) ?_
  simp only [ask_iff, br_iff, eq_self, true_and, and_true, implies_true, forall_const, decide_eq_true_eq, decide_eq_false_iff_not, ne_eq, Nat.mul_one, Nat.add_zero, Nat.zero_add, Int.toNat_natCast, and_self, List.append_assoc, false_and, and_false]
  have e : outR ⟨⟨1, fun _ => ⟨2, fun i => ⟨bif decide (i = 1) then 10 else 0, bif decide (i = 1) then 0 else 0⟩, false⟩⟩, ⟨4, 0, 0, 64⟩⟩ = Stm.lB := out0 rfl ⟨rfl, rfl, rfl, rfl⟩
  rw [e]
  refine ⟨ok0 rfl ⟨rfl, rfl, rfl, rfl⟩, ⟨by decide, by decide, by decide, by decide, by decide, by decide⟩, fun _ => ?_, fun h => absurd rfl h⟩
  show vld (Rg.L ⟨Stm.lB.length, rI Stm.lB⟩) ∧ Rg.L ⟨Stm.lB.length, rI Stm.lB⟩ = _
  rw [Rg.L_of]
  exact ⟨Stm.vB, rfl⟩
/-! The law. -/
abbrev eqT : List (TypeId × List CK) := [(34, [.int, .int])]
theorem eqT_ok : AllEq Try.prog eqT := ⟨eqOK_of (m := 2) (by kernel_rfl) (by kernel_rfl) rfl (by decide) (by kernel_rfl), trivial⟩
structure NoG where
  p : Pt
  q : Pt
  w : Int
noncomputable def spNrm : FSpec := mkSpec 8 (γ := NoG) (fun | [.agg _ p, .agg _ q, .int _ w] => some ⟨ptD p, ptD q, w⟩ | _ => none) (fun g => [ptS g.p, ptS g.q, .int .i64 g.w]) (fun _ => True) (fun _ => .bool true)
theorem ok_nrm : SpecOK Try.prog spNrm := by
  refine spec_sound (specs := [spStks, giv spFew, spCut, spOutline, spSize]) (all_ok (⟨ok_stks, giv_ok ok_few, ok_cut, ok_outline, ok_size, trivial⟩)) (eqs := eqT) (all_eq eqT_ok) Aff.mixed Try.func8 rfl (by kernel_rfl) (fun _ _ => by kernel_rfl) (fun g => (⟨[(13, .rounds 3)], [(4, [.tmp 7])]⟩ : Ann)) (fun g => Nat.le_of_ble_eq_true (by kernel_rfl)) ?_
  rintro ⟨p, q, w⟩ hg
  refine vc_of (B := let z44 := (2 : Nat);let z38 := (4611686018427387904 : Int);let z37 := (-4611686018427387904 : Int);let z35 := (Min.min z44 (8 : Nat));let z31 := (True ∧ True ∧ True ∧ True ∧ True ∧ Sx.Ask (false = true));let z29 := (True ∧ True ∧ Sx.Ask (false = true));let z26 := (1 : Nat);let z24 := (2 : Int);let z22 := (True ∧ True ∧ True ∧ Sx.Ask (false = true));let z21 := (3 : Int);let z13 := (1024 : Int);let z12 := (IntKind.i64 = IntKind.i64);let z11 := (1 : Int); let z25 := (cutI w z11 z13 + z21);let z8 := (0 : Int); let z39 := (Sto.Sty.mk (cutI w z11 z13) z8 z8 (16 : Int)); let z30 := (if cutI w z11 z13 - z21 > z8 then cutI w z11 z13 - z21 else z8); let z19 := (z30 * if cutI w z11 z13 - z21 > z8 then cutI w z11 z13 - z21 else z8);let z6 := (9223372036854775807 : Int);let z5 := (-9223372036854775808 : Int); let z41 := (z5 ≤ z8 + z11 + z24 ∧ z8 + z11 + z24 ≤ z6); let z34 := (z5 ≤ cutI w z11 z13 + z21 ∧ cutI w z11 z13 + z21 ≤ z6);let z4 := (8000 : Int);let z3 := (-8000 : Int); let z28 := (z5 ≤ cutI p.y z3 z4 + cutI q.y z3 z4 ∧ cutI p.y z3 z4 + cutI q.y z3 z4 ≤ z6); let z27 := (z5 ≤ cutI p.x z3 z4 + cutI q.x z3 z4 ∧ cutI p.x z3 z4 + cutI q.x z3 z4 ≤ z6); let z16 := (Fla.Li.mk z35 (fun (i : Nat) => Con.Pt.mk (cutI (bif decide (i = z26) then q.x else p.x) z3 z4) (cutI (bif decide (i = z26) then q.y else p.y) z3 z4)) false); let z10 := (cutI q.y z3 z4 - cutI p.y z3 z4); let z9 := (cutI q.x z3 z4 - cutI p.x z3 z4); let z33 := (Aff.sizeI z9 + Aff.sizeI z10);let z1 := (Int.toNat z8);let z0 := (Ste.outX z39 z16); let z23 := (z0.p z1 (z8 + z11).toNat); let z20 := (z0.p z1 (z8 + z24).toNat); let z18 := (↑(z0.m z1) : Int); let z40 := (z8 ≤ z8 + z11 + z24 ∧ z8 + z11 + z24 < z18); let z36 := (z8 ≤ z8 ∧ z8 < z18); let z17 := (z0.p z1 (z8 + z11 + z24).toNat); let z7 := (z0.p z1 z1); let z2 := (z0.p z1 (Int.toNat z21)); let z15 := (z7.y - z2.y); let z14 := (z7.x - z2.x); let z32 := (z5 ≤ z14 * z14 + z15 * z15 ∧ z14 * z14 + z15 * z15 ≤ z6);True ∧ True ∧ True ∧ (True ∧ Sx.Ask True) ∧ True ∧ True ∧ True ∧ True ∧ True ∧ True ∧ (((Sx.Ask (z26 = z26) ∧ ∀ (i : Nat), i < z26 → (True ∧ Sx.Ask (z44 = z44) ∧ ∀ (i : Nat), i < z44 → (True ∧ Sx.Ask z12 ∧ Sx.Ask ((bif decide (i = z26) then q.x else p.x) = bif decide (i = z26) then q.x else p.x)) ∧ Sx.Ask z12 ∧ Sx.Ask ((bif decide (i = z26) then q.y else p.y) = bif decide (i = z26) then q.y else p.y)) ∧ Sx.Ask (false = false)) ∧ (Sx.Ask z12 ∧ Sx.Ask (z4 = z4)) ∧ True) ∧ Sx.Ask (Flg.FwG.mk (Fla.Lns.mk z26 fun (i : Nat) => Fla.Li.mk z44 (fun (i : Nat) => Con.Pt.mk (bif decide (i = z26) then q.x else p.x) (bif decide (i = z26) then q.y else p.y)) false) z4).ok) ∧ Sx.Ask (z8 ≤ z8 ∧ z8 < (↑(Min.min z26 (4 : Nat)) : Int)) ∧ True ∧ True ∧ True ∧ True ∧ True ∧ Sx.Ask (z8 ≤ z8 ∧ z8 < (↑z35 : Int)) ∧ True ∧ True ∧ True ∧ Sx.Ask (z8 ≤ z11 ∧ z11 < (↑z35 : Int)) ∧ True ∧ True ∧ True ∧ True ∧ True ∧ True ∧ True ∧ True ∧ Sx.Br (decide (cutI p.x z3 z4 = cutI q.x z3 z4) && (decide (cutI p.y z3 z4 = cutI q.y z3 z4) && true)) (True ∧ True ∧ Sx.Ask (true = true)) (True ∧ (((Sx.Ask z12 ∧ Sx.Ask (w = w)) ∧ (Sx.Ask z12 ∧ Sx.Ask (z11 = z11)) ∧ (Sx.Ask z12 ∧ Sx.Ask (z13 = z13)) ∧ True) ∧ Sx.Ask (((-2305843009213693952 : Int) ≤ z11 ∧ z11 ≤ z13) ∧ z13 ≤ (4611686018427387903 : Int) ∧ z13 - z11 ≤ (4611686018427387903 : Int))) ∧ True ∧ True ∧ True ∧ True ∧ ((((True ∧ Sx.Ask (Min.min z44 (8 : Nat) = Min.min z44 (8 : Nat)) ∧ ∀ (i : Nat), let z43 := (bif decide (i = z26) then q.y else p.y); let z42 := (bif decide (i = z26) then q.x else p.x); i < Min.min z44 (8 : Nat) → (True ∧ Sx.Ask z12 ∧ Sx.Ask (cutI z42 z3 z4 = cutI z42 z3 z4)) ∧ Sx.Ask z12 ∧ Sx.Ask (cutI z43 z3 z4 = cutI z43 z3 z4)) ∧ Sx.Ask (false = false)) ∧ ((((True ∧ Sx.Ask z12 ∧ Sx.Ask (cutI w z11 z13 = cutI w z11 z13)) ∧ Sx.Ask z12 ∧ Sx.Ask (z8 = z8)) ∧ Sx.Ask z12 ∧ Sx.Ask (z8 = z8)) ∧ Sx.Ask z12 ∧ Sx.Ask ((16 : Int) = (16 : Int))) ∧ True) ∧ Sx.Ask (OuG.full (Sto.OuG.mk z16 z39))) ∧ True ∧ True ∧ True ∧ True ∧ True ∧ True ∧ True ∧ True ∧ True ∧ True ∧ True ∧ True ∧ True ∧ True ∧ True ∧ Sx.Br (decide (z8 < (↑z0.k : Int))) z31 (True ∧ True ∧ True ∧ True ∧ True ∧ Sx.Br (decide ((↑z0.n : Int) ≠ z11)) z22 (True ∧ Sx.Ask (z8 ≤ z8 ∧ z8 < (↑z0.n : Int)) ∧ True ∧ True ∧ True ∧ True ∧ True ∧ Sx.Br (decide (z18 ≠ (4 : Int))) z29 (True ∧ Sx.Ask (z8 ≤ z8 ∧ z8 < (↑z0.n : Int)) ∧ True ∧ True ∧ True ∧ True ∧ True ∧ True ∧ True ∧ True ∧ True ∧ Sx.Ask z36 ∧ True ∧ True ∧ True ∧ True ∧ Sx.Ask (z5 ≤ z8 + z24 ∧ z8 + z24 ≤ z6) ∧ Sx.Ask (z8 ≤ z8 + z24 ∧ z8 + z24 < z18) ∧ True ∧ True ∧ Sx.Ask (z5 ≤ z7.x + z20.x ∧ z7.x + z20.x ≤ z6) ∧ True ∧ True ∧ True ∧ True ∧ Sx.Ask z27 ∧ True ∧ True ∧ Sx.Br (decide (z7.x + z20.x ≠ cutI p.x z3 z4 + cutI q.x z3 z4)) z22 (True ∧ True ∧ Sx.Ask z36 ∧ True ∧ True ∧ True ∧ True ∧ Sx.Ask (z5 ≤ z8 + z24 ∧ z8 + z24 ≤ z6) ∧ Sx.Ask (z8 ≤ z8 + z24 ∧ z8 + z24 < z18) ∧ True ∧ True ∧ Sx.Ask (z5 ≤ z7.y + z20.y ∧ z7.y + z20.y ≤ z6) ∧ True ∧ True ∧ True ∧ True ∧ Sx.Ask z28 ∧ True ∧ True ∧ Sx.Br (decide (z7.y + z20.y ≠ cutI p.y z3 z4 + cutI q.y z3 z4)) z29 (Sx.Ask (z5 ≤ z8 + z11 ∧ z8 + z11 ≤ z6) ∧ True ∧ True ∧ True ∧ True ∧ True ∧ True ∧ Sx.Ask (z8 ≤ z8 + z11 ∧ z8 + z11 < z18) ∧ True ∧ True ∧ True ∧ True ∧ Sx.Ask z41 ∧ Sx.Ask z40 ∧ True ∧ True ∧ Sx.Ask (z5 ≤ z23.x + z17.x ∧ z23.x + z17.x ≤ z6) ∧ True ∧ True ∧ True ∧ True ∧ Sx.Ask z27 ∧ True ∧ True ∧ Sx.Br (decide (z23.x + z17.x ≠ cutI p.x z3 z4 + cutI q.x z3 z4)) z22 (True ∧ True ∧ Sx.Ask (z8 ≤ z8 + z11 ∧ z8 + z11 < z18) ∧ True ∧ True ∧ True ∧ True ∧ Sx.Ask z41 ∧ Sx.Ask z40 ∧ True ∧ True ∧ Sx.Ask (z5 ≤ z23.y + z17.y ∧ z23.y + z17.y ≤ z6) ∧ True ∧ True ∧ True ∧ True ∧ Sx.Ask z28 ∧ True ∧ True ∧ Sx.Br (decide (z23.y + z17.y ≠ cutI p.y z3 z4 + cutI q.y z3 z4)) z29 (Sx.Ask (z5 ≤ z8 + z11 + z11 ∧ z8 + z11 + z11 ≤ z6) ∧ True ∧ True ∧ True ∧ Sx.Ask z36 ∧ True ∧ True ∧ True ∧ Sx.Ask (z8 ≤ z21 ∧ z21 < z18) ∧ True ∧ True ∧ Sx.Ask (z5 ≤ z7.x - z2.x ∧ z7.x - z2.x ≤ z6) ∧ True ∧ Sx.Ask z36 ∧ True ∧ True ∧ True ∧ Sx.Ask (z8 ≤ z21 ∧ z21 < z18) ∧ True ∧ True ∧ Sx.Ask (z5 ≤ z7.y - z2.y ∧ z7.y - z2.y ≤ z6) ∧ True ∧ True ∧ True ∧ True ∧ Sx.Ask (z5 ≤ cutI q.x z3 z4 - cutI p.x z3 z4 ∧ cutI q.x z3 z4 - cutI p.x z3 z4 ≤ z6) ∧ True ∧ True ∧ True ∧ True ∧ Sx.Ask (z5 ≤ cutI q.y z3 z4 - cutI p.y z3 z4 ∧ cutI q.y z3 z4 - cutI p.y z3 z4 ≤ z6) ∧ True ∧ True ∧ True ∧ True ∧ True ∧ Sx.Ask (z5 ≤ cutI w z11 z13 - z21 ∧ cutI w z11 z13 - z21 ≤ z6) ∧ True ∧ True ∧ True ∧ True ∧ Sx.Ask (z5 ≤ z14 * z9 ∧ z14 * z9 ≤ z6) ∧ True ∧ True ∧ Sx.Ask (z5 ≤ z15 * z10 ∧ z15 * z10 ≤ z6) ∧ Sx.Ask (z5 ≤ z14 * z9 + z15 * z10 ∧ z14 * z9 + z15 * z10 ≤ z6) ∧ (((Sx.Ask z12 ∧ Sx.Ask (z14 * z9 + z15 * z10 = z14 * z9 + z15 * z10)) ∧ True) ∧ Sx.Ask (z37 ≤ z14 * z9 + z15 * z10 ∧ z14 * z9 + z15 * z10 ≤ z38)) ∧ True ∧ (((Sx.Ask z12 ∧ Sx.Ask (cutI q.x z3 z4 - cutI p.x z3 z4 = cutI q.x z3 z4 - cutI p.x z3 z4)) ∧ True) ∧ Sx.Ask (z37 ≤ cutI q.x z3 z4 - cutI p.x z3 z4 ∧ cutI q.x z3 z4 - cutI p.x z3 z4 ≤ z38)) ∧ True ∧ (((Sx.Ask z12 ∧ Sx.Ask (cutI q.y z3 z4 - cutI p.y z3 z4 = cutI q.y z3 z4 - cutI p.y z3 z4)) ∧ True) ∧ Sx.Ask (z37 ≤ cutI q.y z3 z4 - cutI p.y z3 z4 ∧ cutI q.y z3 z4 - cutI p.y z3 z4 ≤ z38)) ∧ Sx.Ask (z5 ≤ Aff.sizeI z9 + Aff.sizeI z10 ∧ Aff.sizeI z9 + Aff.sizeI z10 ≤ z6) ∧ Sx.Ask (z5 ≤ z24 * z33 ∧ z24 * z33 ≤ z6) ∧ True ∧ True ∧ Sx.Br (decide (Aff.sizeI (z14 * z9 + z15 * z10) ≤ z24 * z33)) (True ∧ True ∧ Sx.Ask (z5 ≤ z14 * z14 ∧ z14 * z14 ≤ z6) ∧ True ∧ True ∧ Sx.Ask (z5 ≤ z15 * z15 ∧ z15 * z15 ≤ z6) ∧ Sx.Ask z32 ∧ True ∧ Sx.Ask z34 ∧ True ∧ Sx.Ask z34 ∧ Sx.Ask (z5 ≤ z25 * z25 ∧ z25 * z25 ≤ z6) ∧ True ∧ True ∧ True ∧ Sx.Br (decide (z14 * z14 + z15 * z15 ≤ z25 * z25)) (True ∧ True ∧ Sx.Ask (z5 ≤ z14 * z14 ∧ z14 * z14 ≤ z6) ∧ True ∧ True ∧ Sx.Ask (z5 ≤ z15 * z15 ∧ z15 * z15 ≤ z6) ∧ Sx.Ask z32 ∧ True ∧ True ∧ Sx.Ask ((z5 ≤ z30 * if cutI w z11 z13 - z21 > z8 then cutI w z11 z13 - z21 else z8) ∧ z19 ≤ z6) ∧ True ∧ True ∧ True ∧ True ∧ Sx.Ask (decide (z19 ≤ z14 * z14 + z15 * z15) = true)) z22) z31))))))))) (by kernel_rfl) ?_
  simp only [ask_iff, br_iff, eq_self, true_and, and_true, implies_true, forall_const, decide_eq_true_eq, decide_eq_false_iff_not, ne_eq, Nat.mul_one, Nat.add_zero, Nat.zero_add, Int.toNat_natCast, and_self, List.append_assoc, false_and, and_false]
  have wx := cutI_range p.x (-8000) 8000 (by omega)
  have wy := cutI_range p.y (-8000) 8000 (by omega)
  have vx := cutI_range q.x (-8000) 8000 (by omega)
  have vy := cutI_range q.y (-8000) 8000 (by omega)
  have wW := cutI_range w 1 1024 (by omega)
  have hI : IsS ⟨min 2 8, fun i => ⟨cutI (bif decide (i = 1) then q.x else p.x) (-8000) 8000, cutI (bif decide (i = 1) then q.y else p.y) (-8000) 8000⟩, false⟩ ⟨cutI p.x (-8000) 8000, cutI p.y (-8000) 8000⟩ ⟨cutI q.x (-8000) 8000, cutI q.y (-8000) 8000⟩ := ⟨rfl, rfl, rfl, rfl⟩
  generalize (⟨min 2 8, fun i => ⟨cutI (bif decide (i = 1) then q.x else p.x) (-8000) 8000, cutI (bif decide (i = 1) then q.y else p.y) (-8000) 8000⟩, false⟩ : Li) = L at hI ⊢
  generalize cutI w 1 1024 = W at wW ⊢
  generalize cutI p.x (-8000) 8000 = ax at wx hI ⊢
  generalize cutI p.y (-8000) 8000 = ay at wy hI ⊢
  generalize cutI q.x (-8000) 8000 = bx at vx hI ⊢
  generalize cutI q.y (-8000) 8000 = by_ at vy hI ⊢
  have z0 : Int.toNat 0 = 0 := rfl
  have z2 : ((0 : Int) + 2).toNat = 2 := rfl
  have z1 : ((0 : Int) + 1).toNat = 1 := rfl
  have z3 : ((0 : Int) + 1 + 2).toNat = 3 := rfl
  have z3' : (Int.toNat 3) = 3 := rfl
  simp only [z0, z1, z2, z3, z3']
  refine ⟨⟨⟨show 1 ≤ 9223372036854775807 by decide, fun i _ => show 2 ≤ 9223372036854775807 by decide⟩, show (0 : Int) ≤ 8000 by decide, show (8000 : Int) ≤ 32767 by decide⟩, by decide, by decide, by decide, fun hne => ?_⟩
  have hne : ¬ eqPt ⟨ax, ay⟩ ⟨bx, by_⟩ := fun he => by
    obtain ⟨h1, h2⟩ : ax = bx ∧ ay = by_ := he
    simp [h1, h2] at hne
  have hpar := hI.par hne wW
  have hful := hI.full hne wW ⟨wx, wy⟩ ⟨vx, vy⟩
  have hn : (outX ⟨W, 0, 0, 16⟩ L).n = 1 := by show (outX (sN W) L).n = 1; rw [hI.out hne]; rfl
  have hk : (outX ⟨W, 0, 0, 16⟩ L).k = 0 := by show (outX (sN W) L).k = 0; rw [hI.out hne]; rfl
  have hm : (outX ⟨W, 0, 0, 16⟩ L).m 0 = 4 := by show (outX (sN W) L).m 0 = 4; rw [hI.out hne]; rfl
  unfold sN at hpar hful
  generalize outX ⟨W, 0, 0, 16⟩ L = o at hpar hn hk hm ⊢
  rw [hn, hk, hm]
  obtain ⟨x02, y02, x13, y13, hu, hv, dot, up, lo⟩ := hpar
  simp only at x02 y02 x13 y13 hu hv dot up lo
  have s1 := size_of (x := bx - ax) (M := 16000) ⟨by omega, by omega⟩
  have s2 := size_of (x := by_ - ay) (M := 16000) ⟨by omega, by omega⟩
  have s3 := (size_in (bx - ax)).2
  have s4 := (size_in (by_ - ay)).2
  have m1 := Fla.mul_in (a := (o.p 0 0).x - (o.p 0 3).x) (x := bx - ax) (A := 1200) (X := 16000) hu ⟨by omega, by omega⟩
  have m2 := Fla.mul_in (a := (o.p 0 0).y - (o.p 0 3).y) (x := by_ - ay) (A := 1200) (X := 16000) hv ⟨by omega, by omega⟩
  have m3 := Fla.mul_in (a := (o.p 0 0).x - (o.p 0 3).x) (x := (o.p 0 0).x - (o.p 0 3).x) (A := 1200) (X := 1200) hu hu
  have m4 := Fla.mul_in (a := (o.p 0 0).y - (o.p 0 3).y) (x := (o.p 0 0).y - (o.p 0 3).y) (A := 1200) (X := 1200) hv hv
  have m5 := Fla.mul_in (a := W + 3) (x := W + 3) (A := 1027) (X := 1027) ⟨by omega, by omega⟩ ⟨by omega, by omega⟩
  have m6 := Fla.mul_in (a := W - 3) (x := W - 3) (A := 1027) (X := 1027) ⟨by omega, by omega⟩ ⟨by omega, by omega⟩
  have n3 := sqn ((o.p 0 0).x - (o.p 0 3).x)
  have n4 := sqn ((o.p 0 0).y - (o.p 0 3).y)
  generalize ((o.p 0 0).x - (o.p 0 3).x) * ((o.p 0 0).x - (o.p 0 3).x) = uu at *
  generalize ((o.p 0 0).y - (o.p 0 3).y) * ((o.p 0 0).y - (o.p 0 3).y) = vv at *
  generalize ((o.p 0 0).x - (o.p 0 3).x) * (bx - ax) = ud at *
  generalize ((o.p 0 0).y - (o.p 0 3).y) * (by_ - ay) = vd at *
  generalize hS1 : sizeI (bx - ax) = S1 at *
  generalize hS2 : sizeI (by_ - ay) = S2 at *
  generalize hS3 : sizeI (ud + vd) = S3 at *
  clear hS1 hS2 hS3 hI hne
  have mm : ((if W - 3 > 0 then W - 3 else 0) * (if W - 3 > 0 then W - 3 else 0) ≤ uu + vv ∧ 0 ≤ (if W - 3 > 0 then W - 3 else 0) * (if W - 3 > 0 then W - 3 else 0)) := by
    split
    · exact ⟨lo (by omega), sqn _⟩
    · exact ⟨by omega, by omega⟩
  generalize (if W - 3 > 0 then W - 3 else 0) * (if W - 3 > 0 then W - 3 else 0) = MM at mm ⊢
  clear lo
  repeat' (first | exact hful | apply And.intro | intro _)
  all_goals omega
end Go.Proofs.Ytfjbjbmbdadmhaa.Stn
