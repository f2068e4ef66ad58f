/- The law StrokeMoves: by the evaluation. -/
import Derived.Test.YtfjbjbmbdadmhaaStu
import Derived.Test.YtfjbjbmbdadmhaaRgd
set_option linter.unusedSimpArgs false
set_option linter.unusedVariables false
namespace Go.Proofs.Ytfjbjbmbdadmhaa.Stt
open Go.RowKit Sx Num Aff Con Rga Rgl Rgn Fla Flg Sta Stb Stc Sto Ste Stl Stm Sts Stu
set_option maxRecDepth 100000
/-! style. -/
structure StyG where
  s : Sty
  m : Int
def cutS (g : StyG) : Sty := ⟨cutI g.s.w 1 g.m, cutI g.s.cap 0 2, cutI g.s.join 0 2, cutI g.s.limit 16 1024⟩
def spSty : FSpec := mkSpec 34 (γ := StyG) (fun | [.agg _ g, .int _ m] => some ⟨styD g, m⟩ | _ => none) (fun g => [styS g.s, .int .i64 g.m]) (fun g => 1 ≤ g.m ∧ g.m ≤ 1024) (fun g => styS (cutS g))
theorem ok_sty : SpecOK Try.prog spSty := by
  refine spec_sound (specs := [spCut]) (all_ok (⟨ok_cut, trivial⟩)) (eqs := []) (fun _ _ h => (List.not_mem_nil h).elim) Aff.mixed Try.func34 rfl (by kernel_rfl) (fun _ _ => by kernel_rfl) (fun g => A0) (fun g => Nat.le_of_ble_eq_true (by kernel_rfl)) ?_
  rintro ⟨s, m⟩ hg
  refine vc_of (B := let z7 := (16 : Int);let z6 := (1024 : Int);let z5 := (-2305843009213693952 : Int);let z4 := (2 : Int);let z3 := (0 : Int);let z1 := (4611686018427387903 : Int); let z2 := ((z5 ≤ z3 ∧ z3 ≤ z4) ∧ z4 ≤ z1 ∧ z4 - z3 ≤ z1);let z0 := (IntKind.i64 = IntKind.i64);True ∧ True ∧ True ∧ True ∧ True ∧ (((Sx.Ask z0 ∧ Sx.Ask (s.w = s.w)) ∧ (Sx.Ask z0 ∧ Sx.Ask ((1 : Int) = (1 : Int))) ∧ (Sx.Ask z0 ∧ Sx.Ask (m = m)) ∧ True) ∧ Sx.Ask ((z5 ≤ (1 : Int) ∧ (1 : Int) ≤ m) ∧ m ≤ z1 ∧ m - (1 : Int) ≤ z1)) ∧ True ∧ True ∧ (((Sx.Ask z0 ∧ Sx.Ask (s.cap = s.cap)) ∧ (Sx.Ask z0 ∧ Sx.Ask (z3 = z3)) ∧ (Sx.Ask z0 ∧ Sx.Ask (z4 = z4)) ∧ True) ∧ Sx.Ask z2) ∧ True ∧ True ∧ (((Sx.Ask z0 ∧ Sx.Ask (s.join = s.join)) ∧ (Sx.Ask z0 ∧ Sx.Ask (z3 = z3)) ∧ (Sx.Ask z0 ∧ Sx.Ask (z4 = z4)) ∧ True) ∧ Sx.Ask z2) ∧ True ∧ True ∧ (((Sx.Ask z0 ∧ Sx.Ask (s.limit = s.limit)) ∧ (Sx.Ask z0 ∧ Sx.Ask (z7 = z7)) ∧ (Sx.Ask z0 ∧ Sx.Ask (z6 = z6)) ∧ True) ∧ Sx.Ask ((z5 ≤ z7 ∧ z7 ≤ z6) ∧ z6 ≤ z1 ∧ z6 - z7 ≤ z1)) ∧ True ∧ True ∧ (True ∧ True) ∧ (((True ∧ Sx.Ask z0 ∧ Sx.Ask (cutI s.w (1 : Int) m = cutI s.w (1 : Int) m)) ∧ Sx.Ask z0 ∧ Sx.Ask (cutI s.cap z3 z4 = cutI s.cap z3 z4)) ∧ Sx.Ask z0 ∧ Sx.Ask (cutI s.join z3 z4 = cutI s.join z3 z4)) ∧ Sx.Ask z0 ∧ Sx.Ask (cutI s.limit z7 z6 = cutI s.limit z7 z6)) (by kernel_rfl) ?_
  simp only [ask_iff, br_iff, eq_self, true_and, and_true, implies_true, forall_const, decide_eq_true_eq, decide_eq_false_iff_not, ne_eq, Nat.mul_one, Nat.add_zero, Nat.zero_add, Int.toNat_natCast, and_self, List.append_assoc, false_and, and_false]
  obtain ⟨h1, h2⟩ : 1 ≤ m ∧ m ≤ 1024 := hg
  exact ⟨⟨⟨by omega, by omega⟩, by omega, by omega⟩, ⟨⟨by omega, by omega⟩, by omega, by omega⟩, ⟨⟨by omega, by omega⟩, by omega, by omega⟩, ⟨by omega, by omega⟩, by omega, by omega⟩
/-! strokes. -/
noncomputable def spStks : FSpec := mkSpec 30 (γ := Unit) (fun | [] => some () | _ => none) (fun _ => []) (fun _ => True) (fun _ => .lit true)
theorem ok_stks : SpecOK Try.prog spStks := by
  refine spec_sound (specs := [giv spStr, Rgd.spRect, Rgc.spEqR]) (all_ok (⟨giv_ok ok_str, Rgd.ok_rect, Rgc.ok_eqR, trivial⟩)) (eqs := []) (fun _ _ h => (List.not_mem_nil h).elim) Aff.mixed Try.func30 rfl (by kernel_rfl) (fun _ _ => by kernel_rfl) (fun g => A0) (fun g => Nat.le_of_ble_eq_true (by kernel_rfl)) ?_
  rintro g hg
  refine vc_of (B := let z7 := (1 : Nat);let z5 := (0 : Int);let z3 := (Rgd.ReG.mk z5 (-2 : Int) (10 : Int) (2 : Int));let z2 := (IntKind.i64 = IntKind.i64);let z1 := (Rgn.Lf z3.f z3.n);let z0 := (Sto.StrG.mk (Fla.Lns.mk z7 fun (i : Nat) => Fla.Li.mk (2 : Nat) (fun (i : Nat) => Con.Pt.mk (bif decide (i = z7) then (10 : Int) else z5) (bif decide (i = z7) then z5 else z5)) false) (Sto.Sty.mk (4 : Int) z5 z5 (64 : Int))); let z6 := (Ste.outR z0);True ∧ True ∧ True ∧ True ∧ True ∧ True ∧ True ∧ (((Sx.Ask (z7 = z7) ∧ ∀ (i : Nat), i < z7 → (True ∧ Sx.Ask ((2 : Nat) = (2 : Nat)) ∧ ∀ (i : Nat), i < (2 : Nat) → (True ∧ Sx.Ask z2 ∧ Sx.Ask ((bif decide (i = z7) then (10 : Int) else z5) = bif decide (i = z7) then (10 : Int) else z5)) ∧ Sx.Ask z2 ∧ Sx.Ask ((bif decide (i = z7) then z5 else z5) = bif decide (i = z7) then z5 else z5)) ∧ Sx.Ask (false = false)) ∧ ((((True ∧ Sx.Ask z2 ∧ Sx.Ask ((4 : Int) = (4 : Int))) ∧ Sx.Ask z2 ∧ Sx.Ask (z5 = z5)) ∧ Sx.Ask z2 ∧ Sx.Ask (z5 = z5)) ∧ Sx.Ask z2 ∧ Sx.Ask ((64 : Int) = (64 : Int))) ∧ True) ∧ Sx.Ask (Ste.StrOK z0)) ∧ True ∧ True ∧ True ∧ True ∧ True ∧ (((Sx.Ask z2 ∧ Sx.Ask (z5 = z5)) ∧ (Sx.Ask z2 ∧ Sx.Ask ((-2 : Int) = (-2 : Int))) ∧ (Sx.Ask z2 ∧ Sx.Ask ((10 : Int) = (10 : Int))) ∧ (Sx.Ask z2 ∧ Sx.Ask ((2 : Int) = (2 : Int))) ∧ True) ∧ Sx.Ask z3.ok) ∧ True ∧ True ∧ True ∧ True ∧ True ∧ True ∧ True ∧ True ∧ True ∧ True ∧ True ∧ True ∧ True ∧ Sx.Br (decide ((↑z6.length : Int) = (4 : Int))) (True ∧ True ∧ (((Sx.Ask (z6.length = z6.length) ∧ ∀ (i : Nat), let z4 := (Rga.rI z6 i); i < z6.length → ((True ∧ Sx.Ask z2 ∧ Sx.Ask (z4.y = z4.y)) ∧ Sx.Ask z2 ∧ Sx.Ask (z4.x0 = z4.x0)) ∧ Sx.Ask z2 ∧ Sx.Ask (z4.x1 = z4.x1)) ∧ (Sx.Ask (z1.length = z1.length) ∧ ∀ (i : Nat), let z8 := (Rga.rI z1 i); i < z1.length → ((True ∧ Sx.Ask z2 ∧ Sx.Ask (z8.y = z8.y)) ∧ Sx.Ask z2 ∧ Sx.Ask (z8.x0 = z8.x0)) ∧ Sx.Ask z2 ∧ Sx.Ask (z8.x1 = z8.x1)) ∧ True) ∧ Sx.Ask (Rgc.EqG.mk (Rga.Rg.mk z6.length (Rga.rI z6)) (Rga.Rg.mk z1.length (Rga.rI z1))).ok) ∧ True ∧ True ∧ True ∧ Sx.Ask (true = true)) (True ∧ True ∧ True ∧ Sx.Ask (false = true))) (by kernel_rfl) ?_
  simp only [ask_iff, br_iff, eq_self, true_and, and_true, implies_true, forall_const, decide_eq_true_eq, decide_eq_false_iff_not, ne_eq, Nat.mul_one, Nat.add_zero, Nat.zero_add, Int.toNat_natCast, and_self, List.append_assoc, false_and, and_false]
  have e : outR ⟨⟨1, fun _ => ⟨2, fun i => ⟨bif decide (i = 1) then 10 else 0, bif decide (i = 1) then 0 else 0⟩, false⟩⟩, ⟨4, 0, 0, 64⟩⟩ = lB := out0 rfl ⟨rfl, rfl, rfl, rfl⟩
  rw [e]
  refine ⟨ok0 rfl ⟨rfl, rfl, rfl, rfl⟩, ⟨by decide, by decide, by decide, by decide, by decide, by decide⟩, fun _ => ?_, fun h => absurd rfl h⟩
  show vld (Rg.L ⟨lB.length, rI lB⟩) ∧ Rg.L ⟨lB.length, rI lB⟩ = _
  rw [Rg.L_of]
  exact ⟨vB, rfl⟩
/-! The law. -/
structure MvG where
  l : Lns
  s : Sty
  dx : Int
  dy : Int
def lnok (g : Lns) : Prop := g.n ≤ 9223372036854775807 ∧ ∀ i, i < g.n → (g.f i).n ≤ 9223372036854775807
def tw (g : Lns) : Lns := FwG.out ⟨g, 200⟩
def MvG.t (g : MvG) : Lns := tw g.l
def MvG.c (g : MvG) : Sty := cutS ⟨g.s, 60⟩
def MvG.v (g : MvG) : Pt := ⟨cutI g.dx (-500) 500, cutI g.dy (-500) 500⟩
noncomputable def MvG.a (g : MvG) : List Rn := outR ⟨g.t, g.c⟩
def mvP (v : Pt) (f : Nat → Pt) (j k : Nat) : Pt := if k < j then addP (f k) v else f k
def dpS (g : MvG) (i : Nat) : SO := .deep 0 i 2 2 (fun k => (g.t.f k).n) (fun k j => lst (ptL (addP ((g.t.f k).f j) g.v))) (fun k => lst [.any, .bool (g.t.f k).c]) 36 34 none
noncomputable def mv1 (g : MvG) : Inv := ⟨Nat, fun i => i ≤ g.t.n, fun i => ⟨[(5, .own 0 0), (2, .int .i64 g.v.x), (3, .int .i64 g.v.y), (9, runsS g.a), (10, .int .i64 0), (11, .osl 1 0), (36, lnsS g.t), (37, .int .i64 g.t.n), (38, .int .i64 i)], [styB g.c, dpS g i]⟩, fun i => g.t.n - i⟩
noncomputable def mv2 (g : MvG) (i : Nat) : Inv := ⟨Nat, fun j => i < g.t.n ∧ j ≤ (g.t.f i).n, fun j => ⟨[(5, .own 0 0), (2, .int .i64 g.v.x), (3, .int .i64 g.v.y), (9, runsS g.a), (10, .int .i64 0), (11, .osl 1 0), (36, lnsS g.t), (37, .int .i64 g.t.n), (38, .int .i64 i), (13, .own 2 0), (47, .osl 3 0), (48, .int .i64 (g.t.f i).n), (49, .int .i64 j)],
  [styB g.c, dpS g i, .cells 2 (lst [.osl 3 0, .bool (g.t.f i).c]) 36, .row 0 (g.t.f i).n 2 (fun k => lst (ptL (mvP g.v (g.t.f i).f j k))) 34]⟩, fun j => (g.t.f i).n - j⟩
theorem tw_tiny (g : Lns) : (tw g).n ≤ 4 ∧ ∀ i, i < (tw g).n → tiny ((tw g).f i) := by
  refine ⟨show min g.n 4 ≤ 4 by omega, fun i _ => ⟨show min (g.f i).n 8 ≤ 8 by omega, fun j _ => ?_⟩⟩
  exact ⟨cutI_range _ (-200) 200 (by omega), cutI_range _ (-200) 200 (by omega)⟩
theorem sty_tiny (s : Sty) : Sty.tiny (cutS ⟨s, 60⟩) := by
  have h1 := cutI_range s.w 1 60 (by omega)
  have h2 := cutI_range s.limit 16 1024 (by omega)
  exact ⟨⟨⟨⟨h1.1, show cutI s.w 1 60 ≤ 1024 by omega⟩, cutI_range s.cap 0 2 (by omega)⟩, cutI_range s.join 0 2 (by omega), h2⟩, h1.2⟩
theorem vO (s : Sty) (g : Lns) : vld (Rg.L ⟨(outR ⟨g, s⟩).length, rI (outR ⟨g, s⟩)⟩) := by
  rw [Rg.L_of]
  exact out_vld s g
theorem shA_ok {A : List Rn} (hA : vld A) {dx dy : Int} (hx : -500 ≤ dx ∧ dx ≤ 500) (hy : -500 ≤ dy ∧ dy ≤ 500) (hq : ∀ r ∈ A, inSq r) : Rgd.ShG.ok ⟨⟨A.length, rI A⟩, dx, dy⟩ ∧ Rgd.ShG.L ⟨⟨A.length, rI A⟩, dx, dy⟩ = A.map (shR dx dy) := by
  refine ⟨⟨by show vld (Rg.L ⟨_, rI A⟩); rw [Rg.L_of]; exact hA, by show -16384 ≤ dx ∧ dx ≤ 16384; omega, by show -16384 ≤ dy ∧ dy ≤ 16384; omega, fun i hi => inSq_ok (hq _ ?_) hx hy⟩, ?_⟩
  · show rI A i ∈ A
    have hi : i < A.length := hi
    unfold rI
    rw [List.getD_eq_getElem?_getD, List.getElem?_eq_getElem hi]
    exact List.getElem_mem _
  · rw [Rgd.ShG.L_eq]
    show shL dx dy (Rg.L ⟨A.length, rI A⟩) = _
    rw [Rg.L_of]
    rfl
noncomputable def spMoves : FSpec := mkSpec 9 (γ := MvG) (fun | [s, .agg _ g, .int _ dx, .int _ dy] => some ⟨⟨slLen s, lnsD s⟩, styD g, dx, dy⟩ | _ => none) (fun g => [lnsS g.l, styS g.s, .int .i64 g.dx, .int .i64 g.dy]) (fun g => lnok g.l) (fun _ => .bool true)
theorem ok_moves : SpecOK Try.prog spMoves := by
  refine spec_sound (specs := [spStks, spFew, spSty, spCut, giv spStr, Ptr.spCloneP, Rgd.spShift, Rgc.spEqR]) (all_ok (⟨ok_stks, ok_few, ok_sty, ok_cut, giv_ok ok_str, Ptr.ok_cloneP, Rgd.ok_shift, Rgc.ok_eqR, trivial⟩)) (eqs := []) (fun _ _ h => (List.not_mem_nil h).elim) Aff.mixed Try.func9 rfl (by kernel_rfl) (fun _ _ => by kernel_rfl) (fun g => (⟨[(7, .nest (mv1 g) (fun i => [(11, .inv (mv2 g i))]))], [(6, [.own 11 36 2, .deepen 1 2 34]), (1000015, [.unfocus 1])]⟩ : Ann)) (fun g => Nat.le_of_ble_eq_true (by kernel_rfl)) ?_
  rintro g hg
  refine vc_of (B := let z40 := (60 : Int);let z34 := (1 : Int);let z31 := (9223372036854775807 : Int);let z30 := (-9223372036854775808 : Int);let z28 := (0 : Int);let z25 := (0 : Nat); let z43 := (z25 = z25);let z20 := (8 : Nat);let z19 := (Sto.Sty.mk (cutI g.s.w z34 z40) (cutI g.s.cap z28 (2 : Int)) (cutI g.s.join z28 (2 : Int)) (cutI g.s.limit (16 : Int) (1024 : Int)));let z16 := (-200 : Int);let z15 := (200 : Int);let z11 := (↑(Min.min g.l.n (4 : Nat)) : Int);let z10 := (500 : Int);let z9 := (-500 : Int); let z21 := (((-2305843009213693952 : Int) ≤ z9 ∧ z9 ≤ z10) ∧ z10 ≤ (4611686018427387903 : Int) ∧ z10 - z9 ≤ (4611686018427387903 : Int));let z5 := (Rgd.ShG.mk (Rga.Rg.mk g.a.length (Rga.rI g.a)) (cutI g.dx z9 z10) (cutI g.dy z9 z10));let z4 := (Sto.StrG.mk (Fla.Lns.mk (Min.min g.l.n (4 : Nat)) fun (i : Nat) => Fla.Li.mk (Min.min (g.l.f i).n z20) (fun (i_1 : Nat) => Con.Pt.mk (cutI ((g.l.f i).f i_1).x z16 z15) (cutI ((g.l.f i).f i_1).y z16 z15)) (g.l.f i).c) z19);let z1 := (IntKind.i64 = IntKind.i64); let z27 := (Sx.Ask z1 ∧ Sx.Ask (z11 = z11)); let z22 := (Sx.Ask z1 ∧ Sx.Ask (z28 = z28)); let z14 := (Sx.Ask z1 ∧ Sx.Ask (cutI g.dy z9 z10 = cutI g.dy z9 z10)); let z13 := (Sx.Ask z1 ∧ Sx.Ask (cutI g.dx z9 z10 = cutI g.dx z9 z10)); let z6 := (Sx.Ask (g.a.length = g.a.length) ∧ ∀ (i : Nat), let z33 := (Rga.rI g.a i); i < g.a.length → ((True ∧ Sx.Ask z1 ∧ Sx.Ask (z33.y = z33.y)) ∧ Sx.Ask z1 ∧ Sx.Ask (z33.x0 = z33.x0)) ∧ Sx.Ask z1 ∧ Sx.Ask (z33.x1 = z33.x1)); let z3 := ((((True ∧ Sx.Ask z1 ∧ Sx.Ask (cutI g.s.w z34 z40 = cutI g.s.w z34 z40)) ∧ Sx.Ask z1 ∧ Sx.Ask (cutI g.s.cap z28 (2 : Int) = cutI g.s.cap z28 (2 : Int))) ∧ Sx.Ask z1 ∧ Sx.Ask (cutI g.s.join z28 (2 : Int) = cutI g.s.join z28 (2 : Int))) ∧ Sx.Ask z1 ∧ Sx.Ask (cutI g.s.limit (16 : Int) (1024 : Int) = cutI g.s.limit (16 : Int) (1024 : Int))); let z2 := (Sx.Ask (Min.min g.l.n (4 : Nat) = Min.min g.l.n (4 : Nat)) ∧ ∀ (i : Nat), let z36 := (g.l.f i); i < Min.min g.l.n (4 : Nat) → (True ∧ Sx.Ask (Min.min z36.n z20 = Min.min z36.n z20) ∧ ∀ (i_1 : Nat), i_1 < Min.min z36.n z20 → (True ∧ Sx.Ask z1 ∧ Sx.Ask (cutI (z36.f i_1).x z16 z15 = cutI (z36.f i_1).x z16 z15)) ∧ Sx.Ask z1 ∧ Sx.Ask (cutI (z36.f i_1).y z16 z15 = cutI (z36.f i_1).y z16 z15)) ∧ Sx.Ask (z36.c = z36.c));True ∧ True ∧ (True ∧ Sx.Ask True) ∧ True ∧ True ∧ (((Sx.Ask (g.l.n = g.l.n) ∧ ∀ (i : Nat), let z37 := (g.l.f i); i < g.l.n → (True ∧ Sx.Ask (z37.n = z37.n) ∧ ∀ (i_1 : Nat), i_1 < z37.n → (True ∧ Sx.Ask z1 ∧ Sx.Ask ((z37.f i_1).x = (z37.f i_1).x)) ∧ Sx.Ask z1 ∧ Sx.Ask ((z37.f i_1).y = (z37.f i_1).y)) ∧ Sx.Ask (z37.c = z37.c)) ∧ (Sx.Ask z1 ∧ Sx.Ask (z15 = z15)) ∧ True) ∧ Sx.Ask (Flg.FwG.mk g.l z15).ok) ∧ True ∧ ((((((True ∧ Sx.Ask z1 ∧ Sx.Ask (g.s.w = g.s.w)) ∧ Sx.Ask z1 ∧ Sx.Ask (g.s.cap = g.s.cap)) ∧ Sx.Ask z1 ∧ Sx.Ask (g.s.join = g.s.join)) ∧ Sx.Ask z1 ∧ Sx.Ask (g.s.limit = g.s.limit)) ∧ (Sx.Ask z1 ∧ Sx.Ask (z40 = z40)) ∧ True) ∧ Sx.Ask (z34 ≤ z40 ∧ z40 ≤ (1024 : Int))) ∧ True ∧ (((Sx.Ask z1 ∧ Sx.Ask (g.dx = g.dx)) ∧ (Sx.Ask z1 ∧ Sx.Ask (z9 = z9)) ∧ (Sx.Ask z1 ∧ Sx.Ask (z10 = z10)) ∧ True) ∧ Sx.Ask z21) ∧ True ∧ (((Sx.Ask z1 ∧ Sx.Ask (g.dy = g.dy)) ∧ (Sx.Ask z1 ∧ Sx.Ask (z9 = z9)) ∧ (Sx.Ask z1 ∧ Sx.Ask (z10 = z10)) ∧ True) ∧ Sx.Ask z21) ∧ True ∧ True ∧ True ∧ True ∧ True ∧ True ∧ ((z2 ∧ z3 ∧ True) ∧ Sx.Ask (Ste.StrOK z4)) ∧ True ∧ True ∧ True ∧ True ∧ True ∧ True ∧ True ∧ True ∧ True ∧ (∃ (g_1 : Nat), Sx.Ask ((mv1 g).pre g_1) ∧ (Sx.Ask z43 ∧ z13 ∧ z14 ∧ (Sx.Ask ((Ste.outR z4).length = g.a.length) ∧ ∀ (i : Nat), let z38 := (Rga.rI (Ste.outR z4) i); i < g.a.length → ((True ∧ Sx.Ask z1 ∧ Sx.Ask (z38.y = (Rga.rI g.a i).y)) ∧ Sx.Ask z1 ∧ Sx.Ask (z38.x0 = (Rga.rI g.a i).x0)) ∧ Sx.Ask z1 ∧ Sx.Ask (z38.x1 = (Rga.rI g.a i).x1)) ∧ z22 ∧ True ∧ z2 ∧ z27 ∧ (Sx.Ask z1 ∧ Sx.Ask (z28 = (↑g_1 : Int))) ∧ True) ∧ z3 ∧ (Sx.Ask (z25 = g_1) ∧ (∀ (i : Nat), i < g_1 → Sx.Ask (z25 = Min.min (g.l.f i).n z20) ∧ ∀ (i' : Nat), i' < Min.min (g.l.f i).n z20 → (True ∧ False) ∧ False) ∧ ∀ (i : Nat), i < g_1 → True ∧ False) ∧ True) ∧ ∀ (g_1 : Nat), let z29 := (↑g_1 : Int); let z26 := (g.l.f g_1); let z17 := (↑(Min.min z26.n z20) : Int); let z12 := (g.l.f z29.toNat); let z8 := (Sx.Ask (g_1 = g_1) ∧ (∀ (i : Nat), i < g_1 → Sx.Ask (Min.min (g.l.f i).n z20 = Min.min (g.l.f i).n z20) ∧ ∀ (i' : Nat), let z41 := ((g.l.f i).f i'); i' < Min.min (g.l.f i).n z20 → (True ∧ Sx.Ask z1 ∧ Sx.Ask (cutI z41.x z16 z15 + cutI g.dx z9 z10 = cutI z41.x z16 z15 + cutI g.dx z9 z10)) ∧ Sx.Ask z1 ∧ Sx.Ask (cutI z41.y z16 z15 + cutI g.dy z9 z10 = cutI z41.y z16 z15 + cutI g.dy z9 z10)) ∧ ∀ (i : Nat), i < g_1 → True ∧ Sx.Ask ((g.l.f i).c = (g.l.f i).c)); let z7 := (fun (j : Nat) => Flg.cutP z15 (z26.f j)); let z0 := (Sto.StrG.mk (Fla.Lns.mk g_1 fun (i : Nat) => Fla.Li.mk (Min.min (g.l.f i).n z20) (fun (i_1 : Nat) => Con.Pt.mk (cutI ((g.l.f i).f i_1).x z16 z15 + cutI g.dx z9 z10) (cutI ((g.l.f i).f i_1).y z16 z15 + cutI g.dy z9 z10)) (g.l.f i).c) z19); let z35 := (Ste.outR z0); (mv1 g).pre g_1 → True ∧ Sx.Br (decide (z29 < z11)) (Sx.Ask (z28 ≤ z29 ∧ z29 < z11) ∧ True ∧ True ∧ True ∧ True ∧ True ∧ (((Sx.Ask (Min.min z12.n z20 = Min.min z12.n z20) ∧ ∀ (i : Nat), i < Min.min z12.n z20 → (True ∧ Sx.Ask z1 ∧ Sx.Ask (cutI (z12.f i).x z16 z15 = cutI (z12.f i).x z16 z15)) ∧ Sx.Ask z1 ∧ Sx.Ask (cutI (z12.f i).y z16 z15 = cutI (z12.f i).y z16 z15)) ∧ True) ∧ Sx.Ask (Min.min z12.n z20 ≤ (4294967296 : Nat))) ∧ True ∧ True ∧ True ∧ True ∧ True ∧ True ∧ (∃ (g_2 : Nat), Sx.Ask ((mv2 g g_1).pre g_2) ∧ (Sx.Ask z43 ∧ z13 ∧ z14 ∧ z6 ∧ z22 ∧ True ∧ z2 ∧ z27 ∧ (Sx.Ask z1 ∧ Sx.Ask (z29 = z29)) ∧ Sx.Ask z43 ∧ True ∧ (Sx.Ask z1 ∧ Sx.Ask ((↑(Min.min z12.n z20) : Int) = z17)) ∧ (Sx.Ask z1 ∧ Sx.Ask (z28 = (↑g_2 : Int))) ∧ True) ∧ z3 ∧ z8 ∧ ((True ∧ True) ∧ Sx.Ask (z12.c = z26.c)) ∧ (Sx.Ask (Min.min z12.n z20 = Min.min z26.n z20) ∧ ∀ (i : Nat), i < Min.min z26.n z20 → (True ∧ Sx.Ask z1 ∧ Sx.Ask (cutI (z12.f i).x z16 z15 = (mvP g.v z7 g_2 i).x)) ∧ Sx.Ask z1 ∧ Sx.Ask (cutI (z12.f i).y z16 z15 = (mvP g.v z7 g_2 i).y)) ∧ True) ∧ ∀ (g_2 : Nat), let z24 := (↑g_2 : Int); let z18 := (mvP g.v z7 g_2 z24.toNat); (mv2 g g_1).pre g_2 → True ∧ Sx.Br (decide (z24 < z17)) (True ∧ Sx.Ask (z28 ≤ z24 ∧ z24 < z17) ∧ Sx.Ask (z24.toNat < Min.min z26.n z20) ∧ True ∧ True ∧ True ∧ True ∧ True ∧ True ∧ True ∧ True ∧ True ∧ Sx.Ask (z30 ≤ z18.x + cutI g.dx z9 z10 ∧ z18.x + cutI g.dx z9 z10 ≤ z31) ∧ True ∧ True ∧ True ∧ Sx.Ask (z30 ≤ z18.y + cutI g.dy z9 z10 ∧ z18.y + cutI g.dy z9 z10 ≤ z31) ∧ True ∧ Sx.Ask (z28 ≤ z24 ∧ z24 < z17) ∧ Sx.Ask (z24.toNat < Min.min z26.n z20) ∧ Sx.Ask (z30 ≤ z24 + z34 ∧ z24 + z34 ≤ z31) ∧ True ∧ ∃ (g' : Nat), Sx.Ask ((mv2 g g_1).pre g') ∧ ((Sx.Ask z43 ∧ z13 ∧ z14 ∧ z6 ∧ z22 ∧ True ∧ z2 ∧ z27 ∧ (Sx.Ask z1 ∧ Sx.Ask (z29 = z29)) ∧ Sx.Ask z43 ∧ True ∧ (Sx.Ask z1 ∧ Sx.Ask (z17 = z17)) ∧ (Sx.Ask z1 ∧ Sx.Ask (z24 + z34 = (↑g' : Int))) ∧ True) ∧ z3 ∧ z8 ∧ ((True ∧ True) ∧ Sx.Ask (z26.c = z26.c)) ∧ (Sx.Ask (Min.min z26.n z20 = Min.min z26.n z20) ∧ ∀ (i : Nat), i < Min.min z26.n z20 → (True ∧ Sx.Ask z1 ∧ Sx.Ask ((bif decide (i = z24.toNat ∧ z25 ≤ z25 ∧ z25 < z25 + [Go.Value.int IntKind.i64 z28, Go.Value.int IntKind.i64 z28].length) then z18.x + cutI g.dx z9 z10 else (mvP g.v z7 g_2 i).x) = (mvP g.v z7 g' i).x)) ∧ Sx.Ask z1 ∧ Sx.Ask ((bif decide (i = z24.toNat ∧ z25 ≤ (1 : Nat) ∧ (1 : Nat) < z25 + [Go.Value.int IntKind.i64 z28, Go.Value.int IntKind.i64 z28].length) then z18.y + cutI g.dy z9 z10 else (mvP g.v z7 g_2 i).y) = (mvP g.v z7 g' i).y)) ∧ True) ∧ Sx.Ask ((mv2 g g_1).meas g' < (mv2 g g_1).meas g_2)) (True ∧ True ∧ True ∧ Sx.Ask (g_1 + (1 : Nat) ≤ (9223372036854775807 : Nat) ∧ (g_1 + (1 : Nat)) * (32 : Nat) ≤ (140737488355328 : Nat)) ∧ True ∧ Sx.Ask (z30 ≤ z29 + z34 ∧ z29 + z34 ≤ z31) ∧ True ∧ ∃ (g' : Nat), Sx.Ask ((mv1 g).pre g') ∧ ((Sx.Ask z43 ∧ z13 ∧ z14 ∧ z6 ∧ z22 ∧ True ∧ z2 ∧ z27 ∧ (Sx.Ask z1 ∧ Sx.Ask (z29 + z34 = (↑g' : Int))) ∧ True) ∧ z3 ∧ (Sx.Ask (g_1 + (1 : Nat) = g') ∧ (∀ (i : Nat), i < g' → Sx.Ask ((bif decide (i = g_1) then Min.min z26.n z20 else Min.min (g.l.f i).n z20) = Min.min (g.l.f i).n z20) ∧ ∀ (i' : Nat), let z42 := ((g.l.f i).f i'); i' < Min.min (g.l.f i).n z20 → (True ∧ Sx.Ask z1 ∧ Sx.Ask ((bif decide (i = g_1) then (mvP g.v z7 g_2 i').x else cutI z42.x z16 z15 + cutI g.dx z9 z10) = cutI z42.x z16 z15 + cutI g.dx z9 z10)) ∧ Sx.Ask z1 ∧ Sx.Ask ((bif decide (i = g_1) then (mvP g.v z7 g_2 i').y else cutI z42.y z16 z15 + cutI g.dy z9 z10) = cutI z42.y z16 z15 + cutI g.dy z9 z10)) ∧ ∀ (i : Nat), i < g' → True ∧ Sx.Ask ((bif decide (i < g_1) then (g.l.f i).c else z26.c) = (g.l.f i).c)) ∧ True) ∧ Sx.Ask ((mv1 g).meas g' < (mv1 g).meas g_1))) (True ∧ True ∧ (((Sx.Ask (g_1 = g_1) ∧ ∀ (i : Nat), let z39 := (g.l.f i); i < g_1 → (True ∧ Sx.Ask (Min.min z39.n z20 = Min.min z39.n z20) ∧ ∀ (i_1 : Nat), i_1 < Min.min z39.n z20 → (True ∧ Sx.Ask z1 ∧ Sx.Ask (cutI (z39.f i_1).x z16 z15 + cutI g.dx z9 z10 = cutI (z39.f i_1).x z16 z15 + cutI g.dx z9 z10)) ∧ Sx.Ask z1 ∧ Sx.Ask (cutI (z39.f i_1).y z16 z15 + cutI g.dy z9 z10 = cutI (z39.f i_1).y z16 z15 + cutI g.dy z9 z10)) ∧ Sx.Ask (z39.c = z39.c)) ∧ z3 ∧ True) ∧ Sx.Ask (Ste.StrOK z0)) ∧ True ∧ True ∧ True ∧ True ∧ True ∧ True ∧ True ∧ True ∧ ((z6 ∧ z13 ∧ z14 ∧ True) ∧ Sx.Ask z5.ok) ∧ True ∧ True ∧ True ∧ True ∧ True ∧ True ∧ True ∧ True ∧ True ∧ True ∧ True ∧ True ∧ True ∧ True ∧ (((Sx.Ask (z35.length = z35.length) ∧ ∀ (i : Nat), let z23 := (Rga.rI z35 i); i < z35.length → ((True ∧ Sx.Ask z1 ∧ Sx.Ask (z23.y = z23.y)) ∧ Sx.Ask z1 ∧ Sx.Ask (z23.x0 = z23.x0)) ∧ Sx.Ask z1 ∧ Sx.Ask (z23.x1 = z23.x1)) ∧ (Sx.Ask (z5.L.length = z5.L.length) ∧ ∀ (i : Nat), let z32 := (Rga.rI z5.L i); i < z5.L.length → ((True ∧ Sx.Ask z1 ∧ Sx.Ask (z32.y = z32.y)) ∧ Sx.Ask z1 ∧ Sx.Ask (z32.x0 = z32.x0)) ∧ Sx.Ask z1 ∧ Sx.Ask (z32.x1 = z32.x1)) ∧ True) ∧ Sx.Ask (Rgc.EqG.mk (Rga.Rg.mk z35.length (Rga.rI z35)) (Rga.Rg.mk z5.L.length (Rga.rI z5.L))).ok) ∧ True ∧ True ∧ True ∧ Sx.Ask (true = true))) (by kernel_rfl) ?_
  simp only [ask_iff, br_iff, eq_self, true_and, and_true, implies_true, forall_const, decide_eq_true_eq, decide_eq_false_iff_not, ne_eq, Nat.mul_one, Nat.add_zero, Nat.zero_add, Int.toNat_natCast, and_self, List.append_assoc, false_and, and_false]
  have hg : lnok g.l := hg
  have tl := tw_tiny g.l
  have ts : Sty.tiny g.c := sty_tiny g.s
  have hx : -500 ≤ g.v.x ∧ g.v.x ≤ 500 := cutI_range g.dx (-500) 500 (by omega)
  have hy : -500 ≤ g.v.y ∧ g.v.y ≤ 500 := cutI_range g.dy (-500) 500 (by omega)
  have tg : tinyG g.t := ⟨Nat.le_trans tl.1 (by decide), tl.2⟩
  have S1 : StrOK ⟨g.t, g.c⟩ := str_ok tg ts
  have S2 : StrOK ⟨shLns g.v g.t, g.c⟩ := str_sh hx hy tg ts
  obtain ⟨o1, o2⟩ := outR_sh hx hy ts tg
  obtain ⟨q1, q2⟩ := shA_ok (out_vld g.c g.t) hx hy o2
  have hx' : -500 ≤ cutI g.dx (-500) 500 ∧ cutI g.dx (-500) 500 ≤ 500 := hx
  have hy' : -500 ≤ cutI g.dy (-500) 500 ∧ cutI g.dy (-500) 500 ≤ 500 := hy
  refine ⟨⟨hg, show (0 : Int) ≤ 200 by decide, show (200 : Int) ≤ 32767 by decide⟩, by decide, by decide, by decide, S1, ⟨0, Nat.zero_le _, ⟨⟨rfl, fun i _ => ⟨⟨rfl, rfl⟩, rfl⟩⟩, rfl⟩, rfl, fun i hi => absurd hi (Nat.not_lt_zero i), fun i hi => absurd hi (Nat.not_lt_zero i)⟩, fun i hi => ⟨fun hlt => ?_, fun hge => ?_⟩⟩
  · have hit : i < min g.l.n 4 := by omega
    refine ⟨by omega, by omega, ⟨0, ⟨hit, Nat.zero_le _⟩, rfl, fun k _ => ?_⟩, fun j hj => ⟨fun hjl => ?_, fun hjg => ?_⟩⟩
    · rw [show mvP g.v (fun j => cutP 200 ((g.l.f i).f j)) 0 k = cutP 200 ((g.l.f i).f k) from if_neg (Nat.not_lt_zero k)]
      exact ⟨rfl, rfl⟩
    · have hjn : j < min (g.l.f i).n 8 := by omega
      have e : mvP g.v (fun j => cutP 200 ((g.l.f i).f j)) j j = cutP 200 ((g.l.f i).f j) := if_neg (Nat.lt_irrefl j)
      have r1 : -200 ≤ (cutP 200 ((g.l.f i).f j)).x ∧ (cutP 200 ((g.l.f i).f j)).x ≤ 200 := cutI_range _ (-200) 200 (by omega)
      have r2 : -200 ≤ (cutP 200 ((g.l.f i).f j)).y ∧ (cutP 200 ((g.l.f i).f j)).y ≤ 200 := cutI_range _ (-200) 200 (by omega)
      rw [e]
      refine ⟨by omega, hjn, by omega, by omega, by omega, hjn, by omega, j + 1, ⟨hit, hjn⟩, ⟨rfl, fun k hk => ?_⟩, ?_⟩
      · by_cases ck : k = j
        · rw [decide_eq_true (show k = j ∧ 0 ≤ 0 ∧ 0 < [Value.int IntKind.i64 0, Value.int IntKind.i64 0].length from ⟨ck, by decide, by decide⟩), decide_eq_true (show k = j ∧ 0 ≤ 1 ∧ 1 < [Value.int IntKind.i64 0, Value.int IntKind.i64 0].length from ⟨ck, by decide, by decide⟩), ck, show mvP g.v (fun j => cutP 200 ((g.l.f i).f j)) (j + 1) j = addP (cutP 200 ((g.l.f i).f j)) g.v from if_pos (Nat.lt_succ_self j)]
          exact ⟨rfl, rfl⟩
        · rw [decide_eq_false (show ¬ (k = j ∧ 0 ≤ 0 ∧ 0 < [Value.int IntKind.i64 0, Value.int IntKind.i64 0].length) from fun h => ck h.1), decide_eq_false (show ¬ (k = j ∧ 0 ≤ 1 ∧ 1 < [Value.int IntKind.i64 0, Value.int IntKind.i64 0].length) from fun h => ck h.1)]
          have e2 : mvP g.v (fun j => cutP 200 ((g.l.f i).f j)) (j + 1) k = mvP g.v (fun j => cutP 200 ((g.l.f i).f j)) j k := by
            unfold mvP
            by_cases c : k < j
            · rw [if_pos c, if_pos (by omega)]
            · rw [if_neg c, if_neg (by omega)]
          rw [e2]
          exact ⟨rfl, rfl⟩
      · show min (g.l.f i).n 8 - (j + 1) < min (g.l.f i).n 8 - j
        omega
    · obtain ⟨-, hj⟩ : i < g.t.n ∧ j ≤ (g.t.f i).n := hj
      have hj : j ≤ min (g.l.f i).n 8 := hj
      refine ⟨by omega, by omega, i + 1, hit, ⟨rfl, rfl, fun t ht => ?_, fun t ht => ?_⟩, ?_⟩
      · by_cases ct : t = i
        · rw [decide_eq_true ct, ct]
          refine ⟨rfl, fun k hk => ?_⟩
          rw [show mvP g.v (fun j => cutP 200 ((g.l.f i).f j)) j k = addP (cutP 200 ((g.l.f i).f k)) g.v from if_pos (by omega)]
          exact ⟨rfl, rfl⟩
        · rw [decide_eq_false ct]
          exact ⟨rfl, fun k hk => ⟨rfl, rfl⟩⟩
      · by_cases ct : t < i
        · rw [decide_eq_true ct]; rfl
        · rw [decide_eq_false ct, show t = i by omega]; rfl
      · show min g.l.n 4 - (i + 1) < min g.l.n 4 - i
        omega
  · have hi : i ≤ min g.l.n 4 := hi
    have e : i = min g.l.n 4 := by omega
    subst e
    refine ⟨S2, q1, ?_⟩
    show Rgc.EqG.ok ⟨⟨(outR ⟨shLns g.v g.t, g.c⟩).length, rI (outR ⟨shLns g.v g.t, g.c⟩)⟩, ⟨(Rgd.ShG.L ⟨⟨(outR ⟨g.t, g.c⟩).length, rI (outR ⟨g.t, g.c⟩)⟩, g.v.x, g.v.y⟩).length, rI (Rgd.ShG.L ⟨⟨(outR ⟨g.t, g.c⟩).length, rI (outR ⟨g.t, g.c⟩)⟩, g.v.x, g.v.y⟩)⟩⟩
    rw [q2, ← o1]
    exact ⟨vO g.c (shLns g.v g.t), rfl⟩
end Go.Proofs.Ytfjbjbmbdadmhaa.Stt
