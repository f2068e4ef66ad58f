/- conic.Flatten, its lines the caller's own; slices.Equal of alike points; the law ConicReversed: by the evaluation. -/
import Derived.Test.YtfjbjbmbdadmhaaCrl
import Derived.Test.YtfjbjbmbdadmhaaPtr
set_option linter.unusedSimpArgs false
set_option linter.unusedVariables false
namespace Go.Proofs.Ytfjbjbmbdadmhaa.Crv
open Go.RowKit Sx Num Aff Con Cop Coh Pth Prv Prw Flt Crl
set_option maxRecDepth 100000
/-! slices.Equal of alike points. -/
abbrev eqT : List (TypeId × List CK) := [(34, [.int, .int])]
theorem eqT_ok : AllEq Try.prog eqT := ⟨eqOK_of (m := 2) (by kernel_rfl) (by kernel_rfl) rfl (by decide) (by kernel_rfl), trivial⟩
structure QqG where
  a : Ptr.PtG
  b : Ptr.PtG
def QqG.ok (g : QqG) : Prop := (g.a.n = g.b.n ∧ g.a.n ≤ 9223372036854775806) ∧ ∀ i, i < g.a.n → g.a.f i = g.b.f i
def qqInv (g : QqG) : Inv := ⟨Nat, fun i => i ≤ g.a.n, fun i => ⟨[(0, Ptr.ptsS g.a), (1, Ptr.ptsS g.b), (12, .int .i64 g.a.n), (13, .int .i64 i)], []⟩, fun i => g.a.n - i⟩
def spEqT : FSpec := mkSpec 16 (γ := QqG) (fun | [s, t] => some ⟨⟨slLen s, Fla.pxD s⟩, ⟨slLen t, Fla.pxD t⟩⟩ | _ => none) (fun g => [Ptr.ptsS g.a, Ptr.ptsS g.b]) QqG.ok (fun _ => .lit true)
theorem ok_eqT : SpecOK Try.prog spEqT := by
  refine spec_sound (specs := []) (all_ok trivial) (eqs := eqT) (all_eq eqT_ok) Aff.mixed Try.func16 rfl (by kernel_rfl) (fun _ _ => by kernel_rfl) (fun g => (⟨[(4, .inv (qqInv g))], []⟩ : Ann)) (fun g => Nat.le_of_ble_eq_true (by kernel_rfl)) ?_
  rintro g hg
  refine vc_of (B := let z5 := (True ∧ True ∧ Sx.Ask (false = true));let z4 := (↑g.a.n : Int);let z0 := (IntKind.i64 = IntKind.i64); let z2 := (Sx.Ask (g.b.n = g.b.n) ∧ ∀ (i : Nat), i < g.b.n → (True ∧ Sx.Ask z0 ∧ Sx.Ask ((g.b.f i).x = (g.b.f i).x)) ∧ Sx.Ask z0 ∧ Sx.Ask ((g.b.f i).y = (g.b.f i).y)); let z1 := (Sx.Ask (g.a.n = g.a.n) ∧ ∀ (i : Nat), i < g.a.n → (True ∧ Sx.Ask z0 ∧ Sx.Ask ((g.a.f i).x = (g.a.f i).x)) ∧ Sx.Ask z0 ∧ Sx.Ask ((g.a.f i).y = (g.a.f i).y));True ∧ True ∧ True ∧ True ∧ True ∧ True ∧ Sx.Br (decide (z4 ≠ (↑g.b.n : Int))) z5 (True ∧ True ∧ True ∧ (∃ (g_1 : Nat), Sx.Ask ((qqInv g).pre g_1) ∧ (z1 ∧ z2 ∧ (Sx.Ask z0 ∧ Sx.Ask (z4 = z4)) ∧ (Sx.Ask z0 ∧ Sx.Ask ((0 : Int) = (↑g_1 : Int))) ∧ True) ∧ True) ∧ ∀ (g_1 : Nat), let z3 := (↑g_1 : Int); (qqInv g).pre g_1 → True ∧ Sx.Br (decide (z3 < z4)) (True ∧ True ∧ True ∧ True ∧ Sx.Ask ((0 : Int) ≤ z3 ∧ z3 < z4) ∧ True ∧ True ∧ True ∧ Sx.Ask ((0 : Int) ≤ z3 ∧ z3 < (↑g.b.n : Int)) ∧ True ∧ True ∧ Sx.Br (!(decide ((g.a.f z3.toNat).x = (g.b.f z3.toNat).x) && (decide ((g.a.f z3.toNat).y = (g.b.f z3.toNat).y) && true))) z5 (Sx.Ask ((-9223372036854775808 : Int) ≤ z3 + (1 : Int) ∧ z3 + (1 : Int) ≤ (9223372036854775807 : Int)) ∧ True ∧ ∃ (g' : Nat), Sx.Ask ((qqInv g).pre g') ∧ ((z1 ∧ z2 ∧ (Sx.Ask z0 ∧ Sx.Ask (z4 = z4)) ∧ (Sx.Ask z0 ∧ Sx.Ask (z3 + (1 : Int) = (↑g' : Int))) ∧ True) ∧ True) ∧ Sx.Ask ((qqInv g).meas g' < (qqInv g).meas g_1))) (True ∧ True ∧ Sx.Ask (true = true)))) (by kernel_rfl) ?_
  simp only [ask_iff, br_iff, eq_self, true_and, and_true, implies_true, forall_const, decide_eq_true_eq, decide_eq_false_iff_not, ne_eq, Nat.mul_one, Nat.add_zero, Nat.zero_add]
  obtain ⟨⟨hn, hb⟩, hf⟩ := hg
  refine ⟨fun h => absurd (congrArg Int.ofNat hn) h, fun _ => ⟨⟨0, Nat.zero_le _, rfl⟩, fun i hi hlt => ?_⟩⟩
  have hi : i ≤ g.a.n := hi
  have z : ((i : Int)).toNat = i := rfl
  rw [z, hf i (by omega), decide_eq_true rfl, decide_eq_true rfl]
  refine ⟨by omega, by omega, fun h => absurd h (by decide), fun _ => ⟨by omega, i + 1, (by omega : i + 1 ≤ g.a.n), rfl, ?_⟩⟩
  show g.a.n - (i + 1) < g.a.n - i
  omega
/-! Flatten. -/
def qm (p : Pth) (t : Nat) : Nat := (qline (pat p t)).length
def qp (p : Pth) (t i j : Nat) : SV := lst (ptL (gp (qline (pat p t)) i)) j
def deepF (p : Pth) (t : Nat) : SO := .deep 0 t 2 2 (qm p) (qp p) (fun t => lst [.any, .bool (qshut (pat p t))]) 36 34 none
def flOut (p : Pth) : Inv := ⟨Int, fun t => 0 ≤ t ∧ t ≤ p.mv p.n, fun t => ⟨tmpF p t, [deepF p t.toNat]⟩, fun t => (p.mv p.n - t).toNat⟩
def flIn (p : Pth) (t : Int) : Inv := ⟨Int, fun j => (0 ≤ j ∧ j ≤ (pat p t.toNat).n - 1) ∧ ∀ i : Nat, (i : Int) < j → ((pat p t.toNat).f (i + 1)).k ≠ 4,
  fun j => ⟨[(8, .own 1 0), (9, .own 3 0), (37, .sl ((pat p t.toNat).n - 1) 6 (fun i => lst (segL ((pat p t.toNat).f (1 + i))))), (38, .int .i64 ((pat p t.toNat).n - 1 : Nat)), (39, .int .i64 j)] ++ tmpF p t,
    [deepF p t.toNat, .cells 2 (lst (ptL (qpt (pat p t.toNat) j.toNat))) 34, .row 0 (qpp (pat p t.toNat) j.toNat).length 2 (fun i => lst (ptL (gp (qpp (pat p t.toNat) j.toNat) i))) 34, .cells 2 (lst [.osl 2 0, .lit false]) 36]⟩,
  fun j => ((pat p t.toNat).n - j).toNat⟩
def flCut (p : Pth) (t : Int) : Inv := ⟨Unit, fun _ => True,
  fun _ => ⟨[(9, .own 3 0)] ++ tmpF p t,
    [deepF p t.toNat, .cells 2 (fun _ => .any) 34, .row 0 (qline (pat p t.toNat)).length 2 (fun i => lst (ptL (gp (qline (pat p t.toNat)) i))) 34, .cells 2 (lst [.osl 2 0, .bool (qshut (pat p t.toNat))]) 36]⟩, fun _ => 0⟩
def spFlatD : FSpec := mkSpecN 12 (γ := Pth) (fun | [s] => some ⟨slLen s, pfD s⟩ | _ => none) (fun p => [pthS p]) (fun p => p.n ≤ 9223372036854775807) (fun p => .tup 2 (lst [.osl 0 0, .int .i64 p.chk])) (fun p => deepF p (if p.chk = 0 then p.mv p.n else 0))
theorem ok_flatD : SpecOK Try.prog spFlatD := by
  refine spec_soundN (specs := [spCheckPa, spSubs, spPts]) (all_ok (⟨ok_checkPa, ok_subs, ok_pts, trivial⟩)) (eqs := []) (fun _ _ h => (List.not_mem_nil h).elim) Aff.mixed Try.func12 rfl (by kernel_rfl) (fun _ _ => by kernel_rfl) (fun g => (⟨[(6, .nest (flOut g) (fun t => [(11, .inv (flIn g t)), (18, .cut (flCut g t))]))], [(5, [.own 5 36 2, .deepen 0 2 34]), (1000003, [.own 2 36 2, .deepen 0 2 34]), (1000018, [.unfocus 0])]⟩ : Ann)) (fun _ => 0) (fun g => Nat.le_of_ble_eq_true (by kernel_rfl)) ?_
  rintro p hn
  refine vc_of (B := let z33 := (↑(p.mv p.n) : Int);let z31 := (9223372036854775807 : Nat);let z25 := (True ∧ True);let z18 := (0 : Int);let z17 := (0 : Nat);let z16 := (1 : Nat);let z1 := (IntKind.i64 = IntKind.i64); let z7 := (Sx.Ask z1 ∧ Sx.Ask (z33 = z33)); let z5 := ((Sx.Ask (p.n = p.n) ∧ ∀ (i : Nat), i < p.n → (((((True ∧ Sx.Ask z1 ∧ Sx.Ask ((p.f i).k = (p.f i).k)) ∧ Sx.Ask z1 ∧ Sx.Ask ((p.f i).x = (p.f i).x)) ∧ Sx.Ask z1 ∧ Sx.Ask ((p.f i).y = (p.f i).y)) ∧ Sx.Ask z1 ∧ Sx.Ask ((p.f i).u = (p.f i).u)) ∧ Sx.Ask z1 ∧ Sx.Ask ((p.f i).v = (p.f i).v)) ∧ Sx.Ask z1 ∧ Sx.Ask ((p.f i).w = (p.f i).w)) ∧ True);let z0 := (Sx.Ask (p.mv p.n = p.mv p.n) ∧ ∀ (i : Nat), i < p.mv p.n → True ∧ Sx.Ask (p.ln p.n i = p.ln p.n i) ∧ ∀ (i_1 : Nat), let z12 := ((p.sub p.n i).f i_1); i_1 < p.ln p.n i → (((((True ∧ Sx.Ask z1 ∧ Sx.Ask (z12.k = z12.k)) ∧ Sx.Ask z1 ∧ Sx.Ask (z12.x = z12.x)) ∧ Sx.Ask z1 ∧ Sx.Ask (z12.y = z12.y)) ∧ Sx.Ask z1 ∧ Sx.Ask (z12.u = z12.u)) ∧ Sx.Ask z1 ∧ Sx.Ask (z12.v = z12.v)) ∧ Sx.Ask z1 ∧ Sx.Ask (z12.w = z12.w));True ∧ True ∧ True ∧ (z5 ∧ Sx.Ask (p.n ≤ z31)) ∧ True ∧ True ∧ True ∧ Sx.Br (decide (p.chk ≠ z18)) (True ∧ True ∧ True ∧ True ∧ ((z25 ∧ Sx.Ask z1 ∧ Sx.Ask (p.chk = p.chk)) ∧ True) ∧ (Sx.Ask (z17 = if p.chk = z18 then p.mv p.n else z17) ∧ (∀ (i : Nat), (i < if p.chk = z18 then p.mv p.n else z17) → Sx.Ask (z17 = qm p i) ∧ ∀ (i' : Nat), i' < qm p i → (True ∧ False) ∧ False) ∧ ∀ (i : Nat), (i < if p.chk = z18 then p.mv p.n else z17) → True ∧ False) ∧ True) (True ∧ True ∧ (z5 ∧ Sx.Ask (p.chk = z18)) ∧ True ∧ True ∧ (∃ (g : Int), Sx.Ask ((flOut p).pre g) ∧ (True ∧ (Sx.Ask (p.mv p.n = p.mv p.n) ∧ ∀ (i : Nat), i < p.mv p.n → True ∧ Sx.Ask (p.ln p.n i = p.ln p.n i) ∧ ∀ (i_1 : Nat), let z23 := ((p.sub p.n i).f i_1); let z19 := (p.f (p.st p.n i + i_1)); i_1 < p.ln p.n i → (((((True ∧ Sx.Ask z1 ∧ Sx.Ask (z19.k = z23.k)) ∧ Sx.Ask z1 ∧ Sx.Ask (z19.x = z23.x)) ∧ Sx.Ask z1 ∧ Sx.Ask (z19.y = z23.y)) ∧ Sx.Ask z1 ∧ Sx.Ask (z19.u = z23.u)) ∧ Sx.Ask z1 ∧ Sx.Ask (z19.v = z23.v)) ∧ Sx.Ask z1 ∧ Sx.Ask (z19.w = z23.w)) ∧ z7 ∧ (Sx.Ask z1 ∧ Sx.Ask (z18 = g)) ∧ True) ∧ (Sx.Ask (z17 = g.toNat) ∧ (∀ (i : Nat), i < g.toNat → Sx.Ask (z17 = qm p i) ∧ ∀ (i' : Nat), i' < qm p i → (True ∧ False) ∧ False) ∧ ∀ (i : Nat), i < g.toNat → True ∧ False) ∧ True) ∧ ∀ (g : Int), let z24 := (Sx.Ask z1 ∧ Sx.Ask (g = g)); let z32 := (Sx.Ask (z17 = z17) ∧ True ∧ z0 ∧ z7 ∧ z24 ∧ True); let z15 := (p.ln p.n g.toNat); let z14 := ((p.sub p.n g.toNat).f (Int.toNat z18)); let z13 := (↑(p.ln p.n g.toNat - z16) : Int); let z3 := (Sx.Ask (g.toNat = g.toNat) ∧ (∀ (i : Nat), i < g.toNat → Sx.Ask (qm p i = qm p i) ∧ ∀ (i' : Nat), let z20 := (Flt.gp (Flt.qline (Flt.pat p i)) i'); i' < qm p i → (True ∧ Sx.Ask z1 ∧ Sx.Ask (z20.x = z20.x)) ∧ Sx.Ask z1 ∧ Sx.Ask (z20.y = z20.y)) ∧ ∀ (i : Nat), i < g.toNat → True ∧ Sx.Ask (Flt.qshut (Flt.pat p i) = Flt.qshut (Flt.pat p i))); let z2 := (Flt.pat p g.toNat); let z27 := (Flt.qline z2); (flOut p).pre g → True ∧ Sx.Br (decide (g < z33)) (Sx.Ask (z18 ≤ g ∧ g < z33) ∧ True ∧ True ∧ True ∧ Sx.Ask (z18 ≤ z18 ∧ z18 < (↑z15 : Int)) ∧ True ∧ True ∧ True ∧ Sx.Ask (z18 ≤ z18 ∧ z18 < (↑z15 : Int)) ∧ True ∧ True ∧ True ∧ True ∧ True ∧ True ∧ True ∧ True ∧ True ∧ True ∧ (True ∧ Sx.Ask (z18 ≤ Int.ofNat z16 ∧ Int.ofNat z16 ≤ Int.ofNat z15 ∧ Int.ofNat z15 ≤ Int.ofNat z15 ∧ Int.ofNat z15 ≤ (↑z15 : Int)) ∧ True ∧ True ∧ (∃ (g_1 : Int), let z29 := (Flt.qpp z2 g_1.toNat); Sx.Ask ((flIn p g).pre g_1) ∧ (Sx.Ask (z17 = z17) ∧ Sx.Ask (z17 = z17) ∧ (Sx.Ask ((Int.ofNat z15 - Int.ofNat z16).toNat = p.ln p.n g.toNat - z16) ∧ ∀ (i : Nat), let z26 := (z2.f (z16 + i)); let z9 := ((p.sub p.n g.toNat).f ((Int.ofNat z16).toNat + i)); i < p.ln p.n g.toNat - z16 → (((((True ∧ Sx.Ask z1 ∧ Sx.Ask (z9.k = z26.k)) ∧ Sx.Ask z1 ∧ Sx.Ask (z9.x = z26.x)) ∧ Sx.Ask z1 ∧ Sx.Ask (z9.y = z26.y)) ∧ Sx.Ask z1 ∧ Sx.Ask (z9.u = z26.u)) ∧ Sx.Ask z1 ∧ Sx.Ask (z9.v = z26.v)) ∧ Sx.Ask z1 ∧ Sx.Ask (z9.w = z26.w)) ∧ (Sx.Ask z1 ∧ Sx.Ask ((↑(Int.ofNat z15 - Int.ofNat z16).toNat : Int) = z13)) ∧ (Sx.Ask z1 ∧ Sx.Ask (z18 = g_1)) ∧ True ∧ z0 ∧ z7 ∧ z24 ∧ True) ∧ z3 ∧ ((True ∧ Sx.Ask z1 ∧ Sx.Ask (z14.x = (z2.f g_1.toNat).x)) ∧ Sx.Ask z1 ∧ Sx.Ask (z14.y = (z2.f g_1.toNat).y)) ∧ (Sx.Ask (z16 = z29.length) ∧ ∀ (i : Nat), i < z29.length → (True ∧ Sx.Ask z1 ∧ Sx.Ask (z14.x = (Flt.gp z29 i).x)) ∧ Sx.Ask z1 ∧ Sx.Ask (z14.y = (Flt.gp z29 i).y)) ∧ (z25 ∧ Sx.Ask (false = false)) ∧ True) ∧ ∀ (g_1 : Int), let z28 := (z2.f g_1.toNat); let z10 := (Flt.qpp z2 g_1.toNat); let z8 := (Sx.Ask (z10.length = z27.length) ∧ ∀ (i : Nat), i < z27.length → (True ∧ Sx.Ask z1 ∧ Sx.Ask ((Flt.gp z10 i).x = (Flt.gp z27 i).x)) ∧ Sx.Ask z1 ∧ Sx.Ask ((Flt.gp z10 i).y = (Flt.gp z27 i).y)); let z4 := (z2.f (z16 + g_1.toNat)); let z6 := (Cop.PsG.mk (Con.Pt.mk z28.x z28.y) z4); (flIn p g).pre g_1 → True ∧ Sx.Br (decide (g_1 < z13)) (Sx.Ask (z18 ≤ g_1 ∧ g_1 < z13) ∧ True ∧ True ∧ True ∧ True ∧ True ∧ True ∧ Sx.Br (decide (z4.k = (4 : Int))) (True ∧ True ∧ ∃ (g_2 : Unit), Sx.Ask ((flCut p g).pre g_2) ∧ z32 ∧ z3 ∧ (z25 ∧ True) ∧ z8 ∧ (z25 ∧ Sx.Ask (true = Flt.qshut z2)) ∧ True) (True ∧ True ∧ True ∧ True ∧ ((((True ∧ Sx.Ask z1 ∧ Sx.Ask (z28.x = z28.x)) ∧ Sx.Ask z1 ∧ Sx.Ask (z28.y = z28.y)) ∧ ((((((True ∧ Sx.Ask z1 ∧ Sx.Ask (z4.k = z4.k)) ∧ Sx.Ask z1 ∧ Sx.Ask (z4.x = z4.x)) ∧ Sx.Ask z1 ∧ Sx.Ask (z4.y = z4.y)) ∧ Sx.Ask z1 ∧ Sx.Ask (z4.u = z4.u)) ∧ Sx.Ask z1 ∧ Sx.Ask (z4.v = z4.v)) ∧ Sx.Ask z1 ∧ Sx.Ask (z4.w = z4.w)) ∧ True) ∧ Sx.Ask z6.ok) ∧ Sx.Ask (z10.length + z6.n.toNat ≤ z31 ∧ (z10.length + z6.n.toNat) * (16 : Nat) ≤ (140737488355328 : Nat)) ∧ True ∧ True ∧ True ∧ True ∧ True ∧ True ∧ True ∧ True ∧ Sx.Ask ((-9223372036854775808 : Int) ≤ g_1 + (1 : Int) ∧ g_1 + (1 : Int) ≤ (9223372036854775807 : Int)) ∧ True ∧ ∃ (g' : Int), let z30 := (Flt.qpp z2 g'.toNat); Sx.Ask ((flIn p g).pre g') ∧ ((Sx.Ask (z17 = z17) ∧ Sx.Ask (z17 = z17) ∧ (Sx.Ask (p.ln p.n g.toNat - z16 = p.ln p.n g.toNat - z16) ∧ ∀ (i : Nat), let z11 := (z2.f (z16 + i)); i < p.ln p.n g.toNat - z16 → (((((True ∧ Sx.Ask z1 ∧ Sx.Ask (z11.k = z11.k)) ∧ Sx.Ask z1 ∧ Sx.Ask (z11.x = z11.x)) ∧ Sx.Ask z1 ∧ Sx.Ask (z11.y = z11.y)) ∧ Sx.Ask z1 ∧ Sx.Ask (z11.u = z11.u)) ∧ Sx.Ask z1 ∧ Sx.Ask (z11.v = z11.v)) ∧ Sx.Ask z1 ∧ Sx.Ask (z11.w = z11.w)) ∧ (Sx.Ask z1 ∧ Sx.Ask (z13 = z13)) ∧ (Sx.Ask z1 ∧ Sx.Ask (g_1 + (1 : Int) = g')) ∧ True ∧ z0 ∧ z7 ∧ z24 ∧ True) ∧ z3 ∧ ((True ∧ Sx.Ask z1 ∧ Sx.Ask (z4.x = (z2.f g'.toNat).x)) ∧ Sx.Ask z1 ∧ Sx.Ask (z4.y = (z2.f g'.toNat).y)) ∧ (Sx.Ask (z10.length + z6.n.toNat = z30.length) ∧ ∀ (i : Nat), i < z30.length → (True ∧ Sx.Ask z1 ∧ Sx.Ask ((bif decide (i < z10.length) then (Flt.gp z10 i).x else (z6.pt (↑(i - z10.length) : Int)).x) = (Flt.gp z30 i).x)) ∧ Sx.Ask z1 ∧ Sx.Ask ((bif decide (i < z10.length) then (Flt.gp z10 i).y else (z6.pt (↑(i - z10.length) : Int)).y) = (Flt.gp z30 i).y)) ∧ (z25 ∧ Sx.Ask (false = false)) ∧ True) ∧ Sx.Ask ((flIn p g).meas g' < (flIn p g).meas g_1))) (∃ (g_2 : Unit), Sx.Ask ((flCut p g).pre g_2) ∧ z32 ∧ z3 ∧ (z25 ∧ True) ∧ z8 ∧ (z25 ∧ Sx.Ask (false = Flt.qshut z2)) ∧ True)) ∧ ∀ (g_1 : Unit), (flCut p g).pre g_1 → True ∧ True ∧ True ∧ Sx.Ask (g.toNat + z16 ≤ z31 ∧ (g.toNat + z16) * (32 : Nat) ≤ (140737488355328 : Nat)) ∧ True ∧ Sx.Ask ((-9223372036854775808 : Int) ≤ g + (1 : Int) ∧ g + (1 : Int) ≤ (9223372036854775807 : Int)) ∧ True ∧ ∃ (g' : Int), Sx.Ask ((flOut p).pre g') ∧ ((True ∧ z0 ∧ z7 ∧ (Sx.Ask z1 ∧ Sx.Ask (g + (1 : Int) = g')) ∧ True) ∧ (Sx.Ask (g.toNat + z16 = g'.toNat) ∧ (∀ (i : Nat), i < g'.toNat → Sx.Ask ((bif decide (i = g.toNat) then z27.length else qm p i) = qm p i) ∧ ∀ (i' : Nat), let z21 := (Flt.gp (Flt.qline (Flt.pat p i)) i'); i' < qm p i → (True ∧ Sx.Ask z1 ∧ Sx.Ask ((bif decide (i = g.toNat) then (Flt.gp z27 i').x else z21.x) = z21.x)) ∧ Sx.Ask z1 ∧ Sx.Ask ((bif decide (i = g.toNat) then (Flt.gp z27 i').y else z21.y) = z21.y)) ∧ ∀ (i : Nat), i < g'.toNat → True ∧ Sx.Ask ((bif decide (i < g.toNat) then Flt.qshut (Flt.pat p i) else Flt.qshut z2) = Flt.qshut (Flt.pat p i))) ∧ True) ∧ Sx.Ask ((flOut p).meas g' < (flOut p).meas g)) (True ∧ True ∧ True ∧ True ∧ ((z25 ∧ Sx.Ask z1 ∧ Sx.Ask (z18 = p.chk)) ∧ True) ∧ (Sx.Ask (g.toNat = if p.chk = z18 then p.mv p.n else z17) ∧ (∀ (i : Nat), (i < if p.chk = z18 then p.mv p.n else z17) → Sx.Ask (qm p i = qm p i) ∧ ∀ (i' : Nat), let z22 := (Flt.gp (Flt.qline (Flt.pat p i)) i'); i' < qm p i → (True ∧ Sx.Ask z1 ∧ Sx.Ask (z22.x = z22.x)) ∧ Sx.Ask z1 ∧ Sx.Ask (z22.y = z22.y)) ∧ ∀ (i : Nat), (i < if p.chk = z18 then p.mv p.n else z17) → True ∧ Sx.Ask (Flt.qshut (Flt.pat p i) = Flt.qshut (Flt.pat p i))) ∧ True))) (by kernel_rfl) ?_
  simp only [ask_iff, br_iff, eq_self, true_and, and_true, implies_true, forall_const, decide_eq_true_eq, decide_eq_false_iff_not, ne_eq, Nat.mul_one, Nat.add_zero, Nat.zero_add, Int.toNat_natCast, and_self, false_and, and_false]
  refine ⟨hn, fun h => ⟨(if_neg h).symm, fun i hi => absurd hi (by rw [if_neg h]; exact Nat.not_lt_zero _), fun i hi => absurd hi (by rw [if_neg h]; exact Nat.not_lt_zero _)⟩, fun hcc => ?_⟩
  have h0 : p.chk = 0 := Classical.not_not.1 hcc
  have hn2 := (chk_0.1 h0).1
  have hmv : p.mv p.n ≤ p.n := by
    have : ∀ j, p.mv j ≤ j := fun j => by
      induction j with
      | zero => exact Nat.le_refl 0
      | succ j ih => show p.mv j + (if (p.f j).k = 1 then 1 else 0) ≤ j + 1; split <;> omega
    exact this _
  refine ⟨h0, ⟨(0 : Int), ⟨Int.le_refl 0, Int.natCast_nonneg _⟩, ⟨fun t _ j _ => seg6 rfl, rfl⟩, rfl, fun t ht => absurd ht (Nat.not_lt_zero _), fun t ht => absurd ht (Nat.not_lt_zero _)⟩, fun t ht => ?_⟩
  have ht' : 0 ≤ t ∧ t ≤ p.mv p.n := ht
  refine ⟨fun hlt => ?_, fun hge => ⟨h0.symm, by rw [if_pos h0]; omega⟩⟩
  have sk := sub_ok h0 (t := t.toNat) (by omega)
  have en : (pat p t.toNat).n = p.ln p.n t.toNat := rfl
  have n1 := sk.n1
  have n2 := sk.n2
  rw [en] at n1 n2
  have e1 : (Int.ofNat 1).toNat = 1 := rfl
  have e0 : Int.toNat 0 = 0 := rfl
  simp only [e1, e0, Int.ofNat_eq_natCast]
  have ef : ∀ j, (p.sub p.n t.toNat).f j = (pat p t.toNat).f j := fun j => rfl
  simp only [ef]
  refine ⟨by omega, by omega, by omega, ⟨by omega, ⟨(0 : Int), ⟨⟨Int.le_refl 0, by omega⟩, fun i hi => absurd hi (by omega)⟩, ⟨⟨by omega, fun i _ => seg6 rfl⟩, by omega, rfl⟩, ⟨rfl, rfl⟩, rfl, fun i hi => ?_⟩, fun j hj => ?_⟩, fun _ _ => ⟨by omega, by omega, t + 1, ⟨show 0 ≤ t + 1 by omega, show t + 1 ≤ (p.mv p.n : Int) by omega⟩, ⟨rfl, by omega, fun i hi => ?_, fun i hi => ?_⟩, show (p.mv p.n - (t + 1)).toNat < (p.mv p.n - t).toNat by omega⟩⟩
  · have hi' : i < 1 := hi
    obtain rfl : i = 0 := by omega
    exact ⟨rfl, rfl⟩
  · have hj' : (0 ≤ j ∧ j ≤ (p.ln p.n t.toNat : Int) - 1) ∧ ∀ i : Nat, (i : Int) < j → ((pat p t.toNat).f (i + 1)).k ≠ 4 := hj
    obtain ⟨⟨j0, j1⟩, j2⟩ := hj'
    rw [Nat.add_comm 1 j.toNat]
    have et : (j + 1).toNat = j.toNat + 1 := by omega
    have hq : qpp (pat p t.toNat) (j.toNat + 1) = qpp (pat p t.toNat) j.toNat ++ if ((pat p t.toNat).f (j.toNat + 1)).k = 4 then [] else ptsOf (qps (pat p t.toNat) j.toNat) := rfl
    have hln : qline (pat p t.toNat) = qpp (pat p t.toNat) (p.ln p.n t.toNat - 1) := rfl
    have hsh : qshut (pat p t.toNat) = decide (((pat p t.toNat).f (p.ln p.n t.toNat - 1)).k = 4) := rfl
    have hpl := qpp_len (pat p t.toNat) j.toNat
    refine ⟨fun hl => ⟨⟨by omega, by omega⟩, fun h4 => ?_, fun h4 => ?_⟩, fun hl => ?_⟩
    · have hlast := (sk.kk (j.toNat + 1) (by omega) (by rw [en]; omega)).2 h4
      rw [en] at hlast
      rw [if_pos h4, List.append_nil] at hq
      have e : p.ln p.n t.toNat - 1 = j.toNat + 1 := by omega
      rw [hln, hsh, e, hq, decide_eq_true h4]
      exact ⟨(), trivial, ⟨rfl, fun _ _ => ⟨rfl, rfl⟩⟩, rfl⟩
    · have pok := ps_ok sk (j := j.toNat) (by rw [en]; omega) h4
      have hnn := n_le (qps (pat p t.toNat) j.toNat)
      rw [if_neg h4] at hq
      have hlen : (qpp (pat p t.toNat) (j.toNat + 1)).length = (qpp (pat p t.toNat) j.toNat).length + (qps (pat p t.toNat) j.toNat).n.toNat := by rw [hq, List.length_append, ptsOf_len]
      have eps : (PsG.mk ⟨((pat p t.toNat).f j.toNat).x, ((pat p t.toNat).f j.toNat).y⟩ ((pat p t.toNat).f (j.toNat + 1))) = qps (pat p t.toNat) j.toNat := rfl
      rw [eps]
      refine ⟨pok, by omega, by omega, j + 1, ⟨⟨by omega, by rw [en]; omega⟩, fun i hi => ?_⟩, ⟨rfl, ⟨by rw [et], by rw [et]⟩, by rw [et, hlen], fun i hi => ?_⟩, ?_⟩
      · by_cases e : (i : Int) < j
        · exact j2 i e
        · have : i = j.toNat := by omega
          rw [this]
          exact h4
      · rw [et] at hi ⊢
        rw [hq, gp_app]
        rw [hlen] at hi
        by_cases e : i < (qpp (pat p t.toNat) j.toNat).length
        · rw [decide_eq_true e, if_pos e]
          exact ⟨rfl, rfl⟩
        · rw [decide_eq_false e, if_neg e, gp_pts _ (by omega)]
          exact ⟨rfl, rfl⟩
      · show (((p.ln p.n t.toNat : Nat) : Int) - (j + 1)).toNat < (((p.ln p.n t.toNat : Nat) : Int) - j).toNat
        omega
    · have ej : j.toNat = p.ln p.n t.toNat - 1 := by omega
      have h4 : ¬ ((pat p t.toNat).f (p.ln p.n t.toNat - 1)).k = 4 := by
        by_cases e : p.ln p.n t.toNat = 1
        · rw [e, sk.k0]
          decide
        · have := j2 (p.ln p.n t.toNat - 2) (by omega)
          rw [show p.ln p.n t.toNat - 2 + 1 = p.ln p.n t.toNat - 1 by omega] at this
          exact this
      rw [hln, hsh, ej, decide_eq_false h4]
      exact ⟨(), trivial, ⟨rfl, fun _ _ => ⟨rfl, rfl⟩⟩, rfl⟩
  · by_cases e : i = t.toNat
    · rw [decide_eq_true e, e]
      exact ⟨rfl, fun _ _ => ⟨rfl, rfl⟩⟩
    · rw [decide_eq_false e]
      exact ⟨rfl, fun _ _ => ⟨rfl, rfl⟩⟩
  · by_cases e : i < t.toNat
    · rw [decide_eq_true e]; rfl
    · have : i = t.toNat := by omega
      rw [decide_eq_false e, this]; rfl
/-! The law. -/
def rvD (p : Pth) (q : Pth) (i t k : Nat) : Pt := if t < i then gp (qline (pat q t)) k else gp (qline (pat p t)) k
def cut12 (p : Pth) : Pth := ⟨min p.n 12, p.f⟩
def lpObj (p : Pth) (i : Nat) : SO := .deep 0 (p.mv p.n) 2 2 (qm p) (fun t a b => lst (ptL (rvD p (rp p) i t a)) b) (fun t => lst [.any, .bool (qshut (pat p t))]) 36 34 none
def lpInv (p : Pth) : Inv := ⟨Nat, fun i => i ≤ p.mv p.n, fun i => ⟨[(3, .osl 0 0), (7, .sl (p.mv p.n) 2 (fun t => lst (liL (pat (rp p) t)))), (48, .int .i64 (p.mv p.n)), (49, .int .i64 i)], [lpObj p i]⟩, fun i => p.mv p.n - i⟩
def ctI (p : Pth) : Inv := ⟨Unit, fun _ => True, fun _ => ⟨[(0, pthS (cut12 p))], []⟩, fun _ => 0⟩
def spCRev : FSpec := mkSpec 3 (γ := Pth) (fun | [s] => some ⟨slLen s, pfD s⟩ | _ => none) (fun p => [pthS p]) (fun p => p.n ≤ 9223372036854775807) (fun _ => .bool true)
theorem ok_cRev : SpecOK Try.prog spCRev := by
  refine spec_sound (specs := [Cop.spArcs, spFlatD, spRev, spCheckPa, Ptr.spRevP, lend spEqT]) (all_ok (⟨Cop.ok_arcs, ok_flatD, ok_rev, ok_checkPa, Ptr.ok_revP, lend_ok ok_eqT, trivial⟩)) (eqs := []) (fun _ _ h => (List.not_mem_nil h).elim) Aff.mixed Try.func3 rfl (by kernel_rfl) (fun _ _ => by kernel_rfl) (fun g => (⟨[(5, .cut (ctI g)), (13, .inv (lpInv (cut12 g)))], [(8, [.tmp 7]), (15, [.focus 0 9]), (1000016, [.unfocus 0])]⟩ : Ann)) (fun g => Nat.le_of_ble_eq_true (by kernel_rfl)) ?_
  rintro p hn
  refine vc_of (B := let z27 := (True ∧ True ∧ True ∧ Sx.Ask (false = true));let z26 := (0 : Nat);let z25 := (0 : Int);let z22 := (12 : Nat);let z6 := (Min.min p.n z22);let z5 := (cut12 p); let z24 := (↑(z5.mv z6) : Int); let z16 := (Prw.rp z5);let z3 := (IntKind.i64 = IntKind.i64);let z1 := (((Sx.Ask (Min.min p.n z22 = Min.min p.n z22) ∧ ∀ (i : Nat), i < Min.min p.n z22 → (((((True ∧ Sx.Ask z3 ∧ Sx.Ask ((z5.f i).k = (z5.f i).k)) ∧ Sx.Ask z3 ∧ Sx.Ask ((z5.f i).x = (z5.f i).x)) ∧ Sx.Ask z3 ∧ Sx.Ask ((z5.f i).y = (z5.f i).y)) ∧ Sx.Ask z3 ∧ Sx.Ask ((z5.f i).u = (z5.f i).u)) ∧ Sx.Ask z3 ∧ Sx.Ask ((z5.f i).v = (z5.f i).v)) ∧ Sx.Ask z3 ∧ Sx.Ask ((z5.f i).w = (z5.f i).w)) ∧ True) ∧ Sx.Ask (Min.min p.n z22 ≤ (9223372036854775807 : Nat)));let z0 := (Pth.Pth.mk z6 p.f); let z17 := (if z0.chk = z25 then z0.mv z6 else z26); let z4 := (if z0.chk = z25 then Min.min p.n z22 else z26); let z11 := (Pth.Pth.mk z4 (Prv.rv z0)); let z29 := (if z11.chk = z25 then z11.mv z4 else z26);True ∧ (True ∧ Sx.Ask True) ∧ True ∧ (True ∧ True ∧ True ∧ Sx.Br (decide ((12 : Int) < (↑p.n : Int))) (True ∧ Sx.Ask (z25 ≤ Int.ofNat z26 ∧ Int.ofNat z26 ≤ Int.ofNat z22 ∧ Int.ofNat z22 ≤ Int.ofNat p.n ∧ Int.ofNat p.n ≤ (↑p.n : Int)) ∧ True ∧ ∃ (g : Unit), Sx.Ask ((ctI p).pre g) ∧ ((Sx.Ask ((Int.ofNat z22 - Int.ofNat z26).toNat = Min.min p.n z22) ∧ ∀ (i : Nat), let z12 := (p.f ((Int.ofNat z26).toNat + i)); i < Min.min p.n z22 → (((((True ∧ Sx.Ask z3 ∧ Sx.Ask (z12.k = (z5.f i).k)) ∧ Sx.Ask z3 ∧ Sx.Ask (z12.x = (z5.f i).x)) ∧ Sx.Ask z3 ∧ Sx.Ask (z12.y = (z5.f i).y)) ∧ Sx.Ask z3 ∧ Sx.Ask (z12.u = (z5.f i).u)) ∧ Sx.Ask z3 ∧ Sx.Ask (z12.v = (z5.f i).v)) ∧ Sx.Ask z3 ∧ Sx.Ask (z12.w = (z5.f i).w)) ∧ True) ∧ True) (∃ (g : Unit), Sx.Ask ((ctI p).pre g) ∧ ((Sx.Ask (p.n = Min.min p.n z22) ∧ ∀ (i : Nat), i < Min.min p.n z22 → (((((True ∧ Sx.Ask z3 ∧ Sx.Ask ((p.f i).k = (z5.f i).k)) ∧ Sx.Ask z3 ∧ Sx.Ask ((p.f i).x = (z5.f i).x)) ∧ Sx.Ask z3 ∧ Sx.Ask ((p.f i).y = (z5.f i).y)) ∧ Sx.Ask z3 ∧ Sx.Ask ((p.f i).u = (z5.f i).u)) ∧ Sx.Ask z3 ∧ Sx.Ask ((p.f i).v = (z5.f i).v)) ∧ Sx.Ask z3 ∧ Sx.Ask ((p.f i).w = (z5.f i).w)) ∧ True) ∧ True)) ∧ ∀ (g : Unit), (ctI p).pre g → True ∧ z1 ∧ True ∧ True ∧ True ∧ True ∧ True ∧ True ∧ z1 ∧ True ∧ True ∧ True ∧ True ∧ True ∧ True ∧ (((Sx.Ask (z4 = if z0.chk = z25 then Min.min p.n z22 else z26) ∧ ∀ (i : Nat), let z14 := ((Prv.rvO z0).f i); (i < if z0.chk = z25 then Min.min p.n z22 else z26) → (((((True ∧ Sx.Ask z3 ∧ Sx.Ask (z14.k = z14.k)) ∧ Sx.Ask z3 ∧ Sx.Ask (z14.x = z14.x)) ∧ Sx.Ask z3 ∧ Sx.Ask (z14.y = z14.y)) ∧ Sx.Ask z3 ∧ Sx.Ask (z14.u = z14.u)) ∧ Sx.Ask z3 ∧ Sx.Ask (z14.v = z14.v)) ∧ Sx.Ask z3 ∧ Sx.Ask (z14.w = z14.w)) ∧ True) ∧ Sx.Ask (z4 ≤ (9223372036854775807 : Nat))) ∧ True ∧ True ∧ True ∧ True ∧ True ∧ True ∧ True ∧ Sx.Br (decide (z0.chk ≠ z25)) (True ∧ z1 ∧ True ∧ True ∧ True ∧ True ∧ Sx.Ask (decide (z0.chk = z0.chk) = true)) (True ∧ True ∧ True ∧ Sx.Br (decide (z11.chk ≠ z25)) z27 (True ∧ True ∧ True ∧ True ∧ True ∧ True ∧ Sx.Br (decide ((↑z17 : Int) ≠ (↑z29 : Int))) (True ∧ True ∧ Sx.Ask (false = true)) (True ∧ True ∧ True ∧ (∃ (g : Nat), Sx.Ask ((lpInv z5).pre g) ∧ (True ∧ (Sx.Ask (z29 = z5.mv z6) ∧ ∀ (i : Nat), let z23 := (Flt.qline (Flt.pat z16 i)); i < z5.mv z6 → (True ∧ Sx.Ask (qm z11 i = z23.length) ∧ ∀ (i_1 : Nat), let z30 := (Flt.gp (Flt.qline (Flt.pat z11 i)) i_1); i_1 < z23.length → (True ∧ Sx.Ask z3 ∧ Sx.Ask (z30.x = (Flt.gp z23 i_1).x)) ∧ Sx.Ask z3 ∧ Sx.Ask (z30.y = (Flt.gp z23 i_1).y)) ∧ Sx.Ask (Flt.qshut (Flt.pat z11 i) = Flt.qshut (Flt.pat z16 i))) ∧ (Sx.Ask z3 ∧ Sx.Ask ((↑z17 : Int) = z24)) ∧ (Sx.Ask z3 ∧ Sx.Ask (z25 = (↑g : Int))) ∧ True) ∧ (Sx.Ask (z17 = z5.mv z6) ∧ (∀ (i : Nat), i < z5.mv z6 → Sx.Ask (qm z0 i = qm z5 i) ∧ ∀ (i' : Nat), let z32 := (Flt.gp (Flt.qline (Flt.pat z0 i)) i'); let z19 := (if i < g then Flt.gp (Flt.qline (Flt.pat z16 i)) i' else Flt.gp (Flt.qline (Flt.pat z5 i)) i'); i' < qm z5 i → (True ∧ Sx.Ask z3 ∧ Sx.Ask (z32.x = z19.x)) ∧ Sx.Ask z3 ∧ Sx.Ask (z32.y = z19.y)) ∧ ∀ (i : Nat), i < z5.mv z6 → True ∧ Sx.Ask (Flt.qshut (Flt.pat z0 i) = Flt.qshut (Flt.pat z5 i))) ∧ True) ∧ ∀ (g : Nat), let z8 := (↑g : Int); let z28 := (z8.toNat < z5.mv z6 ∧ z8.toNat = z8.toNat); let z21 := (Flt.qline (Flt.pat z5 z8.toNat)); let z13 := (z25 ≤ z8 ∧ z8 < z24); let z2 := (Flt.qline (Flt.pat z16 z8.toNat)); (lpInv z5).pre g → True ∧ Sx.Br (decide (z8 < z24)) (True ∧ True ∧ True ∧ True ∧ Sx.Ask z13 ∧ True ∧ Sx.Ask z28 ∧ ((True ∧ (True ∧ True) ∧ (Sx.Ask (qm z5 z8.toNat = qm z5 z8.toNat) ∧ ∀ (i : Nat), let z9 := (if z8.toNat < g then Flt.gp z2 i else Flt.gp z21 i); i < qm z5 z8.toNat → (True ∧ Sx.Ask z3 ∧ Sx.Ask (z9.x = z9.x)) ∧ Sx.Ask z3 ∧ Sx.Ask (z9.y = z9.y)) ∧ True) ∧ Sx.Ask (qm z5 z8.toNat ≤ (4294967296 : Nat))) ∧ True ∧ True ∧ Sx.Ask z13 ∧ True ∧ Sx.Ask (z8.toNat < z5.mv z6) ∧ True ∧ True ∧ Sx.Ask z13 ∧ True ∧ True ∧ True ∧ True ∧ Sx.Br (!Flt.qshut (Flt.pat z5 z8.toNat) == Flt.qshut (Flt.pat z16 z8.toNat)) z27 (True ∧ True ∧ Sx.Ask z13 ∧ True ∧ Sx.Ask z28 ∧ True ∧ True ∧ Sx.Ask z13 ∧ True ∧ True ∧ (((Sx.Ask (qm z5 z8.toNat = qm z5 z8.toNat) ∧ ∀ (i : Nat), let z7 := (if z8.toNat < g then Flt.gp z2 (qm z5 z8.toNat - (1 : Nat) - i) else Flt.gp z21 (qm z5 z8.toNat - (1 : Nat) - i)); i < qm z5 z8.toNat → (True ∧ Sx.Ask z3 ∧ Sx.Ask (z7.x = z7.x)) ∧ Sx.Ask z3 ∧ Sx.Ask (z7.y = z7.y)) ∧ (Sx.Ask (z2.length = z2.length) ∧ ∀ (i : Nat), i < z2.length → (True ∧ Sx.Ask z3 ∧ Sx.Ask ((Flt.gp z2 i).x = (Flt.gp z2 i).x)) ∧ Sx.Ask z3 ∧ Sx.Ask ((Flt.gp z2 i).y = (Flt.gp z2 i).y)) ∧ True) ∧ Sx.Ask (QqG.mk (Ptr.PtG.mk (qm z5 z8.toNat) fun (i : Nat) => if z8.toNat < g then Flt.gp z2 (qm z5 z8.toNat - (1 : Nat) - i) else Flt.gp z21 (qm z5 z8.toNat - (1 : Nat) - i)) (Ptr.PtG.mk z2.length (Flt.gp z2))).ok) ∧ True ∧ True ∧ Sx.Ask ((-9223372036854775808 : Int) ≤ z8 + (1 : Int) ∧ z8 + (1 : Int) ≤ (9223372036854775807 : Int)) ∧ True ∧ ∃ (g' : Nat), Sx.Ask ((lpInv z5).pre g') ∧ ((True ∧ (Sx.Ask (z5.mv z6 = z5.mv z6) ∧ ∀ (i : Nat), let z10 := (Flt.qline (Flt.pat z16 i)); i < z5.mv z6 → (True ∧ Sx.Ask (z10.length = z10.length) ∧ ∀ (i_1 : Nat), let z31 := (Flt.gp z10 i_1); i_1 < z10.length → (True ∧ Sx.Ask z3 ∧ Sx.Ask (z31.x = z31.x)) ∧ Sx.Ask z3 ∧ Sx.Ask (z31.y = z31.y)) ∧ Sx.Ask (Flt.qshut (Flt.pat z16 i) = Flt.qshut (Flt.pat z16 i))) ∧ (Sx.Ask z3 ∧ Sx.Ask (z24 = z24)) ∧ (Sx.Ask z3 ∧ Sx.Ask (z8 + (1 : Int) = (↑g' : Int))) ∧ True) ∧ (Sx.Ask (z5.mv z6 = z5.mv z6) ∧ (∀ (i : Nat), i < z5.mv z6 → Sx.Ask ((bif decide (i = z8.toNat) then qm z5 z8.toNat else qm z5 i) = qm z5 i) ∧ ∀ (i' : Nat), let z20 := (if i < g then Flt.gp (Flt.qline (Flt.pat z16 i)) i' else Flt.gp (Flt.qline (Flt.pat z5 i)) i'); let z18 := (if i < g' then Flt.gp (Flt.qline (Flt.pat z16 i)) i' else Flt.gp (Flt.qline (Flt.pat z5 i)) i'); let z15 := (if z8.toNat < g then Flt.gp z2 (qm z5 z8.toNat - (1 : Nat) - i') else Flt.gp z21 (qm z5 z8.toNat - (1 : Nat) - i')); i' < qm z5 i → (True ∧ Sx.Ask z3 ∧ Sx.Ask ((bif decide (i = z8.toNat) then z15.x else z20.x) = z18.x)) ∧ Sx.Ask z3 ∧ Sx.Ask ((bif decide (i = z8.toNat) then z15.y else z20.y) = z18.y)) ∧ ∀ (i : Nat), i < z5.mv z6 → True ∧ Sx.Ask (Flt.qshut (Flt.pat z5 i) = Flt.qshut (Flt.pat z5 i))) ∧ True) ∧ Sx.Ask ((lpInv z5).meas g' < (lpInv z5).meas g))) (True ∧ True ∧ Sx.Ask (true = true)))))) (by kernel_rfl) ?_
  simp only [ask_iff, br_iff, eq_self, true_and, and_true, implies_true, forall_const, decide_eq_true_eq, decide_eq_false_iff_not, ne_eq, Nat.mul_one, Nat.add_zero, Nat.zero_add, Int.toNat_natCast, and_self, false_and, and_false]
  simp only [Int.ofNat_eq_natCast]
  refine ⟨⟨fun h12 => ⟨by omega, (), trivial, by omega, fun i _ => ?_⟩, fun h12 => ⟨(), trivial, by omega, fun i _ => seg6 rfl⟩⟩, fun _ _ => ⟨by omega, by omega, by split <;> omega, fun hc => by omega, fun hc => ?_⟩⟩
  · have z : (((0 : Nat) : Int)).toNat + i = i := by simp
    rw [z]
    exact seg6 rfl
  · have h0 : (cut12 p).chk = 0 := Classical.not_not.1 hc
    have e1 : (if (Pth.mk (min p.n 12) p.f).chk = 0 then min p.n 12 else 0) = min p.n 12 := if_pos h0
    rw [e1]
    have hq : (Pth.mk (min p.n 12) (rv (Pth.mk (min p.n 12) p.f))).chk = 0 := q_chk h0
    have hmv : (Pth.mk (min p.n 12) (rv (Pth.mk (min p.n 12) p.f))).mv (min p.n 12) = (cut12 p).mv (min p.n 12) := mv_rev h0
    refine ⟨fun hn => absurd hq hn, fun _ => ?_⟩
    rw [if_pos hq, hmv]
    have e2 : (if (Pth.mk (min p.n 12) p.f).chk = 0 then (Pth.mk (min p.n 12) p.f).mv (min p.n 12) else 0) = (cut12 p).mv (min p.n 12) := if_pos h0
    rw [e2]
    have hN : (cut12 p).mv (min p.n 12) ≤ min p.n 12 := mv_le _
    refine ⟨fun h => absurd rfl h, fun _ => ⟨⟨0, Nat.zero_le _, ⟨⟨rfl, fun i _ => ⟨⟨rfl, fun _ _ => ⟨rfl, rfl⟩⟩, rfl⟩⟩, rfl, rfl⟩, rfl, fun i _ => ⟨rfl, fun k _ => Ptr.pt_same (if_neg (Nat.not_lt_zero _)).symm⟩, fun _ _ => rfl⟩, fun i hi hlt => ?_⟩⟩
    have hi2 : i < (cut12 p).mv (cut12 p).n := by
      show i < (cut12 p).mv (min p.n 12)
      omega
    have lr := line_rev h0 hi2
    have sr := shut_rev h0 hi2
    have hlen : (qline (pat (rp (cut12 p)) i)).length = qm (cut12 p) i := by rw [lr, List.length_reverse]; rfl
    have key : ∀ k, k < qm (cut12 p) i → gp (qline (pat (rp (cut12 p)) i)) k = gp (qline (pat (cut12 p) i)) (qm (cut12 p) i - 1 - k) := fun k hk => by rw [lr]; exact gp_rev _ hk
    have hqm : qm (cut12 p) i ≤ 4294967296 := by
      have h1 := (qpp_len (pat (cut12 p) i) ((pat (cut12 p) i).n - 1)).2
      have h2 := (sub_ok h0 hi2).n2
      show (qpp (pat (cut12 p) i) ((pat (cut12 p) i).n - 1)).length ≤ _
      omega
    refine ⟨by omega, by omega, hqm, by omega, by omega, by omega, fun h => ?_, fun _ => ⟨by omega, by omega, by omega, ⟨⟨hlen.symm, ?_⟩, fun k hk => ?_⟩, by omega, i + 1, (show i + 1 ≤ (cut12 p).mv (min p.n 12) by omega), ⟨rfl, fun t ht => ⟨?_, fun k hk => ?_⟩⟩, ?_⟩⟩
    · rw [sr] at h
      simp at h
    · show qm (cut12 p) i ≤ 9223372036854775806
      omega
    · show (if i < i then _ else gp (qline (pat (cut12 p) i)) (qm (cut12 p) i - 1 - k)) = gp (qline (pat (rp (cut12 p)) i)) k
      rw [if_neg (Nat.lt_irrefl _), key k hk]
    · by_cases e : t = i
      · rw [decide_eq_true e, e]; rfl
      · rw [decide_eq_false e]; rfl
    · by_cases e : t = i
      · subst e
        rw [decide_eq_true rfl, if_neg (Nat.lt_irrefl _), if_pos (Nat.lt_succ_self _), key k hk]
        exact ⟨rfl, rfl⟩
      · rw [decide_eq_false e]
        by_cases e2 : t < i
        · rw [if_pos e2, if_pos (show t < i + 1 by omega)]; exact ⟨rfl, rfl⟩
        · rw [if_neg e2, if_neg (show ¬ t < i + 1 by omega)]; exact ⟨rfl, rfl⟩
    · show (cut12 p).mv (min p.n 12) - (i + 1) < (cut12 p).mv (min p.n 12) - i
      omega
end Go.Proofs.Ytfjbjbmbdadmhaa.Crv
