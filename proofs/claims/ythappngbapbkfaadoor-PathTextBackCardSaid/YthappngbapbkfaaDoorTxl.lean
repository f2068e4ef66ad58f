/- printworkskeep1.PathTextBack: by the evaluation. -/
import Derived.Test.YthappngbapbkfaaDoorTxr
set_option linter.unusedSimpArgs false
set_option linter.unusedVariables false
namespace Go.Proofs.YthappngbapbkfaaDoor.Txl
open Go.RowKit Sx Num Aff Con Cop Coh Pth Pmp Pte Txp Txa Txn Txk Txs Txr
set_option maxRecDepth 100000
/-! The box. -/
def spRectP : FSpec := mkSpec 17 (γ := Unit) (fun | [_, _, _, _] => some () | _ => none) (fun _ => [.int .i64 0, .int .i64 0, .int .i64 4, .int .i64 2]) (fun _ => True) (fun _ => .tup 2 (lst [pthS boxP, .int .i64 0]))
theorem ok_rectP : SpecOK Tryd.prog spRectP := by
  refine spec_sound (specs := [giv spWithinL]) (all_ok (⟨giv_ok ok_withinL, trivial⟩)) (eqs := []) (fun _ _ h => (List.not_mem_nil h).elim) Aff.mixed Tryd.func17 rfl (by kernel_rfl) (fun _ _ => by kernel_rfl) (fun g => A0) (fun g => Nat.le_of_ble_eq_true (by kernel_rfl)) ?_
  rintro g hg
  refine vc_of (B := let z4 := (4 : Nat);let z2 := (0 : Int);let z1 := (IntKind.i64 = IntKind.i64);True ∧ True ∧ True ∧ True ∧ True ∧ True ∧ True ∧ (((Sx.Ask (z4 = z4) ∧ ∀ (i : Nat), i < z4 → True ∧ Sx.Ask z1 ∧ Sx.Ask ((bif decide (i = (3 : Nat)) then (2 : Int) else bif decide (i = (2 : Nat)) then (4 : Int) else bif decide (i = (1 : Nat)) then z2 else z2) = bif decide (i = (3 : Nat)) then (2 : Int) else bif decide (i = (2 : Nat)) then (4 : Int) else bif decide (i = (1 : Nat)) then z2 else z2)) ∧ True) ∧ Sx.Ask (z4 ≤ (4294967296 : Nat))) ∧ True ∧ True ∧ True ∧ True ∧ True ∧ True ∧ True ∧ True ∧ True ∧ True ∧ True ∧ True ∧ True ∧ True ∧ True ∧ True ∧ True ∧ True ∧ True ∧ True ∧ True ∧ True ∧ True ∧ True ∧ True ∧ True ∧ (True ∧ Sx.Ask ((5 : Nat) = (5 : Nat)) ∧ ∀ (i : Nat), let z7 := (i = (1 : Nat)); let z6 := (i = (2 : Nat)); let z5 := (i = (3 : Nat)); let z3 := (Pte.boxP.f i); let z0 := (bif decide (i = z4) then z2 else bif decide z5 then z2 else bif decide z6 then z2 else bif decide z7 then z2 else z2); i < (5 : Nat) → (((((True ∧ Sx.Ask z1 ∧ Sx.Ask ((bif decide (i = z4) then (4 : Int) else bif decide z5 then (2 : Int) else bif decide z6 then (2 : Int) else bif decide z7 then (2 : Int) else (1 : Int)) = z3.k)) ∧ Sx.Ask z1 ∧ Sx.Ask ((bif decide (i = z4) then z2 else bif decide z5 then z2 else bif decide z6 then (4 : Int) else bif decide z7 then (4 : Int) else z2) = z3.x)) ∧ Sx.Ask z1 ∧ Sx.Ask ((bif decide (i = z4) then z2 else bif decide z5 then (2 : Int) else bif decide z6 then (2 : Int) else bif decide z7 then z2 else z2) = z3.y)) ∧ Sx.Ask z1 ∧ Sx.Ask (z0 = z3.u)) ∧ Sx.Ask z1 ∧ Sx.Ask (z0 = z3.v)) ∧ Sx.Ask z1 ∧ Sx.Ask (z0 = z3.w)) ∧ Sx.Ask z1 ∧ Sx.Ask (z2 = z2)) (by kernel_rfl) ?_
  simp only [ask_iff, br_iff, eq_self, true_and, and_true, implies_true, forall_const, decide_eq_true_eq, decide_eq_false_iff_not, ne_eq, Nat.mul_one, Nat.add_zero, Nat.zero_add]
  refine ⟨by decide, fun i hi => ?_⟩
  match i, hi with
  | 0, _ => exact ⟨⟨⟨⟨⟨rfl, rfl⟩, rfl⟩, rfl⟩, rfl⟩, rfl⟩
  | 1, _ => exact ⟨⟨⟨⟨⟨rfl, rfl⟩, rfl⟩, rfl⟩, rfl⟩, rfl⟩
  | 2, _ => exact ⟨⟨⟨⟨⟨rfl, rfl⟩, rfl⟩, rfl⟩, rfl⟩, rfl⟩
  | 3, _ => exact ⟨⟨⟨⟨⟨rfl, rfl⟩, rfl⟩, rfl⟩, rfl⟩, rfl⟩
  | 4, _ => exact ⟨⟨⟨⟨⟨rfl, rfl⟩, rfl⟩, rfl⟩, rfl⟩, rfl⟩
def spBox : FSpec := mkSpec 9 (γ := Unit) (fun | [] => some () | _ => none) (fun _ => []) (fun _ => True) (fun _ => pthS boxP)
theorem ok_box : SpecOK Tryd.prog spBox := by
  refine spec_sound (specs := [spRectP]) (all_ok (⟨ok_rectP, trivial⟩)) (eqs := []) (fun _ _ h => (List.not_mem_nil h).elim) Aff.mixed Tryd.func9 rfl (by kernel_rfl) (fun _ _ => by kernel_rfl) (fun g => A0) (fun g => Nat.le_of_ble_eq_true (by kernel_rfl)) ?_
  rintro g hg
  refine vc_of (B := let z0 := (IntKind.i64 = IntKind.i64); let z2 := (Sx.Ask z0 ∧ Sx.Ask ((0 : Int) = (0 : Int)));True ∧ ((z2 ∧ z2 ∧ (Sx.Ask z0 ∧ Sx.Ask ((4 : Int) = (4 : Int))) ∧ (Sx.Ask z0 ∧ Sx.Ask ((2 : Int) = (2 : Int))) ∧ True) ∧ Sx.Ask True) ∧ True ∧ True ∧ True ∧ True ∧ True ∧ True ∧ True ∧ True ∧ Sx.Ask ((5 : Nat) = (5 : Nat)) ∧ ∀ (i : Nat), let z1 := (Pte.boxP.f i); i < (5 : Nat) → (((((True ∧ Sx.Ask z0 ∧ Sx.Ask (z1.k = z1.k)) ∧ Sx.Ask z0 ∧ Sx.Ask (z1.x = z1.x)) ∧ Sx.Ask z0 ∧ Sx.Ask (z1.y = z1.y)) ∧ Sx.Ask z0 ∧ Sx.Ask (z1.u = z1.u)) ∧ Sx.Ask z0 ∧ Sx.Ask (z1.v = z1.v)) ∧ Sx.Ask z0 ∧ Sx.Ask (z1.w = z1.w)) (by kernel_rfl) ?_
  simp only [ask_iff, br_iff, eq_self, true_and, and_true, implies_true, forall_const, decide_eq_true_eq, decide_eq_false_iff_not, ne_eq, Nat.mul_one, Nat.add_zero, Nat.zero_add]
theorem itb_small (u : Nat) (h : u < 10) : itb u = ⟨#[UInt8.ofNat (48 + u)]⟩ := by
  unfold itb Lib.itoa
  rw [if_neg (by omega), Int.toNat_natCast, Lib.decDigits, dif_pos h]
theorem txt_box : txt boxP = lit := by
  have e0 : itb 0 = ⟨#[48]⟩ := itb_small 0 (by decide)
  have e2 : itb 2 = ⟨#[50]⟩ := itb_small 2 (by decide)
  have e4 : itb 4 = ⟨#[52]⟩ := itb_small 4 (by decide)
  have e : wl boxP boxP.n = wL := by
    show ((((([] ++ segW ⟨1, 0, 0, 0, 0, 0⟩) ++ segW ⟨2, 4, 0, 0, 0, 0⟩) ++ segW ⟨2, 4, 2, 0, 0, 0⟩) ++ segW ⟨2, 0, 2, 0, 0, 0⟩) ++ segW ⟨4, 0, 0, 0, 0, 0⟩) = _
    have s1 : segW ⟨1, 0, 0, 0, 0, 0⟩ = [⟨#[109]⟩, itb 0, itb 0] := rfl
    have s2 : segW ⟨2, 4, 0, 0, 0, 0⟩ = [⟨#[108]⟩, itb 4, itb 0] := rfl
    have s3 : segW ⟨2, 4, 2, 0, 0, 0⟩ = [⟨#[108]⟩, itb 4, itb 2] := rfl
    have s4 : segW ⟨2, 0, 2, 0, 0, 0⟩ = [⟨#[108]⟩, itb 0, itb 2] := rfl
    have s5 : segW ⟨4, 0, 0, 0, 0, 0⟩ = [⟨#[104]⟩] := rfl
    rw [s1, s2, s3, s4, s5, e0, e2, e4]
    rfl
  unfold txt
  rw [e]
  rfl
def spPathsG : FSpec := mkSpec 4 (γ := Unit) (fun | [] => some () | _ => none) (fun _ => []) (fun _ => True) (fun _ => .lit true)
theorem ok_pathsG : SpecG Gw Tryd.prog spPathsG := by
  refine spec_soundG (sure_ok Kw) (specs := [spBox, spTextA]) (all_g (⟨ok_box.g, ok_textA, trivial⟩)) (eqs := []) (fun _ _ h => (List.not_mem_nil h).elim) Aff.mixed Tryd.func4 rfl (by kernel_rfl) (.inr (by kernel_rfl)) (fun _ _ => by kernel_rfl) (fun g => A0) (fun g => Nat.le_of_ble_eq_true (by kernel_rfl)) ?_
  rintro g hg
  refine vc_of (B := let z2 := (32 : UInt8);let z0 := (IntKind.i64 = IntKind.i64);True ∧ (True ∧ Sx.Ask True) ∧ (((Sx.Ask ((5 : Nat) = (5 : Nat)) ∧ ∀ (i : Nat), let z1 := (Pte.boxP.f i); i < (5 : Nat) → (((((True ∧ Sx.Ask z0 ∧ Sx.Ask (z1.k = z1.k)) ∧ Sx.Ask z0 ∧ Sx.Ask (z1.x = z1.x)) ∧ Sx.Ask z0 ∧ Sx.Ask (z1.y = z1.y)) ∧ Sx.Ask z0 ∧ Sx.Ask (z1.u = z1.u)) ∧ Sx.Ask z0 ∧ Sx.Ask (z1.v = z1.v)) ∧ Sx.Ask z0 ∧ Sx.Ask (z1.w = z1.w)) ∧ True) ∧ Sx.Ask ((5 : Nat) ≤ (9223372036854775807 : Nat))) ∧ True ∧ True ∧ True ∧ True ∧ True ∧ True ∧ True ∧ True ∧ True ∧ True ∧ True ∧ True ∧ True ∧ Sx.Ask (((Txp.txt (Pth.Pth.mk (5 : Nat) Pte.boxF)).toList == (ByteArray.mk #[(109 : UInt8), z2, (48 : UInt8), z2, (48 : UInt8), z2, (108 : UInt8), z2, (52 : UInt8), z2, (48 : UInt8), z2, (108 : UInt8), z2, (52 : UInt8), z2, (50 : UInt8), z2, (108 : UInt8), z2, (48 : UInt8), z2, (50 : UInt8), z2, (104 : UInt8)]).toList) = true)) (by kernel_rfl) ?_
  simp only [ask_iff, br_iff, eq_self, true_and, and_true, implies_true, forall_const, decide_eq_true_eq, decide_eq_false_iff_not, ne_eq, Nat.mul_one, Nat.add_zero, Nat.zero_add]
  refine ⟨by decide, ?_⟩
  have e : (txt ⟨5, boxF⟩ : ByteArray) = lit := txt_box
  rw [e]
  exact beq_self_eq_true lit.toList
/-! slices.Equal of alike paths. -/
structure PqG where
  a : Pth
  b : Pth
def PqG.ok (g : PqG) : Prop := (g.a.n = g.b.n ∧ g.a.n ≤ 9223372036854775806) ∧ ∀ i, i < g.a.n → g.a.f i = g.b.f i
def pqInv (g : PqG) : Inv := ⟨Nat, fun i => i ≤ g.a.n, fun i => ⟨[(0, pthS g.a), (1, pthS g.b), (12, .int .i64 g.a.n), (13, .int .i64 i)], []⟩, fun i => g.a.n - i⟩
def spEqP : FSpec := mkSpec 8 (γ := PqG) (fun | [s, t] => some ⟨⟨slLen s, pfD s⟩, ⟨slLen t, pfD t⟩⟩ | _ => none) (fun g => [pthS g.a, pthS g.b]) PqG.ok (fun _ => .lit true)
theorem ok_eqP : SpecOK Tryd.prog spEqP := by
  refine spec_sound (specs := []) (all_ok trivial) (eqs := eqS) (all_eq eqS_ok) Aff.mixed Tryd.func8 rfl (by kernel_rfl) (fun _ _ => by kernel_rfl) (fun g => (⟨[(4, .inv (pqInv g))], []⟩ : Ann)) (fun g => Nat.le_of_ble_eq_true (by kernel_rfl)) ?_
  rintro g hg
  refine vc_of (B := let z9 := (True ∧ True ∧ Sx.Ask (false = true));let z4 := (↑g.a.n : Int);let z0 := (IntKind.i64 = IntKind.i64); let z2 := (Sx.Ask (g.b.n = g.b.n) ∧ ∀ (i : Nat), let z7 := (g.b.f i); i < g.b.n → (((((True ∧ Sx.Ask z0 ∧ Sx.Ask (z7.k = z7.k)) ∧ Sx.Ask z0 ∧ Sx.Ask (z7.x = z7.x)) ∧ Sx.Ask z0 ∧ Sx.Ask (z7.y = z7.y)) ∧ Sx.Ask z0 ∧ Sx.Ask (z7.u = z7.u)) ∧ Sx.Ask z0 ∧ Sx.Ask (z7.v = z7.v)) ∧ Sx.Ask z0 ∧ Sx.Ask (z7.w = z7.w)); let z1 := (Sx.Ask (g.a.n = g.a.n) ∧ ∀ (i : Nat), let z8 := (g.a.f i); i < g.a.n → (((((True ∧ Sx.Ask z0 ∧ Sx.Ask (z8.k = z8.k)) ∧ Sx.Ask z0 ∧ Sx.Ask (z8.x = z8.x)) ∧ Sx.Ask z0 ∧ Sx.Ask (z8.y = z8.y)) ∧ Sx.Ask z0 ∧ Sx.Ask (z8.u = z8.u)) ∧ Sx.Ask z0 ∧ Sx.Ask (z8.v = z8.v)) ∧ Sx.Ask z0 ∧ Sx.Ask (z8.w = z8.w));True ∧ True ∧ True ∧ True ∧ True ∧ True ∧ Sx.Br (decide (z4 ≠ (↑g.b.n : Int))) z9 (True ∧ True ∧ True ∧ (∃ (g_1 : Nat), Sx.Ask ((pqInv g).pre g_1) ∧ (z1 ∧ z2 ∧ (Sx.Ask z0 ∧ Sx.Ask (z4 = z4)) ∧ (Sx.Ask z0 ∧ Sx.Ask ((0 : Int) = (↑g_1 : Int))) ∧ True) ∧ True) ∧ ∀ (g_1 : Nat), let z3 := (↑g_1 : Int); let z6 := (g.b.f z3.toNat); let z5 := (g.a.f z3.toNat); (pqInv g).pre g_1 → True ∧ Sx.Br (decide (z3 < z4)) (True ∧ True ∧ True ∧ True ∧ Sx.Ask ((0 : Int) ≤ z3 ∧ z3 < z4) ∧ True ∧ True ∧ True ∧ Sx.Ask ((0 : Int) ≤ z3 ∧ z3 < (↑g.b.n : Int)) ∧ True ∧ True ∧ Sx.Br (!(decide (z5.k = z6.k) && (decide (z5.x = z6.x) && (decide (z5.y = z6.y) && (decide (z5.u = z6.u) && (decide (z5.v = z6.v) && (decide (z5.w = z6.w) && true))))))) z9 (Sx.Ask ((-9223372036854775808 : Int) ≤ z3 + (1 : Int) ∧ z3 + (1 : Int) ≤ (9223372036854775807 : Int)) ∧ True ∧ ∃ (g' : Nat), Sx.Ask ((pqInv g).pre g') ∧ ((z1 ∧ z2 ∧ (Sx.Ask z0 ∧ Sx.Ask (z4 = z4)) ∧ (Sx.Ask z0 ∧ Sx.Ask (z3 + (1 : Int) = (↑g' : Int))) ∧ True) ∧ True) ∧ Sx.Ask ((pqInv g).meas g' < (pqInv g).meas g_1))) (True ∧ True ∧ Sx.Ask (true = true)))) (by kernel_rfl) ?_
  simp only [ask_iff, br_iff, eq_self, true_and, and_true, implies_true, forall_const, decide_eq_true_eq, decide_eq_false_iff_not, ne_eq, Nat.mul_one, Nat.add_zero, Nat.zero_add]
  obtain ⟨⟨hn, hb⟩, hf⟩ := hg
  refine ⟨fun h => absurd (congrArg Int.ofNat hn) h, fun _ => ⟨⟨0, Nat.zero_le _, rfl⟩, fun i hi hlt => ?_⟩⟩
  have hi : i ≤ g.a.n := hi
  have z : ((i : Int)).toNat = i := rfl
  rw [z, hf i (by omega), decide_eq_true rfl, decide_eq_true rfl, decide_eq_true rfl, decide_eq_true rfl, decide_eq_true rfl, decide_eq_true rfl]
  refine ⟨by omega, by omega, fun h => absurd h (by decide), fun _ => ⟨by omega, i + 1, (by omega : i + 1 ≤ g.a.n), rfl, ?_⟩⟩
  show g.a.n - (i + 1) < g.a.n - i
  omega
/-! The law. -/
def spLawT (p : Pth) : FSpec := mkSpec 3 (γ := Unit) (fun | [_] => some () | _ => none) (fun _ => [pthS p]) (fun _ => p.n ≤ 9223372036854775807) (fun _ => .bool true)
theorem ok_lawT (p : Pth) : SpecG Gw Tryd.prog (spLawT p) := by
  refine spec_soundG (sure_ok Kw) (specs := [spPathsG, spTextA, spCheckPa, spParse p, spEqP]) (all_g (⟨ok_pathsG, ok_textA, ok_checkPa.g, ok_parse p, ok_eqP.g, trivial⟩)) (eqs := []) (fun _ _ h => (List.not_mem_nil h).elim) Aff.mixed Tryd.func3 rfl (by kernel_rfl) (.inr (by kernel_rfl)) (fun _ _ => by kernel_rfl) (fun g => A0) (fun g => Nat.le_of_ble_eq_true (by kernel_rfl)) ?_
  rintro _ hp
  refine vc_of (B := let z2 := (bif decide (p.chk = (0 : Int)) then Txp.txt p else ByteArray.mk #[]);let z1 := (IntKind.i64 = IntKind.i64);let z0 := (Sx.Ask (p.n = p.n) ∧ ∀ (i : Nat), i < p.n → (((((True ∧ Sx.Ask z1 ∧ Sx.Ask ((p.f i).k = (p.f i).k)) ∧ Sx.Ask z1 ∧ Sx.Ask ((p.f i).x = (p.f i).x)) ∧ Sx.Ask z1 ∧ Sx.Ask ((p.f i).y = (p.f i).y)) ∧ Sx.Ask z1 ∧ Sx.Ask ((p.f i).u = (p.f i).u)) ∧ Sx.Ask z1 ∧ Sx.Ask ((p.f i).v = (p.f i).v)) ∧ Sx.Ask z1 ∧ Sx.Ask ((p.f i).w = (p.f i).w)); let z3 := ((z0 ∧ True) ∧ Sx.Ask (p.n ≤ (9223372036854775807 : Nat)));True ∧ (True ∧ Sx.Ask True) ∧ True ∧ True ∧ z3 ∧ True ∧ True ∧ True ∧ True ∧ True ∧ True ∧ True ∧ Sx.Br (decide (p.chk ≠ (0 : Int))) (True ∧ z3 ∧ True ∧ True ∧ True ∧ True ∧ Sx.Ask (decide (p.chk = p.chk) = true)) (True ∧ ((Sx.Ask (z2 = Txp.txt p) ∧ True) ∧ Sx.Ask (p.chk = (0 : Int))) ∧ True ∧ True ∧ True ∧ True ∧ True ∧ True ∧ True ∧ True ∧ True ∧ True ∧ ((z0 ∧ z0 ∧ True) ∧ Sx.Ask (PqG.mk p p).ok) ∧ True ∧ True ∧ True ∧ True ∧ True ∧ True ∧ True ∧ True ∧ Sx.Ask (decide ((↑z2.size : Int) ≤ (34980 : Int)) = true))) (by kernel_rfl) ?_
  simp only [ask_iff, br_iff, eq_self, true_and, and_true, implies_true, forall_const, decide_eq_true_eq, decide_eq_false_iff_not, ne_eq, Nat.mul_one, Nat.add_zero, Nat.zero_add]
  refine ⟨hp, fun _ => hp, fun h => ?_⟩
  have h : p.chk = 0 := Classical.not_not.1 h
  have hn := (chk_0.1 h).1
  rw [decide_eq_true h]
  have hl := txt_len h
  have hsz : (txt p).size = (Lib.join ((wl p p.n).map (·.data.toList)) [32]).length := by
    show (Lib.join ((wl p p.n).map (·.data.toList)) [32]).toArray.size = _
    simp
  refine ⟨⟨rfl, h⟩, ⟨⟨rfl, by show p.n ≤ 9223372036854775806; omega⟩, fun _ _ => rfl⟩, ?_⟩
  show ((txt p).size : Int) ≤ 34980
  omega
end Go.Proofs.YthappngbapbkfaaDoor.Txl
