/- Package stroke: orient, check, outline, by the evaluation. -/
import Derived.Test.YtfjbjbmbdadmhaaStc
import Derived.Test.YtfjbjbmbdadmhaaPtr
set_option linter.unusedSimpArgs false
set_option linter.unusedVariables false
namespace Go.Proofs.Ytfjbjbmbdadmhaa.Sto
open Go.RowKit Sx Num Aff Con Fla Flg Sta Stb Stc
set_option maxRecDepth 100000
/-! orient. -/
def _root_.Go.Proofs.Ytfjbjbmbdadmhaa.Stb.Olr.li (o : Olr) (t : Nat) : Li := ⟨o.m t, o.p t, true⟩
def _root_.Go.Proofs.Ytfjbjbmbdadmhaa.Stb.Olr.lns (o : Olr) : Lns := ⟨o.n, o.li⟩
def one (l : Li) : Lns := ⟨1, fun _ => l⟩
def neg (o : Olr) (t : Nat) : Prop := liAr (o.li t) (o.m t) < 0
instance (o t) : Decidable (neg o t) := by unfold neg; infer_instance
def _root_.Go.Proofs.Ytfjbjbmbdadmhaa.Stb.Olr.flip (o : Olr) (i : Nat) : Olr := ⟨o.w, o.cap, o.join, o.limit, o.n, o.m, fun t j => ⟨bif decide (t < i ∧ neg o t) then (o.p t (o.m t - 1 - j)).x else (o.p t j).x, bif decide (t < i ∧ neg o t) then (o.p t (o.m t - 1 - j)).y else (o.p t j).y⟩, o.k, o.d⟩
theorem flip_li (o : Olr) {g t : Nat} (h : g ≤ t) : (o.flip g).li t = o.li t := by
  unfold Olr.li
  have e : (o.flip g).p t = o.p t := funext fun j => by
    show (⟨bif decide (t < g ∧ neg o t) then (o.p t (o.m t - 1 - j)).x else (o.p t j).x, bif decide (t < g ∧ neg o t) then (o.p t (o.m t - 1 - j)).y else (o.p t j).y⟩ : Pt) = o.p t j
    rw [decide_eq_false (show ¬ (t < g ∧ neg o t) from fun hh => by omega)]
    rfl
  rw [e]
  rfl
theorem win_eq (o : Olr) (g : Nat) : (⟨(Int.ofNat (g + 1) - Int.ofNat g).toNat, fun i => (o.flip g).li ((Int.ofNat g).toNat + i)⟩ : Lns) = ⟨1, fun i => o.li (g + i)⟩ := by
  have e : (Int.ofNat (g + 1) - Int.ofNat g).toNat = 1 := by simp only [Int.ofNat_eq_natCast]; omega
  rw [e]
  exact congrArg (Lns.mk 1) (funext fun i => flip_li o (Nat.le_add_right _ _))
theorem win_neg (o : Olr) (g : Nat) : (lnAr (⟨(Int.ofNat (g + 1) - Int.ofNat g).toNat, fun i => (o.flip g).li ((Int.ofNat g).toNat + i)⟩ : Lns) (Int.ofNat (g + 1) - Int.ofNat g).toNat < 0) = neg o g := by
  rw [win_eq]
  have e : (Int.ofNat (g + 1) - Int.ofNat g).toNat = 1 := by simp only [Int.ofNat_eq_natCast]; omega
  rw [e]
  show (0 + liAr (o.li (g + 0)) (o.li (g + 0)).n < 0) = (liAr (o.li g) (o.m g) < 0)
  rw [Int.zero_add]
  rfl
def oriI (o : Olr) : Inv := ⟨Nat, fun i => i ≤ o.n, fun i => ⟨[(0, .own 0 0), (16, .int .i64 o.n), (17, .int .i64 i)], oO 0 (o.flip i)⟩, fun i => o.n - i⟩
def oriD : List SV → List SO → Option Olr
  | [_], [.cells _ g _, .deep _ n _ _ m p _ _ _ _, .row _ k _ d _] => some (olD g n m p k d)
  | _, _ => none
def spOri : FSpec := mkSpecM 76 [.arg 0, .cell 0 4, .cell 0 5] (γ := Olr) oriD (fun _ => [.own 0 0]) (fun o => oO 0 o) (fun o => o.lns.fin) (fun _ => .int .i64 0) (fun o => oO 0 (o.flip o.n))
theorem ok_ori : SpecOK Try.prog spOri := by
  refine spec_soundM (specs := [lend spChkFi, lend Flg.spArea2, Ptr.spRevP]) (all_ok (⟨lend_ok ok_chkFi, lend_ok Flg.ok_area2, Ptr.ok_revP, trivial⟩)) (eqs := []) (fun _ _ h => (List.not_mem_nil h).elim) Aff.mixed Try.func76 rfl (by kernel_rfl) (fun _ _ => by kernel_rfl) (fun g => (⟨[(4, .inv (oriI g))], [(8, [.focus 1 3]), (1000008, [.unfocus 1])]⟩ : Ann)) true (fun g => Nat.le_of_ble_eq_true (by kernel_rfl)) ?_
  rintro o hg
  refine vc_of (B := let z24 := (↑o.n : Int);let z20 := ((0 : Nat) = (0 : Nat));let z19 := (true = true);let z5 := (1 : Nat);let z0 := (IntKind.i64 = IntKind.i64); let z13 := (Sx.Ask z0 ∧ Sx.Ask (z24 = z24)); let z2 := ((((((True ∧ Sx.Ask z0 ∧ Sx.Ask (o.w = o.w)) ∧ Sx.Ask z0 ∧ Sx.Ask (o.cap = o.cap)) ∧ Sx.Ask z0 ∧ Sx.Ask (o.join = o.join)) ∧ Sx.Ask z0 ∧ Sx.Ask (o.limit = o.limit)) ∧ True) ∧ True);True ∧ True ∧ True ∧ True ∧ True ∧ (((Sx.Ask (o.n = o.n) ∧ ∀ (i : Nat), i < o.n → (True ∧ Sx.Ask (o.m i = o.m i) ∧ ∀ (i_1 : Nat), i_1 < o.m i → (True ∧ Sx.Ask z0 ∧ Sx.Ask ((o.p i i_1).x = (o.p i i_1).x)) ∧ Sx.Ask z0 ∧ Sx.Ask ((o.p i i_1).y = (o.p i i_1).y)) ∧ Sx.Ask z19) ∧ True) ∧ Sx.Ask (Fla.Lns.mk o.n fun (i : Nat) => Fla.Li.mk (o.m i) (o.p i) true).fin) ∧ True ∧ True ∧ True ∧ True ∧ True ∧ True ∧ True ∧ (∃ (g : Nat), Sx.Ask ((oriI o).pre g) ∧ True ∧ (Sx.Ask z20 ∧ z13 ∧ (Sx.Ask z0 ∧ Sx.Ask ((0 : Int) = (↑g : Int))) ∧ True) ∧ z2 ∧ (Sx.Ask (o.n = o.n) ∧ (∀ (i : Nat), i < o.n → Sx.Ask (o.m i = (o.flip g).m i) ∧ ∀ (i' : Nat), i' < (o.flip g).m i → (True ∧ Sx.Ask z0 ∧ Sx.Ask ((o.p i i').x = bif decide (i < g ∧ neg o i) then (o.p i (o.m i - z5 - i')).x else (o.p i i').x)) ∧ Sx.Ask z0 ∧ Sx.Ask ((o.p i i').y = bif decide (i < g ∧ neg o i) then (o.p i (o.m i - z5 - i')).y else (o.p i i').y)) ∧ ∀ (i : Nat), i < o.n → True ∧ Sx.Ask z19) ∧ (Sx.Ask (o.k = o.k) ∧ ∀ (i : Nat), i < o.k → (True ∧ Sx.Ask z0 ∧ Sx.Ask ((o.d i).x = ((o.flip g).d i).x)) ∧ Sx.Ask z0 ∧ Sx.Ask ((o.d i).y = ((o.flip g).d i).y)) ∧ True) ∧ ∀ (g : Nat), let z21 := (Int.ofNat g); let z10 := (o.flip g); let z9 := (Int.ofNat (g + z5) - Int.ofNat g); let z4 := (↑g : Int); let z8 := (z4.toNat < g ∧ neg o z4.toNat); let z6 := ((-9223372036854775808 : Int) ≤ z4 + (1 : Int) ∧ z4 + (1 : Int) ≤ (9223372036854775807 : Int)); let z1 := (Fla.Lns.mk z9.toNat fun (i : Nat) => let z7 := (z21.toNat + i); Fla.Li.mk (z10.m z7) (fun (i_1 : Nat) => Con.Pt.mk (bif decide (z21.toNat + i < g ∧ neg o z7) then (o.p z7 (o.m z7 - z5 - i_1)).x else (o.p z7 i_1).x) (bif decide (z21.toNat + i < g ∧ neg o z7) then (o.p z7 (o.m z7 - z5 - i_1)).y else (o.p z7 i_1).y)) true); (oriI o).pre g → True ∧ Sx.Br (decide (z4 < z24)) (True ∧ True ∧ True ∧ True ∧ True ∧ True ∧ True ∧ True ∧ Sx.Ask z6 ∧ Sx.Ask ((0 : Int) ≤ Int.ofNat g ∧ Int.ofNat g ≤ Int.ofNat (g + z5) ∧ Int.ofNat (g + z5) ≤ Int.ofNat o.n ∧ Int.ofNat o.n ≤ z24) ∧ (((Sx.Ask (z9.toNat = z9.toNat) ∧ ∀ (i : Nat), let z3 := (z21.toNat + i); let z11 := (z21.toNat + i < g ∧ neg o z3); i < z9.toNat → (True ∧ Sx.Ask (z10.m z3 = z10.m z3) ∧ ∀ (i_1 : Nat), let z14 := (o.p z3 (o.m z3 - z5 - i_1)); i_1 < z10.m z3 → (True ∧ Sx.Ask z0 ∧ Sx.Ask ((bif decide z11 then z14.x else (o.p z3 i_1).x) = bif decide z11 then z14.x else (o.p z3 i_1).x)) ∧ Sx.Ask z0 ∧ Sx.Ask ((bif decide z11 then z14.y else (o.p z3 i_1).y) = bif decide z11 then z14.y else (o.p z3 i_1).y)) ∧ Sx.Ask z19) ∧ True) ∧ Sx.Ask z1.fin) ∧ True ∧ True ∧ True ∧ True ∧ True ∧ True ∧ True ∧ Sx.Br (decide (Flg.lnAr z1 z9.toNat < (0 : Int))) (True ∧ True ∧ True ∧ True ∧ True ∧ Sx.Ask ((0 : Int) ≤ z4 ∧ z4 < z24) ∧ True ∧ Sx.Ask (z4.toNat < o.n ∧ z4.toNat = z4.toNat) ∧ ((True ∧ (True ∧ True) ∧ (Sx.Ask (z10.m z4.toNat = z10.m z4.toNat) ∧ ∀ (i : Nat), let z22 := (o.p z4.toNat i); let z12 := (o.p z4.toNat (o.m z4.toNat - z5 - i)); i < z10.m z4.toNat → (True ∧ Sx.Ask z0 ∧ Sx.Ask ((bif decide z8 then z12.x else z22.x) = bif decide z8 then z12.x else z22.x)) ∧ Sx.Ask z0 ∧ Sx.Ask ((bif decide z8 then z12.y else z22.y) = bif decide z8 then z12.y else z22.y)) ∧ True) ∧ Sx.Ask (z10.m z4.toNat ≤ (4294967296 : Nat))) ∧ Sx.Ask z6 ∧ True ∧ ∃ (g' : Nat), Sx.Ask ((oriI o).pre g') ∧ True ∧ ((Sx.Ask z20 ∧ z13 ∧ (Sx.Ask z0 ∧ Sx.Ask (z4 + (1 : Int) = (↑g' : Int))) ∧ True) ∧ z2 ∧ (Sx.Ask (o.n = o.n) ∧ (∀ (i : Nat), i < o.n → Sx.Ask ((bif decide (i = z4.toNat) then z10.m z4.toNat else o.m i) = (o.flip g').m i) ∧ ∀ (i' : Nat), let z16 := (o.p i (o.m i - z5 - i')); let z15 := (z10.m z4.toNat - z5 - i'); let z23 := (o.p z4.toNat (o.m z4.toNat - z5 - z15)); i' < (o.flip g').m i → (True ∧ Sx.Ask z0 ∧ Sx.Ask ((bif decide (i = z4.toNat) then bif decide z8 then z23.x else (o.p z4.toNat z15).x else bif decide (i < g ∧ neg o i) then z16.x else (o.p i i').x) = bif decide (i < g' ∧ neg o i) then z16.x else (o.p i i').x)) ∧ Sx.Ask z0 ∧ Sx.Ask ((bif decide (i = z4.toNat) then bif decide z8 then z23.y else (o.p z4.toNat z15).y else bif decide (i < g ∧ neg o i) then z16.y else (o.p i i').y) = bif decide (i < g' ∧ neg o i) then z16.y else (o.p i i').y)) ∧ ∀ (i : Nat), i < o.n → True ∧ Sx.Ask z19) ∧ (Sx.Ask (o.k = o.k) ∧ ∀ (i : Nat), i < o.k → (True ∧ Sx.Ask z0 ∧ Sx.Ask ((z10.d i).x = ((o.flip g').d i).x)) ∧ Sx.Ask z0 ∧ Sx.Ask ((z10.d i).y = ((o.flip g').d i).y)) ∧ True) ∧ Sx.Ask ((oriI o).meas g' < (oriI o).meas g)) (Sx.Ask z6 ∧ True ∧ ∃ (g' : Nat), Sx.Ask ((oriI o).pre g') ∧ True ∧ ((Sx.Ask z20 ∧ z13 ∧ (Sx.Ask z0 ∧ Sx.Ask (z4 + (1 : Int) = (↑g' : Int))) ∧ True) ∧ z2 ∧ (Sx.Ask (o.n = o.n) ∧ (∀ (i : Nat), i < o.n → Sx.Ask (z10.m i = (o.flip g').m i) ∧ ∀ (i' : Nat), let z17 := (o.p i (o.m i - z5 - i')); i' < (o.flip g').m i → (True ∧ Sx.Ask z0 ∧ Sx.Ask ((bif decide (i < g ∧ neg o i) then z17.x else (o.p i i').x) = bif decide (i < g' ∧ neg o i) then z17.x else (o.p i i').x)) ∧ Sx.Ask z0 ∧ Sx.Ask ((bif decide (i < g ∧ neg o i) then z17.y else (o.p i i').y) = bif decide (i < g' ∧ neg o i) then z17.y else (o.p i i').y)) ∧ ∀ (i : Nat), i < o.n → True ∧ Sx.Ask z19) ∧ (Sx.Ask (o.k = o.k) ∧ ∀ (i : Nat), i < o.k → (True ∧ Sx.Ask z0 ∧ Sx.Ask ((z10.d i).x = ((o.flip g').d i).x)) ∧ Sx.Ask z0 ∧ Sx.Ask ((z10.d i).y = ((o.flip g').d i).y)) ∧ True) ∧ Sx.Ask ((oriI o).meas g' < (oriI o).meas g))) (True ∧ True ∧ True ∧ ((Sx.Ask z0 ∧ Sx.Ask ((0 : Int) = (0 : Int))) ∧ True) ∧ z2 ∧ (Sx.Ask (o.n = o.n) ∧ (∀ (i : Nat), i < o.n → Sx.Ask (z10.m i = (o.flip o.n).m i) ∧ ∀ (i' : Nat), let z18 := (o.p i (o.m i - z5 - i')); i' < (o.flip o.n).m i → (True ∧ Sx.Ask z0 ∧ Sx.Ask ((bif decide (i < g ∧ neg o i) then z18.x else (o.p i i').x) = bif decide (i < o.n ∧ neg o i) then z18.x else (o.p i i').x)) ∧ Sx.Ask z0 ∧ Sx.Ask ((bif decide (i < g ∧ neg o i) then z18.y else (o.p i i').y) = bif decide (i < o.n ∧ neg o i) then z18.y else (o.p i i').y)) ∧ ∀ (i : Nat), i < o.n → True ∧ Sx.Ask z19) ∧ (Sx.Ask (o.k = o.k) ∧ ∀ (i : Nat), i < o.k → (True ∧ Sx.Ask z0 ∧ Sx.Ask ((z10.d i).x = ((o.flip o.n).d i).x)) ∧ Sx.Ask z0 ∧ Sx.Ask ((z10.d i).y = ((o.flip o.n).d i).y)) ∧ True)) (by kernel_rfl) ?_
  simp only [ask_iff, br_iff, eq_self, true_and, and_true, implies_true, forall_const, decide_eq_true_eq, decide_eq_false_iff_not, ne_eq, Nat.mul_one, Nat.add_zero, Nat.zero_add, Int.toNat_natCast, and_self, false_and, and_false]
  have hn : o.n ≤ 1024 := hg.1
  refine ⟨hg, ⟨0, Nat.zero_le _, rfl, fun i _ => ⟨rfl, fun j _ => ?_⟩, fun i _ => ⟨rfl, rfl⟩⟩, fun g hg' => ⟨fun hlt => ⟨by omega, by simp only [Int.ofNat_eq_natCast]; omega, ?_, fun hneg => ?_, fun hneg => ?_⟩, fun hge => ⟨fun i hi => ⟨rfl, fun j _ => ?_⟩, fun i _ => ⟨rfl, rfl⟩⟩⟩⟩
  · rw [decide_eq_false (show ¬ (i < 0 ∧ neg o i) from fun h => absurd h.1 (Nat.not_lt_zero _))]
    exact ⟨rfl, rfl⟩
  · show Lns.fin ⟨(Int.ofNat (g + 1) - Int.ofNat g).toNat, fun i => (o.flip g).li ((Int.ofNat g).toNat + i)⟩
    rw [win_eq]
    refine ⟨show 1 ≤ 1024 by omega, fun i hi => ?_⟩
    have hi : i < 1 := hi
    exact hg.2 (g + i) (show g + i < o.n by omega)
  · have hneg : neg o g := by rw [← win_neg]; exact hneg
    have em : (o.flip g).m g = o.m g := rfl
    have hm : o.m g ≤ 1024 := (hg.2 g (show g < o.n by omega)).1
    rw [em]
    refine ⟨by omega, by omega, by omega, by omega, g + 1, show g + 1 ≤ o.n by omega, ⟨by omega, fun i hi => ⟨?_, fun j hj => ?_⟩, fun i _ => ⟨rfl, rfl⟩⟩, show o.n - (g + 1) < o.n - g by omega⟩
    · show (bif decide (i = g) then o.m g else o.m i) = o.m i
      by_cases h : i = g
      · rw [decide_eq_true h, h]; rfl
      · rw [decide_eq_false h]; rfl
    · by_cases h : i = g
      · rw [decide_eq_true h, h, decide_eq_false (show ¬ (g < g ∧ neg o g) from fun h => absurd h.1 (Nat.lt_irrefl _)), decide_eq_true (show g < g + 1 ∧ neg o g from ⟨Nat.lt_succ_self _, hneg⟩)]
        exact ⟨rfl, rfl⟩
      · rw [decide_eq_false h, decide_eq_decide.2 (show (i < g + 1 ∧ neg o i) ↔ (i < g ∧ neg o i) from ⟨fun hh => ⟨by omega, hh.2⟩, fun hh => ⟨by omega, hh.2⟩⟩)]
        exact ⟨rfl, rfl⟩
  · have hneg : ¬ neg o g := by rw [← win_neg]; exact hneg
    refine ⟨by omega, g + 1, show g + 1 ≤ o.n by omega, ⟨by omega, fun i hi => ⟨rfl, fun j hj => ?_⟩, fun i _ => ⟨rfl, rfl⟩⟩, show o.n - (g + 1) < o.n - g by omega⟩
    rw [decide_eq_decide.2 (show (i < g + 1 ∧ neg o i) ↔ (i < g ∧ neg o i) from ⟨fun hh => ⟨Classical.byContradiction fun hc => hneg (by rw [show g = i by omega]; exact hh.2), hh.2⟩, fun hh => ⟨by omega, hh.2⟩⟩)]
    exact ⟨rfl, rfl⟩
  · have hg' : g ≤ o.n := hg'
    rw [show g = o.n by omega]
    exact ⟨rfl, rfl⟩
/-! check. -/
structure Sty where
  w : Int
  cap : Int
  join : Int
  limit : Int
def styL (s : Sty) : List SV := [.int .i64 s.w, .int .i64 s.cap, .int .i64 s.join, .int .i64 s.limit]
def styS (s : Sty) : SV := .agg 4 (lst (styL s))
def styD (g : Nat → SV) : Sty := ⟨Sx.intOf (g 0), Sx.intOf (g 1), Sx.intOf (g 2), Sx.intOf (g 3)⟩
def Sty.ok (s : Sty) : Prop := ((1 ≤ s.w ∧ s.w ≤ 1024) ∧ (0 ≤ s.cap ∧ s.cap ≤ 2)) ∧ (0 ≤ s.join ∧ s.join ≤ 2) ∧ 16 ≤ s.limit ∧ s.limit ≤ 1024
def spCkS : FSpec := mkSpec 73 (γ := Sty) (fun | [.agg _ g] => some (styD g) | _ => none) (fun s => [styS s]) Sty.ok (fun _ => .int .i64 0)
theorem ok_ckS : SpecOK Try.prog spCkS := by
  refine spec_sound (specs := []) (all_ok trivial) (eqs := []) (fun _ _ h => (List.not_mem_nil h).elim) Aff.mixed Try.func73 rfl (by kernel_rfl) (fun _ _ => by kernel_rfl) (fun g => A0) (fun g => Nat.le_of_ble_eq_true (by kernel_rfl)) ?_
  rintro s hs
  refine vc_of (B := let z2 := ((1 : Int) = (0 : Int));let z0 := (IntKind.i64 = IntKind.i64); let z3 := (True ∧ True ∧ Sx.Ask z0 ∧ Sx.Ask ((3 : Int) = (0 : Int))); let z1 := (True ∧ True ∧ True ∧ Sx.Ask z0 ∧ Sx.Ask ((3 : Int) = (0 : Int)));True ∧ True ∧ True ∧ True ∧ True ∧ True ∧ Sx.Br (decide (s.w < (1 : Int))) z1 (True ∧ True ∧ True ∧ True ∧ Sx.Br (decide ((1024 : Int) < s.w)) z3 (True ∧ True ∧ True ∧ True ∧ Sx.Br (decide (s.cap < (0 : Int))) (True ∧ True ∧ True ∧ True ∧ True ∧ True ∧ True ∧ Sx.Ask z0 ∧ Sx.Ask z2) (True ∧ True ∧ True ∧ True ∧ True ∧ Sx.Br (decide ((2 : Int) < s.cap)) (True ∧ True ∧ True ∧ True ∧ True ∧ Sx.Ask z0 ∧ Sx.Ask z2) (True ∧ True ∧ True ∧ True ∧ True ∧ Sx.Br (decide (s.join < (0 : Int))) (True ∧ True ∧ True ∧ Sx.Ask z0 ∧ Sx.Ask z2) (True ∧ True ∧ True ∧ True ∧ Sx.Br (decide ((2 : Int) < s.join)) (True ∧ True ∧ Sx.Ask z0 ∧ Sx.Ask z2) (True ∧ True ∧ True ∧ True ∧ Sx.Br (decide (s.limit < (16 : Int))) z1 (True ∧ True ∧ True ∧ True ∧ Sx.Br (decide ((1024 : Int) < s.limit)) z3 (True ∧ True ∧ Sx.Ask z0 ∧ Sx.Ask ((0 : Int) = (0 : Int))))))))))) (by kernel_rfl) ?_
  simp only [ask_iff, br_iff, eq_self, true_and, and_true, implies_true, forall_const, decide_eq_true_eq, decide_eq_false_iff_not, ne_eq, Nat.mul_one, Nat.add_zero, Nat.zero_add, Int.toNat_natCast, and_self, false_and, and_false]
  obtain ⟨⟨⟨a1, a2⟩, a3, a4⟩, ⟨a5, a6⟩, a7, a8⟩ := hs
  omega
structure StrG where
  g : Lns
  s : Sty
def StrG.ok (h : StrG) : Prop := h.g.fin ∧ h.s.ok
def spCk : FSpec := mkSpec 54 (γ := StrG) (fun | [s, .agg _ g] => some ⟨⟨slLen s, lnsD s⟩, styD g⟩ | _ => none) (fun h => [lnsS h.g, styS h.s]) StrG.ok (fun _ => .int .i64 0)
theorem ok_ck : SpecOK Try.prog spCk := by
  refine spec_sound (specs := [spCkS, spChkFi]) (all_ok (⟨ok_ckS, ok_chkFi, trivial⟩)) (eqs := []) (fun _ _ h => (List.not_mem_nil h).elim) Aff.mixed Try.func54 rfl (by kernel_rfl) (fun _ _ => by kernel_rfl) (fun g => A0) (fun g => Nat.le_of_ble_eq_true (by kernel_rfl)) ?_
  rintro ⟨g, s⟩ hs
  refine vc_of (B := let z0 := (IntKind.i64 = IntKind.i64);True ∧ True ∧ True ∧ ((((((True ∧ Sx.Ask z0 ∧ Sx.Ask (s.w = s.w)) ∧ Sx.Ask z0 ∧ Sx.Ask (s.cap = s.cap)) ∧ Sx.Ask z0 ∧ Sx.Ask (s.join = s.join)) ∧ Sx.Ask z0 ∧ Sx.Ask (s.limit = s.limit)) ∧ True) ∧ Sx.Ask s.ok) ∧ True ∧ True ∧ True ∧ True ∧ (((Sx.Ask (g.n = g.n) ∧ ∀ (i : Nat), i < g.n → (True ∧ Sx.Ask ((g.f i).n = (g.f i).n) ∧ ∀ (i_1 : Nat), let z1 := ((g.f i).f i_1); i_1 < (g.f i).n → (True ∧ Sx.Ask z0 ∧ Sx.Ask (z1.x = z1.x)) ∧ Sx.Ask z0 ∧ Sx.Ask (z1.y = z1.y)) ∧ Sx.Ask ((g.f i).c = (g.f i).c)) ∧ True) ∧ Sx.Ask g.fin) ∧ True ∧ True ∧ Sx.Ask z0 ∧ Sx.Ask ((0 : Int) = (0 : Int))) (by kernel_rfl) ?_
  simp only [ask_iff, br_iff, eq_self, true_and, and_true, implies_true, forall_const, decide_eq_true_eq, decide_eq_false_iff_not, ne_eq, Nat.mul_one, Nat.add_zero, Nat.zero_add, Int.toNat_natCast, and_self, false_and, and_false]
  exact ⟨hs.2, hs.1⟩
/-! outline. -/
def o0 (s : Sty) : Olr := ⟨s.w, s.cap, s.join, s.limit, 0, fun _ => 0, fun _ _ => ⟨0, 0⟩, 0, fun _ => ⟨0, 0⟩⟩
noncomputable def lnO (s : Sty) (l : Li) : Olr := (o0 s).ln l
noncomputable def outO (s : Sty) (l : Li) : Olr := (lnO s l).flip (lnO s l).n
structure OuG where
  l : Li
  s : Sty
def OuG.ok (g : OuG) : Prop := (Li.in g.l ∧ g.s.ok) ∧ (lnO g.s g.l).lns.fin
def partsS (o : Olr) : SV := .sl o.n 2 (fun i => lst [.sl (o.m i) 2 (fun j => lst (ptL (o.p i j))), .lit true])
def discsS (o : Olr) : SV := .sl o.k 2 (fun i => lst (ptL (o.d i)))
def olS (o : Olr) : SV := .ref 6 (lst [.int .i64 o.w, .int .i64 o.cap, .int .i64 o.join, .int .i64 o.limit, partsS o, discsS o])
noncomputable def spOutl : FSpec := mkSpec 55 (γ := OuG) (fun | [.agg _ l, .agg _ g] => some ⟨liD l, styD g⟩ | _ => none) (fun g => [liS g.l, styS g.s]) OuG.ok (fun g => .tup 2 (lst [olS (outO g.s g.l), .int .i64 0]))
theorem ok_outl : SpecOK Try.prog spOutl := by
  refine spec_sound (specs := [spLn, spOri]) (all_ok (⟨ok_ln, ok_ori, trivial⟩)) (eqs := []) (fun _ _ h => (List.not_mem_nil h).elim) Aff.mixed Try.func55 rfl (by kernel_rfl) (fun _ _ => by kernel_rfl) (fun g => (⟨[], [(2, [.ownC 2 4 36 2, .ownC 2 5 34 2, .deepen 3 2 34])]⟩ : Ann)) (fun g => Nat.le_of_ble_eq_true (by kernel_rfl)) ?_
  rintro ⟨l, s⟩ hg
  refine vc_of (B := let z5 := (Sx.intOf Sx.SV.any);let z4 := (0 : Nat);let z3 := (lnO s l);let z2 := (Stb.Olr.mk s.w s.cap s.join s.limit z4 (fun (x : Nat) => z4) (fun (i j : Nat) => Con.Pt.mk z5 z5) z4 fun (i : Nat) => Con.Pt.mk z5 z5);let z1 := (IntKind.i64 = IntKind.i64);let z0 := (z2.ln l);True ∧ True ∧ True ∧ True ∧ True ∧ True ∧ True ∧ True ∧ True ∧ True ∧ ((True ∧ (Sx.Ask (z4 = z4) ∧ ((True ∧ Sx.Ask (l.n = l.n) ∧ ∀ (i : Nat), i < l.n → (True ∧ Sx.Ask z1 ∧ Sx.Ask ((l.f i).x = (l.f i).x)) ∧ Sx.Ask z1 ∧ Sx.Ask ((l.f i).y = (l.f i).y)) ∧ Sx.Ask (l.c = l.c)) ∧ True) ∧ ((((((True ∧ Sx.Ask z1 ∧ Sx.Ask (s.w = s.w)) ∧ Sx.Ask z1 ∧ Sx.Ask (s.cap = s.cap)) ∧ Sx.Ask z1 ∧ Sx.Ask (s.join = s.join)) ∧ Sx.Ask z1 ∧ Sx.Ask (s.limit = s.limit)) ∧ True) ∧ True) ∧ (Sx.Ask (z4 = z4) ∧ (∀ (i : Nat), i < z4 → Sx.Ask (z4 = z4) ∧ ∀ (i' : Nat), i' < z4 → (True ∧ False) ∧ False) ∧ ∀ (i : Nat), i < z4 → True ∧ False) ∧ (Sx.Ask (z4 = z4) ∧ ∀ (i : Nat), i < z4 → (True ∧ False) ∧ False) ∧ True) ∧ Sx.Ask (Stc.LnG.mk z2 l).ok) ∧ True ∧ True ∧ ((True ∧ (Sx.Ask (z4 = z4) ∧ True) ∧ ((((((True ∧ Sx.Ask z1 ∧ Sx.Ask (z0.w = z0.w)) ∧ Sx.Ask z1 ∧ Sx.Ask (z0.cap = z0.cap)) ∧ Sx.Ask z1 ∧ Sx.Ask (z0.join = z0.join)) ∧ Sx.Ask z1 ∧ Sx.Ask (z0.limit = z0.limit)) ∧ True) ∧ True) ∧ (Sx.Ask (z0.n = z0.n) ∧ (∀ (i : Nat), i < z0.n → Sx.Ask (z0.m i = z0.m i) ∧ ∀ (i' : Nat), i' < z0.m i → (True ∧ Sx.Ask z1 ∧ Sx.Ask ((z0.p i i').x = (z0.p i i').x)) ∧ Sx.Ask z1 ∧ Sx.Ask ((z0.p i i').y = (z0.p i i').y)) ∧ ∀ (i : Nat), i < z0.n → True ∧ Sx.Ask (true = true)) ∧ (Sx.Ask (z0.k = z0.k) ∧ ∀ (i : Nat), i < z0.k → (True ∧ Sx.Ask z1 ∧ Sx.Ask ((z0.d i).x = (z0.d i).x)) ∧ Sx.Ask z1 ∧ Sx.Ask ((z0.d i).y = (z0.d i).y)) ∧ True) ∧ Sx.Ask z0.lns.fin) ∧ True ∧ True ∧ True ∧ (True ∧ (((((True ∧ Sx.Ask z1 ∧ Sx.Ask (z0.w = z3.w)) ∧ Sx.Ask z1 ∧ Sx.Ask (z0.cap = z3.cap)) ∧ Sx.Ask z1 ∧ Sx.Ask (z0.join = z3.join)) ∧ Sx.Ask z1 ∧ Sx.Ask (z0.limit = z3.limit)) ∧ Sx.Ask (z0.n = z3.n) ∧ ∀ (i : Nat), i < z3.n → (True ∧ Sx.Ask ((z0.flip z0.n).m i = (outO s l).m i) ∧ ∀ (i_1 : Nat), i_1 < (outO s l).m i → (True ∧ Sx.Ask z1 ∧ Sx.Ask ((bif decide (i < z0.n ∧ neg z0 i) then (z0.p i (z0.m i - (1 : Nat) - i_1)).x else (z0.p i i_1).x) = bif decide (i < z3.n ∧ neg z3 i) then (z3.p i (z3.m i - (1 : Nat) - i_1)).x else (z3.p i i_1).x)) ∧ Sx.Ask z1 ∧ Sx.Ask ((bif decide (i < z0.n ∧ neg z0 i) then (z0.p i (z0.m i - (1 : Nat) - i_1)).y else (z0.p i i_1).y) = bif decide (i < z3.n ∧ neg z3 i) then (z3.p i (z3.m i - (1 : Nat) - i_1)).y else (z3.p i i_1).y)) ∧ Sx.Ask (true = true)) ∧ Sx.Ask (z0.k = z3.k) ∧ ∀ (i : Nat), i < z3.k → (True ∧ Sx.Ask z1 ∧ Sx.Ask ((z0.d i).x = ((outO s l).d i).x)) ∧ Sx.Ask z1 ∧ Sx.Ask ((z0.d i).y = ((outO s l).d i).y)) ∧ Sx.Ask z1 ∧ Sx.Ask ((0 : Int) = (0 : Int))) (by kernel_rfl) ?_
  simp only [ask_iff, br_iff, eq_self, true_and, and_true, implies_true, forall_const, decide_eq_true_eq, decide_eq_false_iff_not, ne_eq, Nat.mul_one, Nat.add_zero, Nat.zero_add, Int.toNat_natCast, and_self, false_and, and_false]
  obtain ⟨⟨hl, ⟨⟨a1, a2⟩, a3, a4⟩, ⟨a5, a6⟩, a7, a8⟩, hf⟩ := hg
  simp only at a1 a2 a7 a8
  refine ⟨⟨⟨⟨fun i hi => absurd hi (Nat.not_lt_zero _), fun i hi => absurd hi (Nat.not_lt_zero _)⟩, fun i hi => absurd hi (Nat.not_lt_zero _)⟩, ⟨⟨⟨Nat.zero_le _, Nat.zero_le _⟩, ⟨a1, a2⟩, show 0 ≤ s.limit by omega, a8⟩, hl⟩⟩, hf, ⟨⟨⟨⟨⟨rfl, rfl⟩, rfl⟩, rfl⟩, rfl, fun i _ => ⟨rfl, fun j _ => ⟨rfl, rfl⟩⟩⟩, rfl, fun i _ => ⟨rfl, rfl⟩⟩⟩
end Go.Proofs.Ytfjbjbmbdadmhaa.Sto
