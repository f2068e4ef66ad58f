/- slices.Clone and slices.Reverse of points; the law FillReversed: by the evaluation. -/
import Derived.Test.YtppdojjhegiffaaFlx
import Derived.Test.YtppdojjhegiffaaFlh
import Derived.Test.YtppdojjhegiffaaRgc
set_option linter.unusedSimpArgs false
set_option linter.unusedVariables false
namespace Go.Proofs.Ytppdojjhegiffaa.Fly
open Go.RowKit Sx Num Aff Con Rga Rgl Rgn Fla Flb Flc Fld Fle Flp Flf Flg Flr Flu Flx Flh
set_option maxRecDepth 100000
structure PtG where
  n : Nat
  f : Nat → Pt
def ptsS (g : PtG) : SV := .sl g.n 2 (fun i => lst (ptL (g.f i)))
def ptRow (ver n : Nat) (f : Nat → Pt) : SO := .row ver n 2 (fun i => lst (ptL (f i))) 31
/-- A contract put together of other contracts of the same function. -/
theorem spec_any {P : Program} {f : FuncId} {γ : Type} {dec : List SV → Option γ} {args : γ → List SV} {pre : γ → Prop} {res : γ → SV} (hent : ∀ args w, (callFunc f args).run P w = .ok (.enter f args) w)
    (hc : ∀ g, pre g → ∃ (γ0 : Type) (dec0 : List SV → Option γ0) (args0 : γ0 → List SV) (pre0 : γ0 → Prop) (res0 : γ0 → SV), SpecOK P (mkSpec f dec0 args0 pre0 res0) ∧ ∃ g0, dec0 (args0 g0) = some g0 ∧ noOwns (args0 g0) ∧ (args0 g0).all (isPure 6) = true ∧ pre0 g0 ∧ args g = args0 g0 ∧ res g = res0 g0) : SpecOK P (mkSpec f dec args pre res) := by
  refine ⟨hent, fun args H HF nm y _ _ h => h, fun l H nm y hrun hp w0 X0 E w hrep hf vals ha => ?_⟩
  simp only [mkSpec] at hrun
  split at hrun
  case h_2 => cases hrun
  rename_i hpu
  split at hrun
  case h_2 => cases hrun
  rename_i g hdec
  cases hrun
  obtain ⟨hle, ⟨hpre⟩⟩ := hp
  obtain ⟨γ0, dec0, args0, pre0, res0, h0, g0, e1, e2, e3, e4, e5, e6⟩ := hc g hpre
  obtain ⟨hll, hle⟩ := leArgs_get hle
  have hr := args_pure ha hpu
  have hsz := ha.1
  have h := h0.2.2 (args0 g0) H nm ⟨mkSpec.leArgs (args0 g0) (args0 g0) ∧ Sx.Ask (pre0 g0), res0 g0, .keep⟩ (by simp only [mkSpec, e3, e1]) ⟨leArgs_refl e2, ⟨e4⟩⟩ w0 X0 E w hrep hf vals
    ⟨by rw [← e5]; omega, fun i hi => by
      rw [← e5] at hi ⊢
      exact up (pureR (fun _ hb => hb) (hle i hi) (hr i (by omega)))⟩
  rw [e6]
  exact h
theorem noOwn_lns (g : Lns) : noOwn (lnsS g) := fun i j => noOwn_lst (l := liL (g.f i)) ⟨fun i' j' => noOwn_lst (l := ptL ((g.f i).f i')) ⟨trivial, trivial, trivial⟩ j', trivial, trivial⟩ j
def insR (r : Int) : Int → Bool := if r = 0 then ins1 else ins2
theorem insR_neg (r n : Int) : insR r (-n) = insR r n := by
  unfold insR
  split
  · exact ins1_neg n
  · exact ins2_neg n
structure FiG where
  g : Lns
  r : Int
noncomputable def spFill : FSpec := mkSpec 28 (γ := FiG) (fun | [s, .int _ r] => some ⟨⟨slLen s, lnsD s⟩, r⟩ | _ => none) (fun h => [lnsS h.g, .int .i64 h.r]) (fun h => (h.g.fin ∧ h.g.E.length ≤ 1048576) ∧ (h.r = 0 ∨ h.r = 1)) (fun h => .tup 2 (lst [runsS (fillL (insR h.r) h.g), .int .i64 0]))
theorem ok_fill : SpecOK Try.prog spFill := by
  refine spec_any (enters_of Try.func28 (by kernel_rfl) rfl) (fun h hh => ?_)
  obtain ⟨g, r⟩ := h
  obtain ⟨hf, hr⟩ := hh
  have hr : r = 0 ∨ r = 1 := hr
  rcases hr with rfl | rfl
  · exact ⟨_, _, _, _, _, ok_fill1, g, rfl, ⟨noOwn_lns g, trivial, trivial⟩, rfl, hf, rfl, rfl⟩
  · exact ⟨_, _, _, _, _, ok_fill2, g, rfl, ⟨noOwn_lns g, trivial, trivial⟩, rfl, hf, rfl, rfl⟩
def spCloneP : FSpec := mkSpecN 27 (γ := PtG) (fun | [s] => some ⟨slLen s, pxD s⟩ | _ => none) (fun g => [ptsS g]) (fun g => g.n ≤ 4294967296) (fun _ => .osl 0 0) (fun g => ptRow 0 g.n g.f)
theorem ok_cloneP : SpecOK Try.prog spCloneP := by
  refine spec_soundN (specs := []) (all_ok trivial) (eqs := []) (fun _ _ h => (List.not_mem_nil h).elim) Aff.mixed Try.func27 rfl (by kernel_rfl) (fun _ _ => by kernel_rfl) (fun g => (⟨[], [(1, [.nilc 0]), (1000002, [.own 2 31 2])]⟩ : Ann)) (fun _ => 0) (fun g => Nat.le_of_ble_eq_true (by kernel_rfl)) ?_
  rintro g hn
  refine vc_of (B := True ∧ (g.n = (0 : Nat) → True ∧ True ∧ True ∧ True ∧ (True ∧ True) ∧ (Sx.Ask ((0 : Nat) = g.n) ∧ ∀ (i : Nat), i < g.n → (True ∧ False) ∧ False) ∧ True) ∧ True ∧ True ∧ True ∧ True ∧ Sx.Ask ((0 : Nat) + g.n ≤ (9223372036854775807 : Nat) ∧ ((0 : Nat) + g.n) * (16 : Nat) ≤ (140737488355328 : Nat)) ∧ True ∧ True ∧ (True ∧ True) ∧ (Sx.Ask ((0 : Nat) + g.n = g.n) ∧ ∀ (i : Nat), i < g.n → (True ∧ Sx.Ask (IntKind.i64 = IntKind.i64) ∧ Sx.Ask ((g.f (i - (0 : Nat))).x = (g.f i).x)) ∧ Sx.Ask (IntKind.i64 = IntKind.i64) ∧ Sx.Ask ((g.f (i - (0 : Nat))).y = (g.f i).y)) ∧ True) (by kernel_rfl) ?_
  simp only [ask_iff, br_iff, eq_self, true_and, and_true, implies_true, forall_const, decide_eq_true_eq, decide_eq_false_iff_not, ne_eq, Nat.mul_one, Nat.add_zero, Nat.zero_add, Int.toNat_natCast, and_self, List.append_assoc, false_and, and_false]
  have hn : g.n ≤ 4294967296 := hn
  refine ⟨fun h => ⟨h.symm, fun i hi => absurd hi (by omega)⟩, by omega, fun i _ => ?_⟩
  rw [Nat.sub_zero]
  exact ⟨rfl, rfl⟩
/-! Reverse. -/
def rvF (f : Nat → Pt) (n i k : Nat) : Pt := if k < i ∨ n ≤ k + i then f (n - 1 - k) else f k
theorem pt_same {a b : Pt} (h : a = b) : a.x = b.x ∧ a.y = b.y := by rw [h]; exact ⟨rfl, rfl⟩
theorem pt2 {p0 p1 q0 q1 : Prop} [Decidable p0] [Decidable p1] [Decidable q0] [Decidable q1] {r t e f : Pt} {p q : Prop} [Decidable p] [Decidable q] (h : f = if p then r else if q then t else e) (hp : (p0 ↔ p) ∧ (p1 ↔ p)) (hq : (q0 ↔ q) ∧ (q1 ↔ q)) :
    ((bif decide p0 then r.x else bif decide q0 then t.x else e.x) = f.x ∧ (bif decide p1 then r.y else bif decide q1 then t.y else e.y) = f.y) := by
  obtain ⟨a0, a1⟩ := hp
  obtain ⟨b0, b1⟩ := hq
  rw [h]
  simp only [a0, a1, b0, b1]
  by_cases hp : p
  · simp [hp]
  · by_cases hq : q <;> simp [hp, hq]
def rvInv (g : PtG) : Inv := ⟨Nat, fun i => 2 * i ≤ g.n, fun i => ⟨[(0, .osl 0 0), (2, .int .i64 i), (3, .int .i64 ((g.n : Int) - 1 - i))], [ptRow 0 g.n (rvF g.f g.n i)]⟩, fun i => g.n - i⟩
def spRevP : FSpec := mkSpecM 14 [.arg 0] (γ := PtG) (fun | [_], [.row _ n _ g _] => some ⟨n, fun i => ptD (g i)⟩ | _, _ => none) (fun _ => [.osl 0 0]) (fun g => [ptRow 0 g.n g.f]) (fun g => g.n ≤ 4294967296) (fun _ => .tup 0 (lst [])) (fun g => [ptRow 0 g.n (fun k => g.f (g.n - 1 - k))])
theorem ok_revP : SpecOK Try.prog spRevP := by
  refine spec_soundM (specs := []) (all_ok trivial) (eqs := []) (fun _ _ h => (List.not_mem_nil h).elim) Aff.mixed Try.func14 rfl (by kernel_rfl) (fun _ _ => by kernel_rfl) (fun g => (⟨[(1, .inv (rvInv g))], []⟩ : Ann)) true (fun g => Nat.le_of_ble_eq_true (by kernel_rfl)) ?_
  rintro g hg
  refine vc_of (B := let z7 := (9223372036854775807 : Int);let z6 := (-9223372036854775808 : Int);let z4 := (0 : Nat);let z3 := (1 : Int);let z2 := (↑g.n : Int);let z1 := (IntKind.i64 = IntKind.i64);True ∧ True ∧ Sx.Ask (z6 ≤ z2 - z3 ∧ z2 - z3 ≤ z7) ∧ True ∧ True ∧ (∃ (g_1 : Nat), Sx.Ask ((rvInv g).pre g_1) ∧ True ∧ (True ∧ (Sx.Ask z1 ∧ Sx.Ask ((0 : Int) = (↑g_1 : Int))) ∧ (Sx.Ask z1 ∧ Sx.Ask (z2 - z3 = z2 - z3 - (↑g_1 : Int))) ∧ True) ∧ (Sx.Ask (g.n = g.n) ∧ ∀ (i : Nat), i < g.n → (True ∧ Sx.Ask z1 ∧ Sx.Ask ((g.f i).x = (rvF g.f g.n g_1 i).x)) ∧ Sx.Ask z1 ∧ Sx.Ask ((g.f i).y = (rvF g.f g.n g_1 i).y)) ∧ True) ∧ ∀ (g_1 : Nat), let z0 := (↑g_1 : Int); let z8 := ((0 : Int) ≤ z2 - z3 - z0 ∧ z2 - z3 - z0 < z2); let z5 := (z2 - z3 - z0); (rvInv g).pre g_1 → True ∧ True ∧ True ∧ Sx.Br (decide (z0 < z2 - z3 - z0)) (True ∧ True ∧ True ∧ True ∧ True ∧ True ∧ Sx.Ask z8 ∧ Sx.Ask (z5.toNat < g.n) ∧ True ∧ True ∧ Sx.Ask ((0 : Int) ≤ z0 ∧ z0 < z2) ∧ Sx.Ask (z0.toNat < g.n) ∧ Sx.Ask ((0 : Int) ≤ z0 ∧ z0 < z2) ∧ Sx.Ask (z0.toNat < g.n) ∧ Sx.Ask z8 ∧ Sx.Ask (z5.toNat < g.n) ∧ True ∧ Sx.Ask (z6 ≤ z0 + z3 ∧ z0 + z3 ≤ z7) ∧ True ∧ Sx.Ask (z6 ≤ z2 - z3 - z0 - z3 ∧ z2 - z3 - z0 - z3 ≤ z7) ∧ True ∧ True ∧ ∃ (g' : Nat), Sx.Ask ((rvInv g).pre g') ∧ True ∧ ((True ∧ (Sx.Ask z1 ∧ Sx.Ask (z0 + z3 = (↑g' : Int))) ∧ (Sx.Ask z1 ∧ Sx.Ask (z2 - z3 - z0 - z3 = z2 - z3 - (↑g' : Int))) ∧ True) ∧ (Sx.Ask (g.n = g.n) ∧ ∀ (i : Nat), i < g.n → (True ∧ Sx.Ask z1 ∧ Sx.Ask ((bif decide (i = z5.toNat ∧ z4 ≤ z4 ∧ z4 < z4 + (2 : Nat)) then (rvF g.f g.n g_1 z0.toNat).x else bif decide (i = z0.toNat ∧ z4 ≤ z4 ∧ z4 < z4 + (2 : Nat)) then (rvF g.f g.n g_1 z5.toNat).x else (rvF g.f g.n g_1 i).x) = (rvF g.f g.n g' i).x)) ∧ Sx.Ask z1 ∧ Sx.Ask ((bif decide (i = z5.toNat ∧ z4 ≤ (1 : Nat) ∧ (1 : Nat) < z4 + (2 : Nat)) then (rvF g.f g.n g_1 z0.toNat).y else bif decide (i = z0.toNat ∧ z4 ≤ (1 : Nat) ∧ (1 : Nat) < z4 + (2 : Nat)) then (rvF g.f g.n g_1 z5.toNat).y else (rvF g.f g.n g_1 i).y) = (rvF g.f g.n g' i).y)) ∧ True) ∧ Sx.Ask ((rvInv g).meas g' < (rvInv g).meas g_1)) (True ∧ True ∧ (True ∧ True) ∧ (Sx.Ask (g.n = g.n) ∧ ∀ (i : Nat), i < g.n → (True ∧ Sx.Ask z1 ∧ Sx.Ask ((rvF g.f g.n g_1 i).x = (g.f (g.n - (1 : Nat) - i)).x)) ∧ Sx.Ask z1 ∧ Sx.Ask ((rvF g.f g.n g_1 i).y = (g.f (g.n - (1 : Nat) - i)).y)) ∧ True)) (by kernel_rfl) ?_
  simp only [ask_iff, br_iff, eq_self, true_and, and_true, implies_true, forall_const, decide_eq_true_eq, decide_eq_false_iff_not, ne_eq, Nat.mul_one, Nat.add_zero, Nat.zero_add, Int.toNat_natCast, and_self, List.append_assoc, false_and, and_false]
  have hg : g.n ≤ 4294967296 := hg
  refine ⟨by omega, ⟨0, Nat.zero_le _, ⟨rfl, by show (g.n : Int) - 1 = (g.n : Int) - 1 - ((0 : Nat) : Int); omega⟩, fun k hk => pt_same ?_⟩, fun i hi => ⟨fun hlt => ?_, fun hge k hk => pt_same ?_⟩⟩
  · unfold rvF; rw [if_neg (by omega)]
  · have hi : 2 * i ≤ g.n := hi
    have ez : ((g.n : Int) - 1 - (i : Int)).toNat = g.n - 1 - i := by omega
    rw [ez]
    refine ⟨by omega, by omega, by omega, by omega, by omega, by omega, by omega, by omega, by omega, by omega, i + 1, (show 2 * (i + 1) ≤ g.n by omega), ⟨⟨by omega, by omega⟩, fun k hk => pt2 (p := k = g.n - 1 - i) (q := k = i) ?_ ⟨by simp, by simp⟩ ⟨by simp, by simp⟩⟩, by show g.n - (i + 1) < g.n - i; omega⟩
    · unfold rvF
      by_cases c1 : k = g.n - 1 - i
      · rw [if_pos c1, if_neg (show ¬ (i < i ∨ g.n ≤ i + i) by omega), if_pos (by omega)]
        congr 1; omega
      · by_cases c2 : k = i
        · rw [if_neg c1, if_pos c2, if_neg (show ¬ (g.n - 1 - i < i ∨ g.n ≤ g.n - 1 - i + i) by omega), if_pos (by omega)]
          congr 1; omega
        · rw [if_neg c1, if_neg c2]
          by_cases c3 : k < i ∨ g.n ≤ k + i
          · rw [if_pos c3, if_pos (by omega)]
          · rw [if_neg c3, if_neg (by omega)]
  · have hi : 2 * i ≤ g.n := hi
    unfold rvF
    by_cases c3 : k < i ∨ g.n ≤ k + i
    · rw [if_pos c3]
    · rw [if_neg c3]
      congr 1; omega
def lnok (g : Lns) : Prop := g.n ≤ 9223372036854775807 ∧ ∀ i, i < g.n → (g.f i).n ≤ 9223372036854775807
def spFRev : FSpec := mkSpec 7 (γ := Lns) (fun | [s] => some ⟨slLen s, lnsD s⟩ | _ => none) (fun g => [lnsS g]) lnok (fun _ => .bool true)
def G3 (g : Lns) : Lns := FwG.out ⟨g, 300⟩
theorem G3_fin (g : Lns) : (G3 g).fin := by
  refine ⟨by show min g.n 4 ≤ 1024; omega, fun i hi => ⟨by show min (g.f i).n 8 ≤ 1024; omega, fun j hj => ?_⟩⟩
  have h1 := cutI_range ((g.f i).f j).x (-300) 300 (by decide)
  have h2 := cutI_range ((g.f i).f j).y (-300) 300 (by decide)
  exact ⟨⟨by show -32767 ≤ cutI ((g.f i).f j).x (-300) 300; omega, by show cutI ((g.f i).f j).x (-300) 300 ≤ 32767; omega⟩, by show -32767 ≤ cutI ((g.f i).f j).y (-300) 300; omega, by show cutI ((g.f i).f j).y (-300) 300 ≤ 32767; omega⟩
def bkInv (g : Lns) : Inv := ⟨Nat, fun i => i ≤ (G3 g).n, fun i => ⟨[(0, lnsS (G3 g)), (3, .osl 0 0), (22, lnsS (G3 g)), (23, .int .i64 (G3 g).n), (24, .int .i64 i)], [.row 0 i 2 (fun j => lst (liL ((revG (G3 g)).f j))) 48]⟩, fun i => (G3 g).n - i⟩
theorem ok_fRev : SpecOK Try.prog spFRev := by
  refine spec_sound (specs := [spFills, spFew, spCloneP, spRevP, giv spFill, giv spArea2, Rgc.spEqR]) (all_ok (⟨ok_fills, ok_few, ok_cloneP, ok_revP, giv_ok ok_fill, giv_ok ok_area2, Rgc.ok_eqR, trivial⟩)) (eqs := []) (fun _ _ h => (List.not_mem_nil h).elim) Aff.mixed Try.func7 rfl (by kernel_rfl) (fun _ _ => by kernel_rfl) (fun g => (⟨[(6, .inv (bkInv g))], [(5, [.own 3 48 2]), (10, [.cells 1])]⟩ : Ann)) (fun g => Nat.le_of_ble_eq_true (by kernel_rfl)) ?_
  rintro g hg
  refine vc_of (B := let z26 := (Min.min g.n (4 : Nat));let z18 := (1 : Int);let z17 := (0 : Int);let z16 := (8 : Nat);let z15 := (↑z26 : Int);let z12 := (300 : Int);let z11 := (-300 : Int);let z4 := (IntKind.i64 = IntKind.i64);let z2 := (Sx.Ask (Min.min g.n (4 : Nat) = Min.min g.n (4 : Nat)) ∧ ∀ (i : Nat), i < Min.min g.n (4 : Nat) → (True ∧ Sx.Ask (Min.min (g.f i).n z16 = Min.min (g.f i).n z16) ∧ ∀ (i_1 : Nat), let z30 := ((g.f i).f i_1); i_1 < Min.min (g.f i).n z16 → (True ∧ Sx.Ask z4 ∧ Sx.Ask (cutI z30.x z11 z12 = cutI z30.x z11 z12)) ∧ Sx.Ask z4 ∧ Sx.Ask (cutI z30.y z11 z12 = cutI z30.y z11 z12)) ∧ Sx.Ask ((g.f i).c = (g.f i).c));let z1 := (Fla.Lns.mk z26 fun (i : Nat) => Fla.Li.mk (Min.min (g.f i).n z16) (fun (i_1 : Nat) => Con.Pt.mk (cutI ((g.f i).f i_1).x z11 z12) (cutI ((g.f i).f i_1).y z11 z12)) (g.f i).c); let z27 := (z1.fin ∧ z1.E.length ≤ (1048576 : Nat)); let z9 := (Flf.fillL (insR z18) z1); let z7 := (Flf.fillL (insR z17) z1);True ∧ (True ∧ Sx.Ask True) ∧ True ∧ True ∧ (((Sx.Ask (g.n = g.n) ∧ ∀ (i : Nat), i < g.n → (True ∧ Sx.Ask ((g.f i).n = (g.f i).n) ∧ ∀ (i_1 : Nat), let z31 := ((g.f i).f i_1); i_1 < (g.f i).n → (True ∧ Sx.Ask z4 ∧ Sx.Ask (z31.x = z31.x)) ∧ Sx.Ask z4 ∧ Sx.Ask (z31.y = z31.y)) ∧ Sx.Ask ((g.f i).c = (g.f i).c)) ∧ (Sx.Ask z4 ∧ Sx.Ask (z12 = z12)) ∧ True) ∧ Sx.Ask (Flg.FwG.mk g z12).ok) ∧ True ∧ True ∧ True ∧ True ∧ True ∧ (∃ (g_1 : Nat), Sx.Ask ((bkInv g).pre g_1) ∧ (z2 ∧ True ∧ z2 ∧ (Sx.Ask z4 ∧ Sx.Ask (z15 = z15)) ∧ (Sx.Ask z4 ∧ Sx.Ask (z17 = (↑g_1 : Int))) ∧ True) ∧ (Sx.Ask ((0 : Nat) = g_1) ∧ ∀ (i : Nat), i < g_1 → (True ∧ False) ∧ False) ∧ True) ∧ ∀ (g_1 : Nat), let z21 := (↑g_1 : Int); let z6 := (g.f z21.toNat); let z29 := (Min.min z6.n z16 ≤ (4294967296 : Nat)); let z5 := (Sx.Ask (Min.min z6.n z16 = Min.min z6.n z16) ∧ ∀ (i : Nat), i < Min.min z6.n z16 → (True ∧ Sx.Ask z4 ∧ Sx.Ask (cutI (z6.f i).x z11 z12 = cutI (z6.f i).x z11 z12)) ∧ Sx.Ask z4 ∧ Sx.Ask (cutI (z6.f i).y z11 z12 = cutI (z6.f i).y z11 z12)); let z3 := (Sx.Ask (g_1 = g_1) ∧ ∀ (i : Nat), i < g_1 → (True ∧ Sx.Ask (Min.min (g.f i).n z16 = Min.min (g.f i).n z16) ∧ ∀ (i_1 : Nat), let z13 := ((g.f i).f (Min.min (g.f i).n z16 - (1 : Nat) - i_1)); i_1 < Min.min (g.f i).n z16 → (True ∧ Sx.Ask z4 ∧ Sx.Ask (cutI z13.x z11 z12 = cutI z13.x z11 z12)) ∧ Sx.Ask z4 ∧ Sx.Ask (cutI z13.y z11 z12 = cutI z13.y z11 z12)) ∧ Sx.Ask ((g.f i).c = (g.f i).c)); let z0 := (Fla.Lns.mk g_1 fun (i : Nat) => Fla.Li.mk (Min.min (g.f i).n z16) (fun (i_1 : Nat) => let z20 := ((g.f i).f (Min.min (g.f i).n z16 - (1 : Nat) - i_1)); Con.Pt.mk (cutI z20.x z11 z12) (cutI z20.y z11 z12)) (g.f i).c); let z28 := (z0.fin ∧ z0.E.length ≤ (1048576 : Nat)); let z10 := (Flf.fillL (insR z18) z0); let z8 := (Flf.fillL (insR z17) z0); (bkInv g).pre g_1 → True ∧ Sx.Br (decide (z21 < z15)) (Sx.Ask (z17 ≤ z21 ∧ z21 < z15) ∧ True ∧ True ∧ True ∧ True ∧ True ∧ ((z5 ∧ True) ∧ Sx.Ask z29) ∧ True ∧ True ∧ True ∧ True ∧ ((True ∧ (True ∧ True) ∧ z5 ∧ True) ∧ Sx.Ask z29) ∧ True ∧ True ∧ True ∧ Sx.Ask (g_1 + (1 : Nat) ≤ (9223372036854775807 : Nat) ∧ (g_1 + (1 : Nat)) * (32 : Nat) ≤ (140737488355328 : Nat)) ∧ True ∧ Sx.Ask ((-9223372036854775808 : Int) ≤ z21 + z18 ∧ z21 + z18 ≤ (9223372036854775807 : Int)) ∧ True ∧ ∃ (g' : Nat), Sx.Ask ((bkInv g).pre g') ∧ ((z2 ∧ True ∧ z2 ∧ (Sx.Ask z4 ∧ Sx.Ask (z15 = z15)) ∧ (Sx.Ask z4 ∧ Sx.Ask (z21 + z18 = (↑g' : Int))) ∧ True) ∧ (Sx.Ask (g_1 + (1 : Nat) = g') ∧ ∀ (i : Nat), i < g' → (True ∧ Sx.Ask ((bif decide (i < g_1) then Min.min (g.f i).n z16 else Min.min z6.n z16) = Min.min (g.f i).n z16) ∧ ∀ (i_1 : Nat), let z25 := (z6.f (Min.min z6.n z16 - (1 : Nat) - i_1)); let z14 := ((g.f i).f (Min.min (g.f i).n z16 - (1 : Nat) - i_1)); i_1 < Min.min (g.f i).n z16 → (True ∧ Sx.Ask z4 ∧ Sx.Ask ((bif decide (i < g_1) then cutI z14.x z11 z12 else cutI z25.x z11 z12) = cutI z14.x z11 z12)) ∧ Sx.Ask z4 ∧ Sx.Ask ((bif decide (i < g_1) then cutI z14.y z11 z12 else cutI z25.y z11 z12) = cutI z14.y z11 z12)) ∧ Sx.Ask ((bif decide (i < g_1) then (g.f i).c else z6.c) = (g.f i).c)) ∧ True) ∧ Sx.Ask ((bkInv g).meas g' < (bkInv g).meas g_1)) (True ∧ ((z2 ∧ (Sx.Ask z4 ∧ Sx.Ask (z17 = z17)) ∧ True) ∧ Sx.Ask (z27 ∧ (z17 = z17 ∨ z17 = z18))) ∧ True ∧ True ∧ True ∧ True ∧ True ∧ True ∧ ((z3 ∧ (Sx.Ask z4 ∧ Sx.Ask (z17 = z17)) ∧ True) ∧ Sx.Ask (z28 ∧ (z17 = z17 ∨ z17 = z18))) ∧ True ∧ True ∧ True ∧ True ∧ True ∧ True ∧ ((z2 ∧ (Sx.Ask z4 ∧ Sx.Ask (z18 = z18)) ∧ True) ∧ Sx.Ask (z27 ∧ (z18 = z17 ∨ z18 = z18))) ∧ True ∧ True ∧ True ∧ True ∧ True ∧ True ∧ ((z3 ∧ (Sx.Ask z4 ∧ Sx.Ask (z18 = z18)) ∧ True) ∧ Sx.Ask (z28 ∧ (z18 = z17 ∨ z18 = z18))) ∧ True ∧ True ∧ True ∧ True ∧ True ∧ True ∧ ((z2 ∧ True) ∧ Sx.Ask z1.fin) ∧ True ∧ True ∧ True ∧ True ∧ True ∧ True ∧ ((z3 ∧ True) ∧ Sx.Ask z0.fin) ∧ True ∧ True ∧ True ∧ True ∧ True ∧ True ∧ True ∧ True ∧ True ∧ True ∧ True ∧ True ∧ True ∧ True ∧ (((Sx.Ask (z7.length = z7.length) ∧ ∀ (i : Nat), let z22 := (Rga.rI z7 i); i < z7.length → ((True ∧ Sx.Ask z4 ∧ Sx.Ask (z22.y = z22.y)) ∧ Sx.Ask z4 ∧ Sx.Ask (z22.x0 = z22.x0)) ∧ Sx.Ask z4 ∧ Sx.Ask (z22.x1 = z22.x1)) ∧ (Sx.Ask (z8.length = z8.length) ∧ ∀ (i : Nat), let z23 := (Rga.rI z8 i); i < z8.length → ((True ∧ Sx.Ask z4 ∧ Sx.Ask (z23.y = z23.y)) ∧ Sx.Ask z4 ∧ Sx.Ask (z23.x0 = z23.x0)) ∧ Sx.Ask z4 ∧ Sx.Ask (z23.x1 = z23.x1)) ∧ True) ∧ Sx.Ask (Rgc.EqG.mk (Rga.Rg.mk z7.length (Rga.rI z7)) (Rga.Rg.mk z8.length (Rga.rI z8))).ok) ∧ True ∧ True ∧ True ∧ True ∧ (((Sx.Ask (z9.length = z9.length) ∧ ∀ (i : Nat), let z24 := (Rga.rI z9 i); i < z9.length → ((True ∧ Sx.Ask z4 ∧ Sx.Ask (z24.y = z24.y)) ∧ Sx.Ask z4 ∧ Sx.Ask (z24.x0 = z24.x0)) ∧ Sx.Ask z4 ∧ Sx.Ask (z24.x1 = z24.x1)) ∧ (Sx.Ask (z10.length = z10.length) ∧ ∀ (i : Nat), let z19 := (Rga.rI z10 i); i < z10.length → ((True ∧ Sx.Ask z4 ∧ Sx.Ask (z19.y = z19.y)) ∧ Sx.Ask z4 ∧ Sx.Ask (z19.x0 = z19.x0)) ∧ Sx.Ask z4 ∧ Sx.Ask (z19.x1 = z19.x1)) ∧ True) ∧ Sx.Ask (Rgc.EqG.mk (Rga.Rg.mk z9.length (Rga.rI z9)) (Rga.Rg.mk z10.length (Rga.rI z10))).ok) ∧ True ∧ True ∧ True ∧ True ∧ Sx.Ask ((-9223372036854775808 : Int) ≤ z17 - Flg.lnAr z0 g_1 ∧ z17 - Flg.lnAr z0 g_1 ≤ (9223372036854775807 : Int)) ∧ True ∧ True ∧ True ∧ True ∧ Sx.Ask (decide (Flg.lnAr z1 z26 = z17 - Flg.lnAr z0 g_1) = true))) (by kernel_rfl) ?_
  simp only [ask_iff, br_iff, eq_self, true_and, and_true, implies_true, forall_const, decide_eq_true_eq, decide_eq_false_iff_not, ne_eq, Nat.mul_one, Nat.add_zero, Nat.zero_add, Int.toNat_natCast, and_self, List.append_assoc, false_and, and_false]
  refine ⟨⟨hg, by show (0 : Int) ≤ 300; decide, by show (300 : Int) ≤ 32767; decide⟩, ⟨0, Nat.zero_le _, rfl, rfl, fun _ hk => absurd hk (Nat.not_lt_zero _)⟩, fun i hi => ⟨fun hlt => ?_, fun hge => ?_⟩⟩
  · have hi : i ≤ (G3 g).n := hi
    have h4 : min g.n 4 ≤ 4 := Nat.min_le_right _ _
    refine ⟨by omega, by omega, by omega, by omega, by omega, i + 1, (show i + 1 ≤ min g.n 4 by omega), ⟨rfl, rfl, fun k hk => ?_⟩, by show min g.n 4 - (i + 1) < min g.n 4 - i; omega⟩
    by_cases hki : k < i
    · rw [decide_eq_true hki]; exact ⟨⟨rfl, fun _ _ => ⟨rfl, rfl⟩⟩, rfl⟩
    · obtain rfl : k = i := by omega
      rw [decide_eq_false hki]; exact ⟨⟨rfl, fun _ _ => ⟨rfl, rfl⟩⟩, rfl⟩
  · have hi : i ≤ (G3 g).n := hi
    have e : i = min g.n 4 := by
      have hi : i ≤ min g.n 4 := hi
      omega
    subst e
    have hf := G3_fin g
    have hr := fin_rev hf
    have hE := E_len hf
    have hrE := E_len hr
    have la := lar_in hr (min g.n 4) (Nat.le_refl _)
    have lb : lnAr (revG (G3 g)) (min g.n 4) = -lnAr (G3 g) (min g.n 4) := lar_rev (G3 g) _
    have h4 : min g.n 4 ≤ 4 := Nat.min_le_right _ _
    have eq : ∀ r, (⟨⟨(fillL (insR r) (G3 g)).length, rI (fillL (insR r) (G3 g))⟩, ⟨(fillL (insR r) (revG (G3 g))).length, rI (fillL (insR r) (revG (G3 g)))⟩⟩ : Rgc.EqG).ok := fun r => by
      rw [fill_rev (insR_neg r)]
      show vld (Rg.L ⟨(fillL (insR r) (G3 g)).length, rI (fillL (insR r) (G3 g))⟩) ∧ Rg.L ⟨(fillL (insR r) (G3 g)).length, rI (fillL (insR r) (G3 g))⟩ = _
      exact ⟨by rw [Rg.L_of]; exact fill_vld (insR r) _, rfl⟩
    refine ⟨⟨⟨hf, hE⟩, .inl trivial⟩, ⟨⟨hr, hrE⟩, .inl trivial⟩, ⟨⟨hf, hE⟩, .inr trivial⟩, ⟨⟨hr, hrE⟩, .inr trivial⟩, hf, hr, eq 0, eq 1, ?_, ?_⟩
    · show -9223372036854775808 ≤ 0 - lnAr (revG (G3 g)) (min g.n 4) ∧ 0 - lnAr (revG (G3 g)) (min g.n 4) ≤ 9223372036854775807
      omega
    · show lnAr (G3 g) (min g.n 4) = 0 - lnAr (revG (G3 g)) (min g.n 4)
      omega
end Go.Proofs.Ytppdojjhegiffaa.Fly
