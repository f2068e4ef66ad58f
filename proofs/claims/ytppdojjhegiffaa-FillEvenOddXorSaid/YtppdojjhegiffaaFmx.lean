/- slices.Concat of two lists of lines; the law FillEvenOddXor: by the evaluation. -/
import Derived.Test.YtppdojjhegiffaaFmg
set_option linter.unusedSimpArgs false
set_option linter.unusedVariables false
namespace Go.Proofs.Ytppdojjhegiffaa.Fmx
open Go.RowKit Sx Num Aff Con Rga Rgl Rgn Fla Flb Flc Fld Fle Flp Flf Flg Flr Flu Flx Flh Fly Fmg
set_option maxRecDepth 100000
/-! Lines together. -/
def catG (g h : Lns) : Lns := ⟨g.n + h.n, fun i => if i < g.n then g.f i else h.f (i - g.n)⟩
theorem cat_lo (g h : Lns) : ∀ i, i ≤ g.n → (catG g h).ed i = g.ed i
  | 0, _ => rfl
  | i + 1, hi => by
    show (catG g h).ed i ++ ((catG g h).f i).ed ((catG g h).f i).n = g.ed i ++ (g.f i).ed (g.f i).n
    rw [cat_lo g h i (by omega), show (catG g h).f i = g.f i from if_pos (show i < g.n by omega)]
theorem cat_hi (g h : Lns) : ∀ i, (catG g h).ed (g.n + i) = g.E ++ h.ed i
  | 0 => by
    rw [Nat.add_zero, cat_lo g h g.n (Nat.le_refl _)]
    exact (List.append_nil _).symm
  | i + 1 => by
    show (catG g h).ed (g.n + i) ++ ((catG g h).f (g.n + i)).ed ((catG g h).f (g.n + i)).n = g.E ++ (h.ed i ++ (h.f i).ed (h.f i).n)
    have e : (catG g h).f (g.n + i) = h.f i := by
      show (if g.n + i < g.n then _ else h.f (g.n + i - g.n)) = _
      rw [if_neg (by omega), Nat.add_sub_cancel_left]
    rw [cat_hi g h i, e, List.append_assoc]
theorem cat_E (g h : Lns) : (catG g h).E = g.E ++ h.E := cat_hi g h h.n
theorem cat_w (g h : Lns) (y x : Int) : wE (eI (catG g h).E) (catG g h).E.length y x = wE (eI g.E) g.E.length y x + wE (eI h.E) h.E.length y x := by
  rw [wE_sl, wE_sl, wE_sl, cat_E, sl_app]
theorem cat_fin {g h : Lns} (hg : g.fin) (hh : h.fin) (hn : g.n + h.n ≤ 1024) : (catG g h).fin := by
  refine ⟨hn, fun i hi => ?_⟩
  have hi : i < g.n + h.n := hi
  show Li.fin (if i < g.n then g.f i else h.f (i - g.n))
  split
  · exact hg.2 i (by omega)
  · exact hh.2 _ (by omega)
theorem ins2_add (a b : Int) : ins2 (a + b) = bne (ins2 a) (ins2 b) := by
  unfold ins2
  by_cases ha : a % 2 = 1 <;> by_cases hb : b % 2 = 1
  · rw [decide_eq_true ha, decide_eq_true hb, decide_eq_false (by omega)]; rfl
  · rw [decide_eq_true ha, decide_eq_false hb, decide_eq_true (by omega)]; rfl
  · rw [decide_eq_false ha, decide_eq_true hb, decide_eq_true (by omega)]; rfl
  · rw [decide_eq_false ha, decide_eq_false hb, decide_eq_false (by omega)]; rfl
theorem cat_fill (g h : Lns) : fillL ins2 (catG g h) = ofSet (fun y x => bne (mem (fillL ins2 g) y x) (mem (fillL ins2 h) y x)) := by
  show ofSet _ = _
  congr 1
  funext y x
  rw [fill_mem, fill_mem]
  unfold chi
  rw [cat_w, ins2_add]
  cases decide ((-8192 ≤ y ∧ y < 8192) ∧ -8192 ≤ x ∧ x < 8192) <;> rfl
/-! slices.Concat. -/
structure CaG where
  a : Lns
  b : Lns
def pk (h : CaG) (i : Nat) : Lns := if i = 1 then h.b else h.a
def lnsV (s : SV) : Lns := ⟨slLen s, lnsD s⟩
def spConcat : FSpec := mkSpec 33 (γ := CaG) (fun | [.sl _ _ f] => some ⟨⟨slLen (f 0 0), lnsD (f 0 0)⟩, ⟨slLen (f 1 0), lnsD (f 1 0)⟩⟩ | _ => none) (fun h => [.sl 2 1 (fun i _ => lnsS (pk h i))]) (fun h => h.a.n ≤ 1000 ∧ h.b.n ≤ 1000) (fun h => lnsS (catG h.a h.b))
theorem ok_concat : SpecOK Try.prog spConcat := by
  refine spec_sound (specs := [spGrowL]) (all_ok (⟨ok_growL, trivial⟩)) (eqs := []) (fun _ _ h => (List.not_mem_nil h).elim) Aff.mixed Try.func33 rfl (by kernel_rfl) (fun _ _ => by kernel_rfl) (fun g => (⟨[(3, .rounds 3), (11, .rounds 3)], []⟩ : Ann)) (fun g => Nat.le_of_ble_eq_true (by kernel_rfl)) ?_
  rintro g hg
  refine vc_of (B := let z11 := (↑(2 : Nat) : Int);let z10 := (IntKind.i64 = IntKind.i64);let z7 := (0 : Nat);let z6 := (1 : Int);let z4 := (9223372036854775807 : Int);let z3 := (-9223372036854775808 : Int);let z2 := (0 : Int); let z13 := (z3 ≤ z2 + z6 + z6 ∧ z2 + z6 + z6 ≤ z4);let z1 := (pk g (z2 + z6).toNat); let z12 := (↑z1.n : Int);let z0 := (pk g (Int.toNat z2)); let z9 := (↑z0.n : Int);True ∧ True ∧ True ∧ True ∧ True ∧ True ∧ Sx.Ask (z2 ≤ z2 ∧ z2 < z11) ∧ True ∧ True ∧ True ∧ True ∧ True ∧ Sx.Ask (z3 ≤ z2 + z9 ∧ z2 + z9 ≤ z4) ∧ True ∧ True ∧ True ∧ Sx.Ask (z3 ≤ z2 + z6 ∧ z2 + z6 ≤ z4) ∧ True ∧ True ∧ Sx.Ask (z2 ≤ z2 + z6 ∧ z2 + z6 < z11) ∧ True ∧ True ∧ True ∧ True ∧ True ∧ Sx.Ask (z3 ≤ z2 + z9 + z12 ∧ z2 + z9 + z12 ≤ z4) ∧ True ∧ True ∧ True ∧ Sx.Ask z13 ∧ True ∧ True ∧ True ∧ ((True ∧ (Sx.Ask z10 ∧ Sx.Ask (z2 + z9 + z12 = (↑(z2 + z9 + z12).toNat : Int))) ∧ True) ∧ Sx.Ask ((z2 + z9 + z12).toNat ≤ (1000000 : Nat))) ∧ True ∧ True ∧ True ∧ True ∧ True ∧ Sx.Ask (z2 ≤ z2 ∧ z2 < z11) ∧ True ∧ True ∧ True ∧ True ∧ Sx.Ask (z7 + z0.n ≤ (9223372036854775807 : Nat) ∧ (z7 + z0.n) * (32 : Nat) ≤ (140737488355328 : Nat)) ∧ True ∧ Sx.Ask (z3 ≤ z2 + z6 ∧ z2 + z6 ≤ z4) ∧ True ∧ True ∧ Sx.Ask (z2 ≤ z2 + z6 ∧ z2 + z6 < z11) ∧ True ∧ True ∧ True ∧ True ∧ Sx.Ask (z7 + z0.n + z1.n ≤ (9223372036854775807 : Nat) ∧ (z7 + z0.n + z1.n) * (32 : Nat) ≤ (140737488355328 : Nat)) ∧ True ∧ Sx.Ask z13 ∧ True ∧ True ∧ True ∧ True ∧ True ∧ Sx.Ask (z7 + z0.n + z1.n = g.a.n + g.b.n) ∧ ∀ (i : Nat), let z15 := (z0.f (i - z7)); let z14 := (i < z7 + z0.n); let z8 := ((catG g.a g.b).f i); let z5 := (z1.f (i - (z7 + z0.n))); i < g.a.n + g.b.n → (True ∧ Sx.Ask ((bif decide z14 then z15.n else z5.n) = z8.n) ∧ ∀ (i_1 : Nat), i_1 < z8.n → (True ∧ Sx.Ask z10 ∧ Sx.Ask ((bif decide z14 then (z15.f i_1).x else (z5.f i_1).x) = (z8.f i_1).x)) ∧ Sx.Ask z10 ∧ Sx.Ask ((bif decide z14 then (z15.f i_1).y else (z5.f i_1).y) = (z8.f i_1).y)) ∧ Sx.Ask ((bif decide z14 then z15.c else z5.c) = z8.c)) (by kernel_rfl) ?_
  simp only [ask_iff, br_iff, eq_self, true_and, and_true, implies_true, forall_const, decide_eq_true_eq, decide_eq_false_iff_not, ne_eq, Nat.mul_one, Nat.add_zero, Nat.zero_add, Int.toNat_natCast, and_self, List.append_assoc, false_and, and_false]
  simp only [show pk g (Int.toNat 0) = g.a from rfl, show pk g ((0 : Int) + 1).toNat = g.b from rfl, Nat.sub_zero]
  obtain ⟨ha, hb⟩ := hg
  refine ⟨by omega, by omega, by omega, by omega, by omega, by omega, ⟨by omega, by omega⟩, by omega, by omega, by omega, by omega, by omega, by omega, trivial, fun i hi => ?_⟩
  have hc : (catG g.a g.b).f i = if i < g.a.n then g.a.f i else g.b.f (i - g.a.n) := rfl
  rw [hc]
  by_cases c : i < g.a.n
  · rw [if_pos c, decide_eq_true c]
    exact ⟨⟨rfl, fun _ _ => ⟨rfl, rfl⟩⟩, rfl⟩
  · rw [if_neg c, decide_eq_false c]
    exact ⟨⟨rfl, fun _ _ => ⟨rfl, rfl⟩⟩, rfl⟩
def spFXor : FSpec := mkSpec 10 (γ := CaG) (fun | [s, t] => some ⟨⟨slLen s, lnsD s⟩, ⟨slLen t, lnsD t⟩⟩ | _ => none) (fun h => [lnsS h.a, lnsS h.b]) (fun h => lnok h.a ∧ lnok h.b) (fun _ => .bool true)
theorem ok_fXor : SpecOK Try.prog spFXor := by
  refine spec_sound (specs := [spFills, spFew, spFill, spConcat, Rgc.spXor, Rgc.spEqR]) (all_ok (⟨ok_fills, ok_few, ok_fill, ok_concat, Rgc.ok_Xor, Rgc.ok_eqR, trivial⟩)) (eqs := []) (fun _ _ h => (List.not_mem_nil h).elim) Aff.mixed Try.func10 rfl (by kernel_rfl) (fun _ _ => by kernel_rfl) (fun g => A0) (fun g => Nat.le_of_ble_eq_true (by kernel_rfl)) ?_
  rintro g hg
  refine vc_of (B := let z20 := (8 : Nat);let z17 := ((1 : Int) = (0 : Int) ∨ (1 : Int) = (1 : Int));let z15 := (4 : Nat);let z10 := (-300 : Int);let z9 := (300 : Int); let z12 := (Fla.Lns.mk (Min.min g.b.n z15) fun (i : Nat) => Fla.Li.mk (Min.min (g.b.f i).n z20) (fun (i_2 : Nat) => Con.Pt.mk (cutI ((g.b.f i).f i_2).x z10 z9) (cutI ((g.b.f i).f i_2).y z10 z9)) (g.b.f i).c); let z11 := (Fla.Lns.mk (Min.min g.a.n z15) fun (i : Nat) => Fla.Li.mk (Min.min (g.a.f i).n z20) (fun (i_2 : Nat) => Con.Pt.mk (cutI ((g.a.f i).f i_2).x z10 z9) (cutI ((g.a.f i).f i_2).y z10 z9)) (g.a.f i).c);let z8 := (Fly.insR (1 : Int));let z7 := (IntKind.i64 = IntKind.i64); let z19 := (Sx.Ask z7 ∧ Sx.Ask ((1 : Int) = (1 : Int)));let z3 := (Fla.Lns.mk (Min.min g.b.n z15) fun (i : Nat) => Fla.Li.mk (Min.min (g.b.f i).n z20) (fun (i_1 : Nat) => Con.Pt.mk (cutI ((g.b.f i).f i_1).x z10 z9) (cutI ((g.b.f i).f i_1).y z10 z9)) (g.b.f i).c); let z14 := (Flf.fillL z8 z3);let z2 := (Fla.Lns.mk (Min.min g.a.n z15) fun (i : Nat) => Fla.Li.mk (Min.min (g.a.f i).n z20) (fun (i_1 : Nat) => Con.Pt.mk (cutI ((g.a.f i).f i_1).x z10 z9) (cutI ((g.a.f i).f i_1).y z10 z9)) (g.a.f i).c); let z13 := (Flf.fillL z8 z2);let z1 := (Fla.Lns.mk (Min.min g.a.n z15 + Min.min g.b.n z15) fun (i : Nat) => let z18 := (g.b.f (i - Min.min g.a.n z15)); if i < Min.min g.a.n z15 then Fla.Li.mk (Min.min (g.a.f i).n z20) (fun (i_1 : Nat) => Con.Pt.mk (cutI ((g.a.f i).f i_1).x z10 z9) (cutI ((g.a.f i).f i_1).y z10 z9)) (g.a.f i).c else Fla.Li.mk (Min.min z18.n z20) (fun (i_1 : Nat) => Con.Pt.mk (cutI (z18.f i_1).x z10 z9) (cutI (z18.f i_1).y z10 z9)) z18.c); let z16 := (Flf.fillL z8 z1);let z0 := (Rgb.cbOut bne (Rgm.CbG.mk (Rga.Rg.mk z13.length (Rga.rI z13)) (Rga.Rg.mk z14.length (Rga.rI z14))));True ∧ (True ∧ Sx.Ask True) ∧ True ∧ True ∧ (((Sx.Ask (g.a.n = g.a.n) ∧ ∀ (i : Nat), let z27 := (g.a.f i); i < g.a.n → (True ∧ Sx.Ask (z27.n = z27.n) ∧ ∀ (i_1 : Nat), i_1 < z27.n → (True ∧ Sx.Ask z7 ∧ Sx.Ask ((z27.f i_1).x = (z27.f i_1).x)) ∧ Sx.Ask z7 ∧ Sx.Ask ((z27.f i_1).y = (z27.f i_1).y)) ∧ Sx.Ask (z27.c = z27.c)) ∧ (Sx.Ask z7 ∧ Sx.Ask (z9 = z9)) ∧ True) ∧ Sx.Ask (Flg.FwG.mk g.a z9).ok) ∧ True ∧ (((Sx.Ask (g.b.n = g.b.n) ∧ ∀ (i : Nat), let z28 := (g.b.f i); i < g.b.n → (True ∧ Sx.Ask (z28.n = z28.n) ∧ ∀ (i_1 : Nat), i_1 < z28.n → (True ∧ Sx.Ask z7 ∧ Sx.Ask ((z28.f i_1).x = (z28.f i_1).x)) ∧ Sx.Ask z7 ∧ Sx.Ask ((z28.f i_1).y = (z28.f i_1).y)) ∧ Sx.Ask (z28.c = z28.c)) ∧ (Sx.Ask z7 ∧ Sx.Ask (z9 = z9)) ∧ True) ∧ Sx.Ask (Flg.FwG.mk g.b z9).ok) ∧ True ∧ True ∧ True ∧ (((Sx.Ask (Min.min g.a.n z15 = Min.min g.a.n z15) ∧ ∀ (i : Nat), let z29 := (g.a.f i); i < Min.min g.a.n z15 → (True ∧ Sx.Ask (Min.min z29.n z20 = Min.min z29.n z20) ∧ ∀ (i_1 : Nat), i_1 < Min.min z29.n z20 → (True ∧ Sx.Ask z7 ∧ Sx.Ask (cutI (z29.f i_1).x z10 z9 = cutI (z29.f i_1).x z10 z9)) ∧ Sx.Ask z7 ∧ Sx.Ask (cutI (z29.f i_1).y z10 z9 = cutI (z29.f i_1).y z10 z9)) ∧ Sx.Ask (z29.c = z29.c)) ∧ z19 ∧ True) ∧ Sx.Ask ((z2.fin ∧ z2.E.length ≤ (1048576 : Nat)) ∧ z17)) ∧ True ∧ True ∧ True ∧ True ∧ True ∧ True ∧ (((Sx.Ask (Min.min g.b.n z15 = Min.min g.b.n z15) ∧ ∀ (i : Nat), let z30 := (g.b.f i); i < Min.min g.b.n z15 → (True ∧ Sx.Ask (Min.min z30.n z20 = Min.min z30.n z20) ∧ ∀ (i_1 : Nat), i_1 < Min.min z30.n z20 → (True ∧ Sx.Ask z7 ∧ Sx.Ask (cutI (z30.f i_1).x z10 z9 = cutI (z30.f i_1).x z10 z9)) ∧ Sx.Ask z7 ∧ Sx.Ask (cutI (z30.f i_1).y z10 z9 = cutI (z30.f i_1).y z10 z9)) ∧ Sx.Ask (z30.c = z30.c)) ∧ z19 ∧ True) ∧ Sx.Ask ((z3.fin ∧ z3.E.length ≤ (1048576 : Nat)) ∧ z17)) ∧ True ∧ True ∧ True ∧ True ∧ True ∧ True ∧ True ∧ True ∧ (((Sx.Ask ((2 : Nat) = (2 : Nat)) ∧ ∀ (i : Nat), let z25 := (i = (1 : Nat)); let z6 := (pk (CaG.mk z11 z12) i); i < (2 : Nat) → True ∧ Sx.Ask ((bif decide z25 then Min.min g.b.n z15 else Min.min g.a.n z15) = (pk (CaG.mk z2 z3) i).n) ∧ ∀ (i_1 : Nat), let z5 := ((pk (CaG.mk (Fla.Lns.mk (Min.min g.a.n z15) fun (i : Nat) => Fla.Li.mk (Min.min (g.a.f i).n z20) (fun (i_3 : Nat) => Con.Pt.mk (cutI ((g.a.f i).f i_3).x z10 z9) (cutI ((g.a.f i).f i_3).y z10 z9)) (g.a.f i).c) (Fla.Lns.mk (Min.min g.b.n z15) fun (i : Nat) => Fla.Li.mk (Min.min (g.b.f i).n z20) (fun (i_3 : Nat) => Con.Pt.mk (cutI ((g.b.f i).f i_3).x z10 z9) (cutI ((g.b.f i).f i_3).y z10 z9)) (g.b.f i).c)) i).f i_1); i_1 < z6.n → (True ∧ Sx.Ask ((bif decide z25 then Min.min (g.b.f i_1).n z20 else Min.min (g.a.f i_1).n z20) = (z6.f i_1).n) ∧ ∀ (i_2 : Nat), i_2 < z5.n → (True ∧ Sx.Ask z7 ∧ Sx.Ask ((bif decide z25 then cutI ((g.b.f i_1).f i_2).x z10 z9 else cutI ((g.a.f i_1).f i_2).x z10 z9) = (z5.f i_2).x)) ∧ Sx.Ask z7 ∧ Sx.Ask ((bif decide z25 then cutI ((g.b.f i_1).f i_2).y z10 z9 else cutI ((g.a.f i_1).f i_2).y z10 z9) = (z5.f i_2).y)) ∧ Sx.Ask ((bif decide z25 then (g.b.f i_1).c else (g.a.f i_1).c) = (z6.f i_1).c)) ∧ True) ∧ Sx.Ask (Min.min g.a.n z15 ≤ (1000 : Nat) ∧ Min.min g.b.n z15 ≤ (1000 : Nat))) ∧ (((Sx.Ask (Min.min g.a.n z15 + Min.min g.b.n z15 = Min.min g.a.n z15 + Min.min g.b.n z15) ∧ ∀ (i : Nat), let z26 := ((catG z2 z3).f i); let z4 := ((catG z11 z12).f i); i < Min.min g.a.n z15 + Min.min g.b.n z15 → (True ∧ Sx.Ask (z26.n = z26.n) ∧ ∀ (i_1 : Nat), i_1 < z4.n → (True ∧ Sx.Ask z7 ∧ Sx.Ask ((z4.f i_1).x = (z4.f i_1).x)) ∧ Sx.Ask z7 ∧ Sx.Ask ((z4.f i_1).y = (z4.f i_1).y)) ∧ Sx.Ask (z26.c = z26.c)) ∧ z19 ∧ True) ∧ Sx.Ask ((z1.fin ∧ z1.E.length ≤ (1048576 : Nat)) ∧ z17)) ∧ True ∧ True ∧ True ∧ True ∧ True ∧ True ∧ True ∧ (((Sx.Ask (z13.length = z13.length) ∧ ∀ (i : Nat), let z21 := (Rga.rI z13 i); i < z13.length → ((True ∧ Sx.Ask z7 ∧ Sx.Ask (z21.y = z21.y)) ∧ Sx.Ask z7 ∧ Sx.Ask (z21.x0 = z21.x0)) ∧ Sx.Ask z7 ∧ Sx.Ask (z21.x1 = z21.x1)) ∧ (Sx.Ask (z14.length = z14.length) ∧ ∀ (i : Nat), let z22 := (Rga.rI z14 i); i < z14.length → ((True ∧ Sx.Ask z7 ∧ Sx.Ask (z22.y = z22.y)) ∧ Sx.Ask z7 ∧ Sx.Ask (z22.x0 = z22.x0)) ∧ Sx.Ask z7 ∧ Sx.Ask (z22.x1 = z22.x1)) ∧ True) ∧ Sx.Ask (Rga.vld (Rga.Rg.mk z13.length (Rga.rI z13)).L ∧ Rga.vld (Rga.Rg.mk z14.length (Rga.rI z14)).L)) ∧ True ∧ True ∧ True ∧ True ∧ True ∧ True ∧ True ∧ True ∧ True ∧ True ∧ True ∧ True ∧ True ∧ True ∧ (((Sx.Ask (z16.length = z16.length) ∧ ∀ (i : Nat), let z23 := (Rga.rI z16 i); i < z16.length → ((True ∧ Sx.Ask z7 ∧ Sx.Ask (z23.y = z23.y)) ∧ Sx.Ask z7 ∧ Sx.Ask (z23.x0 = z23.x0)) ∧ Sx.Ask z7 ∧ Sx.Ask (z23.x1 = z23.x1)) ∧ (Sx.Ask (z0.length = z0.length) ∧ ∀ (i : Nat), let z24 := (Rga.rI z0 i); i < z0.length → ((True ∧ Sx.Ask z7 ∧ Sx.Ask (z24.y = z24.y)) ∧ Sx.Ask z7 ∧ Sx.Ask (z24.x0 = z24.x0)) ∧ Sx.Ask z7 ∧ Sx.Ask (z24.x1 = z24.x1)) ∧ True) ∧ Sx.Ask (Rgc.EqG.mk (Rga.Rg.mk z16.length (Rga.rI z16)) (Rga.Rg.mk z0.length (Rga.rI z0))).ok) ∧ True ∧ True ∧ True ∧ Sx.Ask (true = true)) (by kernel_rfl) ?_
  simp only [ask_iff, br_iff, eq_self, true_and, and_true, implies_true, forall_const, decide_eq_true_eq, decide_eq_false_iff_not, ne_eq, Nat.mul_one, Nat.add_zero, Nat.zero_add, Int.toNat_natCast, and_self, List.append_assoc, false_and, and_false]
  obtain ⟨ha, hb⟩ := hg
  have fa := G3_fin g.a
  have fb := G3_fin g.b
  have na : (G3 g.a).n ≤ 4 := Nat.min_le_right _ _
  have nb : (G3 g.b).n ≤ 4 := Nat.min_le_right _ _
  have fc := cat_fin fa fb (by omega)
  have q300 : ∀ x, lnok x → FwG.ok ⟨x, 300⟩ := fun x hx => ⟨hx, show (0 : Int) ≤ 300 by decide, show (300 : Int) ≤ 32767 by decide⟩
  refine ⟨q300 _ ha, q300 _ hb, ⟨⟨fa, E_len fa⟩, .inr trivial⟩, ⟨⟨fb, E_len fb⟩, .inr trivial⟩, ?_⟩
  have va : ∀ x, vld (Rg.L ⟨(fillL (insR 1) x).length, rI (fillL (insR 1) x)⟩) := fun x => by rw [Rg.L_of]; exact fill_vld _ _
  have key : fillL (insR 1) (catG (G3 g.a) (G3 g.b)) = Rgb.cbOut bne ⟨⟨(fillL (insR 1) (G3 g.a)).length, rI (fillL (insR 1) (G3 g.a))⟩, ⟨(fillL (insR 1) (G3 g.b)).length, rI (fillL (insR 1) (G3 g.b))⟩⟩ := by
    show fillL ins2 _ = ofSet (fun y x => bne (mem (Rg.L ⟨(fillL ins2 (G3 g.a)).length, rI (fillL ins2 (G3 g.a))⟩) y x) (mem (Rg.L ⟨(fillL ins2 (G3 g.b)).length, rI (fillL ins2 (G3 g.b))⟩) y x))
    rw [Rg.L_of, Rg.L_of]
    exact cat_fill _ _
  refine ⟨⟨fun i hi => ?_, by omega, by omega⟩, ⟨⟨fc, E_len fc⟩, .inr trivial⟩, ⟨va _, va _⟩, ?_⟩
  · match i, hi with
    | 0, _ => exact ⟨rfl, fun _ _ => ⟨⟨rfl, fun _ _ => ⟨rfl, rfl⟩⟩, rfl⟩⟩
    | 1, _ => exact ⟨rfl, fun _ _ => ⟨⟨rfl, fun _ _ => ⟨rfl, rfl⟩⟩, rfl⟩⟩
  · have fin : ∀ L M : List Rn, L = M → vld (Rg.L ⟨L.length, rI L⟩) → (⟨⟨L.length, rI L⟩, ⟨M.length, rI M⟩⟩ : Rgc.EqG).ok := fun L M e hv => by
      subst e
      exact ⟨hv, rfl⟩
    exact fin _ _ key (va (catG (G3 g.a) (G3 g.b)))
end Go.Proofs.Ytppdojjhegiffaa.Fmx
