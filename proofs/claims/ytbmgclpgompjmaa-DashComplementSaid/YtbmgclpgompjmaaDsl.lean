/- printworkskeep1.DashPeriod, by the evaluation. -/
import Derived.Test.YtbmgclpgompjmaaDsk
set_option linter.unusedSimpArgs false
set_option linter.unusedVariables false
namespace Go.Proofs.Ytbmgclpgompjmaa.Dsl
open Go.RowKit Sx Num Aff Con Dsh Dsi Dsj Dsk
set_option maxRecDepth 100000
theorem at_period {l : Li} {n : Nat} {p : Nat → Int} {x y : Int} (h : x % DaG.turn ⟨l, n, p, x⟩ = y % DaG.turn ⟨l, n, p, y⟩) : ∀ i, DaG.at ⟨l, n, p, x⟩ i = DaG.at ⟨l, n, p, y⟩ i
  | 0 => by show -(x % _) = -(y % _); rw [h]
  | i + 1 => by show DaG.at ⟨l, n, p, x⟩ i + _ = DaG.at ⟨l, n, p, y⟩ i + _; rw [at_period h i]
theorem out_period {l : Li} {n : Nat} {p : Nat → Int} {x y : Int} (h : x % DaG.turn ⟨l, n, p, x⟩ = y % DaG.turn ⟨l, n, p, y⟩) : ∀ i, DaG.out ⟨l, n, p, x⟩ i = DaG.out ⟨l, n, p, y⟩ i
  | 0 => rfl
  | i + 1 => by
    have ha : ∀ i, DaG.a ⟨l, n, p, x⟩ i = DaG.a ⟨l, n, p, y⟩ i := fun i => by unfold DaG.a; rw [at_period h i]
    have hb : ∀ i, DaG.b ⟨l, n, p, x⟩ i = DaG.b ⟨l, n, p, y⟩ i := fun i => by unfold DaG.b; rw [at_period h (i + 1)]; rfl
    have hT : DaG.T ⟨l, n, p, x⟩ i = DaG.T ⟨l, n, p, y⟩ i := by unfold DaG.T; rw [ha, hb]
    have hon : DaG.on ⟨l, n, p, x⟩ i ↔ DaG.on ⟨l, n, p, y⟩ i := by unfold DaG.on; rw [ha, hb]
    show (if DaG.on ⟨l, n, p, x⟩ i then DaG.out ⟨l, n, p, x⟩ i ++ [DaG.T ⟨l, n, p, x⟩ i] else DaG.out ⟨l, n, p, x⟩ i) = if DaG.on ⟨l, n, p, y⟩ i then DaG.out ⟨l, n, p, y⟩ i ++ [DaG.T ⟨l, n, p, y⟩ i] else DaG.out ⟨l, n, p, y⟩ i
    rw [out_period h i, hT]
    by_cases hc : DaG.on ⟨l, n, p, y⟩ i
    · rw [if_pos hc, if_pos (hon.2 hc)]
    · rw [if_neg hc, if_neg (fun hx => hc (hon.1 hx))]
theorem tk_len {a b : Int} : ∀ (m : Nat) (s : Nat → Sd) (L : List Pt), (tk s a b m L).length ≤ L.length + m + 1
  | 0, _, L => by show L.length ≤ _; omega
  | m + 1, s, L => by
    show (if _ then _ else _ : List Pt).length ≤ _
    split
    · rw [List.length_append, List.length_singleton]; omega
    · refine Nat.le_trans (tk_len m _ _) ?_
      split
      · rw [List.length_append, List.length_singleton]; omega
      · omega
theorem T_len (g : DaG) (i : Nat) : (g.T i).length ≤ g.l.m + 2 := by
  refine Nat.le_trans (tk_len _ _ _) ?_
  simp only [List.length_singleton]
  omega
theorem out_len (g : DaG) : ∀ i, (g.out i).length ≤ i ∧ ∀ x ∈ g.out i, x.length ≤ g.l.m + 2
  | 0 => ⟨Nat.le_refl 0, fun x hx => nomatch hx⟩
  | i + 1 => by
    have ih := out_len g i
    show (if g.on i then g.out i ++ [g.T i] else g.out i).length ≤ i + 1 ∧ ∀ x ∈ (if g.on i then g.out i ++ [g.T i] else g.out i), _
    split
    · refine ⟨by rw [List.length_append, List.length_singleton]; omega, fun x hx => ?_⟩
      rcases List.mem_append.1 hx with hx | hx
      · exact ih.2 x hx
      · rw [List.mem_singleton.1 hx]; exact T_len g i
    · exact ⟨by omega, ih.2⟩
theorem dI_len {D : List (List Pt)} {B : Nat} (h : ∀ x ∈ D, x.length ≤ B) (j : Nat) : (dI D j).length ≤ B := by
  unfold dI
  rw [List.getD_eq_getElem?_getD]
  cases hd : D[j]? with
  | none => exact Nat.zero_le _
  | some x => exact h x (List.mem_of_getElem? hd)
theorem outs_in {g : DaG} (h : g.ok) : (g.out g.N).length ≤ 100000 ∧ ∀ j, (dI (g.out g.N) j).length ≤ 11 := by
  have h1 := out_len g g.N
  have h2 := g.E_ok h
  have h3 := g.turn_ok h
  have h4 := Li.m_le g.l
  have h5 := h.1.1.1
  refine ⟨?_, fun j => Nat.le_trans (dI_len h1.2 j) (by omega)⟩
  have : g.N ≤ 100000 := by unfold DaG.N; omega
  omega
theorem fwL_ok (l : Li) : Li.ok (fwL 500 l) := by
  refine ⟨?_, fun j _ => ⟨cutI_range _ (-500) 500 (by decide), cutI_range _ (-500) 500 (by decide)⟩⟩
  show min l.n 8 ≤ 9
  omega
structure PeG where
  g : Lns
  n : Nat
  p : Nat → Int
  ph : Int
def PeG.ok (g : PeG) : Prop := (g.g.n ≤ 9223372036854775807 ∧ ∀ i, i < g.g.n → (g.g.f i).n ≤ 9223372036854775807) ∧ g.n ≤ 9223372036854775807
/-- The line and the pattern are laid. -/
def _root_.Go.Proofs.Ytbmgclpgompjmaa.Dsj.DaG.pre (g : DaG) : Prop := (g.l.ok ∧ 1 ≤ g.n ∧ g.n ≤ 6) ∧ ∀ i, i < g.n → 3 ≤ g.p i ∧ g.p i ≤ 50
def peT (g : DaG) : List (Nat × SV) := [(1, patS g), (2, .int .i64 g.ph), (7, .own 0 0)]
def peO (g : DaG) : List SO := [.cells 2 (lst (liL g.l)) 62]
def pe7 : Inv := ⟨DaG, DaG.pre, fun g => ⟨peT g, peO g⟩, fun _ => 0⟩
structure PsG where
  g : DaG
  i : Nat
def pe9 : Inv := ⟨PsG, fun c => c.g.pre ∧ c.i ≤ c.g.n, fun c => ⟨[(8, .int .i64 (c.g.sum c.i)), (28, patS c.g), (29, .int .i64 c.g.n), (30, .int .i64 c.i)] ++ peT c.g, peO c.g⟩, fun c => c.g.n - c.i⟩
def pe15 : Inv := ⟨DaG, DaG.pre, fun g => ⟨(8, .int .i64 g.turn) :: peT g, peO g⟩, fun _ => 0⟩
def spPe : FSpec := mkSpec 8 (γ := PeG) (fun | [s, t, .int _ x] => some ⟨⟨slLen s, lnsD s⟩, slLen t, inD t, x⟩ | _ => none) (fun g => [lnsS g.g, paS ⟨g.n, g.p⟩, .int .i64 g.ph]) PeG.ok (fun _ => .bool true)
theorem ok_pe : SpecOK Try.prog spPe := by
  refine spec_sound (specs := [spDashes, spPattern, spFew, spCut, spDash, spEqualF]) (all_ok (⟨ok_dashes, ok_pattern, ok_few, ok_cut, ok_dash, ok_equalF, trivial⟩)) (eqs := []) (fun _ _ h => (List.not_mem_nil h).elim) Aff.mixed Try.func8 rfl (by kernel_rfl) (fun _ _ => by kernel_rfl) (fun g => (⟨[(7, .cut pe7), (9, .inv pe9), (15, .cut pe15)], []⟩ : Ann)) (fun g => Nat.le_of_ble_eq_true (by kernel_rfl)) ?_
  rintro g hg
  refine vc_of (B := True ∧ (True ∧ Sx.Ask True) ∧ True ∧ True ∧ True ∧ (((Sx.Ask (g.n = g.n) ∧ ∀ (i : Nat), i < g.n → True ∧ Sx.Ask (IntKind.i64 = IntKind.i64) ∧ Sx.Ask (g.p i = g.p i)) ∧ True) ∧ Sx.Ask (g.n ≤ (9223372036854775807 : Nat))) ∧ True ∧ True ∧ True ∧ (True ∧ (((Sx.Ask (g.g.n = g.g.n) ∧ ∀ (i : Nat), i < g.g.n → (True ∧ Sx.Ask ((g.g.f i).n = (g.g.f i).n) ∧ ∀ (i_1 : Nat), i_1 < (g.g.f i).n → (True ∧ Sx.Ask (IntKind.i64 = IntKind.i64) ∧ Sx.Ask (((g.g.f i).f i_1).x = ((g.g.f i).f i_1).x)) ∧ Sx.Ask (IntKind.i64 = IntKind.i64) ∧ Sx.Ask (((g.g.f i).f i_1).y = ((g.g.f i).f i_1).y)) ∧ Sx.Ask ((g.g.f i).c = (g.g.f i).c)) ∧ (Sx.Ask (IntKind.i64 = IntKind.i64) ∧ Sx.Ask ((500 : Int) = (500 : Int))) ∧ True) ∧ Sx.Ask (Go.Proofs.Ytbmgclpgompjmaa.Dsk.FwG.mk g.g (500 : Int)).ok) ∧ True ∧ True ∧ True ∧ True ∧ Sx.Br (decide ((0 : Int) < (↑(Min.min g.g.n (4 : Nat)) : Int))) (True ∧ Sx.Ask ((0 : Int) ≤ (0 : Int) ∧ (0 : Int) < (↑(Min.min g.g.n (4 : Nat)) : Int)) ∧ True ∧ True ∧ ∃ (g_1 : Go.Proofs.Ytbmgclpgompjmaa.Dsj.DaG), Sx.Ask (pe7.pre g_1) ∧ ((Sx.Ask (Min.min g.n (5 : Nat) + (1 : Nat) = g_1.n) ∧ ∀ (i : Nat), i < g_1.n → True ∧ Sx.Ask (IntKind.i64 = IntKind.i64) ∧ Sx.Ask ((Go.Proofs.Ytbmgclpgompjmaa.Dsk.PaG.mk g.n g.p).out.p i = g_1.p i)) ∧ (Sx.Ask (IntKind.i64 = IntKind.i64) ∧ Sx.Ask (g.ph = g_1.ph)) ∧ Sx.Ask ((0 : Nat) = (0 : Nat)) ∧ True) ∧ ((True ∧ Sx.Ask (Min.min (g.g.f (Int.toNat (0 : Int))).n (8 : Nat) = g_1.l.n) ∧ ∀ (i : Nat), i < g_1.l.n → (True ∧ Sx.Ask (IntKind.i64 = IntKind.i64) ∧ Sx.Ask (cutI ((g.g.f (Int.toNat (0 : Int))).f i).x (-500 : Int) (500 : Int) = (g_1.l.f i).x)) ∧ Sx.Ask (IntKind.i64 = IntKind.i64) ∧ Sx.Ask (cutI ((g.g.f (Int.toNat (0 : Int))).f i).y (-500 : Int) (500 : Int) = (g_1.l.f i).y)) ∧ Sx.Ask ((g.g.f (Int.toNat (0 : Int))).c = g_1.l.c)) ∧ True) (∃ (g_1 : Go.Proofs.Ytbmgclpgompjmaa.Dsj.DaG), Sx.Ask (pe7.pre g_1) ∧ ((Sx.Ask (Min.min g.n (5 : Nat) + (1 : Nat) = g_1.n) ∧ ∀ (i : Nat), i < g_1.n → True ∧ Sx.Ask (IntKind.i64 = IntKind.i64) ∧ Sx.Ask ((Go.Proofs.Ytbmgclpgompjmaa.Dsk.PaG.mk g.n g.p).out.p i = g_1.p i)) ∧ (Sx.Ask (IntKind.i64 = IntKind.i64) ∧ Sx.Ask (g.ph = g_1.ph)) ∧ Sx.Ask ((0 : Nat) = (0 : Nat)) ∧ True) ∧ ((True ∧ Sx.Ask (g_1.l.n = (0 : Nat))) ∧ Sx.Ask (false = g_1.l.c)) ∧ True)) ∧ ∀ (g : Go.Proofs.Ytbmgclpgompjmaa.Dsj.DaG), pe7.pre g → True ∧ True ∧ True ∧ True ∧ (∃ (g_1 : PsG), Sx.Ask (pe9.pre g_1) ∧ ((Sx.Ask (IntKind.i64 = IntKind.i64) ∧ Sx.Ask ((0 : Int) = g_1.g.sum g_1.i)) ∧ (Sx.Ask (g.n = g_1.g.n) ∧ ∀ (i : Nat), i < g_1.g.n → True ∧ Sx.Ask (IntKind.i64 = IntKind.i64) ∧ Sx.Ask (g.p i = g_1.g.p i)) ∧ (Sx.Ask (IntKind.i64 = IntKind.i64) ∧ Sx.Ask ((↑g.n : Int) = (↑g_1.g.n : Int))) ∧ (Sx.Ask (IntKind.i64 = IntKind.i64) ∧ Sx.Ask ((0 : Int) = (↑g_1.i : Int))) ∧ (Sx.Ask (g.n = g_1.g.n) ∧ ∀ (i : Nat), i < g_1.g.n → True ∧ Sx.Ask (IntKind.i64 = IntKind.i64) ∧ Sx.Ask (g.p i = g_1.g.p i)) ∧ (Sx.Ask (IntKind.i64 = IntKind.i64) ∧ Sx.Ask (g.ph = g_1.g.ph)) ∧ Sx.Ask ((0 : Nat) = (0 : Nat)) ∧ True) ∧ ((True ∧ Sx.Ask (g.l.n = g_1.g.l.n) ∧ ∀ (i : Nat), i < g_1.g.l.n → (True ∧ Sx.Ask (IntKind.i64 = IntKind.i64) ∧ Sx.Ask ((g.l.f i).x = (g_1.g.l.f i).x)) ∧ Sx.Ask (IntKind.i64 = IntKind.i64) ∧ Sx.Ask ((g.l.f i).y = (g_1.g.l.f i).y)) ∧ Sx.Ask (g.l.c = g_1.g.l.c)) ∧ True) ∧ ∀ (g : PsG), pe9.pre g → True ∧ Sx.Br (decide ((↑g.i : Int) < (↑g.g.n : Int))) (Sx.Ask ((0 : Int) ≤ (↑g.i : Int) ∧ (↑g.i : Int) < (↑g.g.n : Int)) ∧ True ∧ True ∧ True ∧ True ∧ Sx.Ask ((-9223372036854775808 : Int) ≤ g.g.sum g.i + g.g.p (↑g.i : Int).toNat ∧ g.g.sum g.i + g.g.p (↑g.i : Int).toNat ≤ (9223372036854775807 : Int)) ∧ True ∧ Sx.Ask ((-9223372036854775808 : Int) ≤ (↑g.i : Int) + (1 : Int) ∧ (↑g.i : Int) + (1 : Int) ≤ (9223372036854775807 : Int)) ∧ True ∧ ∃ (g' : PsG), Sx.Ask (pe9.pre g') ∧ (((Sx.Ask (IntKind.i64 = IntKind.i64) ∧ Sx.Ask (g.g.sum g.i + g.g.p (↑g.i : Int).toNat = g'.g.sum g'.i)) ∧ (Sx.Ask (g.g.n = g'.g.n) ∧ ∀ (i : Nat), i < g'.g.n → True ∧ Sx.Ask (IntKind.i64 = IntKind.i64) ∧ Sx.Ask (g.g.p i = g'.g.p i)) ∧ (Sx.Ask (IntKind.i64 = IntKind.i64) ∧ Sx.Ask ((↑g.g.n : Int) = (↑g'.g.n : Int))) ∧ (Sx.Ask (IntKind.i64 = IntKind.i64) ∧ Sx.Ask ((↑g.i : Int) + (1 : Int) = (↑g'.i : Int))) ∧ (Sx.Ask (g.g.n = g'.g.n) ∧ ∀ (i : Nat), i < g'.g.n → True ∧ Sx.Ask (IntKind.i64 = IntKind.i64) ∧ Sx.Ask (g.g.p i = g'.g.p i)) ∧ (Sx.Ask (IntKind.i64 = IntKind.i64) ∧ Sx.Ask (g.g.ph = g'.g.ph)) ∧ Sx.Ask ((0 : Nat) = (0 : Nat)) ∧ True) ∧ ((True ∧ Sx.Ask (g.g.l.n = g'.g.l.n) ∧ ∀ (i : Nat), i < g'.g.l.n → (True ∧ Sx.Ask (IntKind.i64 = IntKind.i64) ∧ Sx.Ask ((g.g.l.f i).x = (g'.g.l.f i).x)) ∧ Sx.Ask (IntKind.i64 = IntKind.i64) ∧ Sx.Ask ((g.g.l.f i).y = (g'.g.l.f i).y)) ∧ Sx.Ask (g.g.l.c = g'.g.l.c)) ∧ True) ∧ Sx.Ask (pe9.meas g' < pe9.meas g)) ((True ∧ True ∧ Sx.Ask ((2 : Int) ≠ (0 : Int)) ∧ True ∧ Sx.Br (decide ((↑g.g.n : Int).tmod (2 : Int) = (1 : Int))) (True ∧ Sx.Ask ((-9223372036854775808 : Int) ≤ g.g.sum g.i * (2 : Int) ∧ g.g.sum g.i * (2 : Int) ≤ (9223372036854775807 : Int)) ∧ True ∧ ∃ (g_1 : Go.Proofs.Ytbmgclpgompjmaa.Dsj.DaG), Sx.Ask (pe15.pre g_1) ∧ ((Sx.Ask (IntKind.i64 = IntKind.i64) ∧ Sx.Ask (g.g.sum g.i * (2 : Int) = g_1.turn)) ∧ (Sx.Ask (g.g.n = g_1.n) ∧ ∀ (i : Nat), i < g_1.n → True ∧ Sx.Ask (IntKind.i64 = IntKind.i64) ∧ Sx.Ask (g.g.p i = g_1.p i)) ∧ (Sx.Ask (IntKind.i64 = IntKind.i64) ∧ Sx.Ask (g.g.ph = g_1.ph)) ∧ Sx.Ask ((0 : Nat) = (0 : Nat)) ∧ True) ∧ ((True ∧ Sx.Ask (g.g.l.n = g_1.l.n) ∧ ∀ (i : Nat), i < g_1.l.n → (True ∧ Sx.Ask (IntKind.i64 = IntKind.i64) ∧ Sx.Ask ((g.g.l.f i).x = (g_1.l.f i).x)) ∧ Sx.Ask (IntKind.i64 = IntKind.i64) ∧ Sx.Ask ((g.g.l.f i).y = (g_1.l.f i).y)) ∧ Sx.Ask (g.g.l.c = g_1.l.c)) ∧ True) (∃ (g_1 : Go.Proofs.Ytbmgclpgompjmaa.Dsj.DaG), Sx.Ask (pe15.pre g_1) ∧ ((Sx.Ask (IntKind.i64 = IntKind.i64) ∧ Sx.Ask (g.g.sum g.i = g_1.turn)) ∧ (Sx.Ask (g.g.n = g_1.n) ∧ ∀ (i : Nat), i < g_1.n → True ∧ Sx.Ask (IntKind.i64 = IntKind.i64) ∧ Sx.Ask (g.g.p i = g_1.p i)) ∧ (Sx.Ask (IntKind.i64 = IntKind.i64) ∧ Sx.Ask (g.g.ph = g_1.ph)) ∧ Sx.Ask ((0 : Nat) = (0 : Nat)) ∧ True) ∧ ((True ∧ Sx.Ask (g.g.l.n = g_1.l.n) ∧ ∀ (i : Nat), i < g_1.l.n → (True ∧ Sx.Ask (IntKind.i64 = IntKind.i64) ∧ Sx.Ask ((g.g.l.f i).x = (g_1.l.f i).x)) ∧ Sx.Ask (IntKind.i64 = IntKind.i64) ∧ Sx.Ask ((g.g.l.f i).y = (g_1.l.f i).y)) ∧ Sx.Ask (g.g.l.c = g_1.l.c)) ∧ True)) ∧ ∀ (g : Go.Proofs.Ytbmgclpgompjmaa.Dsj.DaG), pe15.pre g → True ∧ (((Sx.Ask (IntKind.i64 = IntKind.i64) ∧ Sx.Ask (g.ph = g.ph)) ∧ (Sx.Ask (IntKind.i64 = IntKind.i64) ∧ Sx.Ask ((0 : Int) = (0 : Int))) ∧ (Sx.Ask (IntKind.i64 = IntKind.i64) ∧ Sx.Ask ((100000 : Int) = (100000 : Int))) ∧ True) ∧ Sx.Ask (((-2305843009213693952 : Int) ≤ (0 : Int) ∧ (0 : Int) ≤ (100000 : Int)) ∧ (100000 : Int) ≤ (4611686018427387903 : Int) ∧ (100000 : Int) - (0 : Int) ≤ (4611686018427387903 : Int))) ∧ True ∧ True ∧ True ∧ True ∧ ((((True ∧ Sx.Ask (g.l.n = g.l.n) ∧ ∀ (i : Nat), i < g.l.n → (True ∧ Sx.Ask (IntKind.i64 = IntKind.i64) ∧ Sx.Ask ((g.l.f i).x = (g.l.f i).x)) ∧ Sx.Ask (IntKind.i64 = IntKind.i64) ∧ Sx.Ask ((g.l.f i).y = (g.l.f i).y)) ∧ Sx.Ask (g.l.c = g.l.c)) ∧ (Sx.Ask (g.n = g.n) ∧ ∀ (i : Nat), i < g.n → True ∧ Sx.Ask (IntKind.i64 = IntKind.i64) ∧ Sx.Ask (g.p i = g.p i)) ∧ (Sx.Ask (IntKind.i64 = IntKind.i64) ∧ Sx.Ask (cutI g.ph (0 : Int) (100000 : Int) = cutI g.ph (0 : Int) (100000 : Int))) ∧ True) ∧ Sx.Ask (Go.Proofs.Ytbmgclpgompjmaa.Dsj.DaG.mk g.l g.n g.p (cutI g.ph (0 : Int) (100000 : Int))).ok) ∧ True ∧ True ∧ True ∧ True ∧ True ∧ True ∧ True ∧ True ∧ True ∧ Sx.Ask ((-9223372036854775808 : Int) ≤ cutI g.ph (0 : Int) (100000 : Int) + g.turn ∧ cutI g.ph (0 : Int) (100000 : Int) + g.turn ≤ (9223372036854775807 : Int)) ∧ ((((True ∧ Sx.Ask (g.l.n = g.l.n) ∧ ∀ (i : Nat), i < g.l.n → (True ∧ Sx.Ask (IntKind.i64 = IntKind.i64) ∧ Sx.Ask ((g.l.f i).x = (g.l.f i).x)) ∧ Sx.Ask (IntKind.i64 = IntKind.i64) ∧ Sx.Ask ((g.l.f i).y = (g.l.f i).y)) ∧ Sx.Ask (g.l.c = g.l.c)) ∧ (Sx.Ask (g.n = g.n) ∧ ∀ (i : Nat), i < g.n → True ∧ Sx.Ask (IntKind.i64 = IntKind.i64) ∧ Sx.Ask (g.p i = g.p i)) ∧ (Sx.Ask (IntKind.i64 = IntKind.i64) ∧ Sx.Ask (cutI g.ph (0 : Int) (100000 : Int) + g.turn = cutI g.ph (0 : Int) (100000 : Int) + g.turn)) ∧ True) ∧ Sx.Ask (Go.Proofs.Ytbmgclpgompjmaa.Dsj.DaG.mk g.l g.n g.p (cutI g.ph (0 : Int) (100000 : Int) + g.turn)).ok) ∧ True ∧ True ∧ True ∧ True ∧ True ∧ True ∧ True ∧ True ∧ True ∧ True ∧ True ∧ True ∧ True ∧ True ∧ (((Sx.Ask (((Go.Proofs.Ytbmgclpgompjmaa.Dsj.DaG.mk g.l g.n g.p (cutI g.ph (0 : Int) (100000 : Int))).out (Go.Proofs.Ytbmgclpgompjmaa.Dsj.DaG.mk g.l g.n g.p (cutI g.ph (0 : Int) (100000 : Int))).N).length = ((Go.Proofs.Ytbmgclpgompjmaa.Dsj.DaG.mk g.l g.n g.p (cutI g.ph (0 : Int) (100000 : Int))).out (Go.Proofs.Ytbmgclpgompjmaa.Dsj.DaG.mk g.l g.n g.p (cutI g.ph (0 : Int) (100000 : Int))).N).length) ∧ ∀ (i : Nat), i < ((Go.Proofs.Ytbmgclpgompjmaa.Dsj.DaG.mk g.l g.n g.p (cutI g.ph (0 : Int) (100000 : Int))).out (Go.Proofs.Ytbmgclpgompjmaa.Dsj.DaG.mk g.l g.n g.p (cutI g.ph (0 : Int) (100000 : Int))).N).length → (True ∧ Sx.Ask ((Go.Proofs.Ytbmgclpgompjmaa.Dsj.dI ((Go.Proofs.Ytbmgclpgompjmaa.Dsj.DaG.mk g.l g.n g.p (cutI g.ph (0 : Int) (100000 : Int))).out (Go.Proofs.Ytbmgclpgompjmaa.Dsj.DaG.mk g.l g.n g.p (cutI g.ph (0 : Int) (100000 : Int))).N) i).length = (Go.Proofs.Ytbmgclpgompjmaa.Dsj.dI ((Go.Proofs.Ytbmgclpgompjmaa.Dsj.DaG.mk g.l g.n g.p (cutI g.ph (0 : Int) (100000 : Int))).out (Go.Proofs.Ytbmgclpgompjmaa.Dsj.DaG.mk g.l g.n g.p (cutI g.ph (0 : Int) (100000 : Int))).N) i).length) ∧ ∀ (i_1 : Nat), i_1 < (Go.Proofs.Ytbmgclpgompjmaa.Dsj.dI ((Go.Proofs.Ytbmgclpgompjmaa.Dsj.DaG.mk g.l g.n g.p (cutI g.ph (0 : Int) (100000 : Int))).out (Go.Proofs.Ytbmgclpgompjmaa.Dsj.DaG.mk g.l g.n g.p (cutI g.ph (0 : Int) (100000 : Int))).N) i).length → (True ∧ Sx.Ask (IntKind.i64 = IntKind.i64) ∧ Sx.Ask ((Go.Proofs.Ytbmgclpgompjmaa.Dsi.ptI (Go.Proofs.Ytbmgclpgompjmaa.Dsj.dI ((Go.Proofs.Ytbmgclpgompjmaa.Dsj.DaG.mk g.l g.n g.p (cutI g.ph (0 : Int) (100000 : Int))).out (Go.Proofs.Ytbmgclpgompjmaa.Dsj.DaG.mk g.l g.n g.p (cutI g.ph (0 : Int) (100000 : Int))).N) i) i_1).x = (Go.Proofs.Ytbmgclpgompjmaa.Dsi.ptI (Go.Proofs.Ytbmgclpgompjmaa.Dsj.dI ((Go.Proofs.Ytbmgclpgompjmaa.Dsj.DaG.mk g.l g.n g.p (cutI g.ph (0 : Int) (100000 : Int))).out (Go.Proofs.Ytbmgclpgompjmaa.Dsj.DaG.mk g.l g.n g.p (cutI g.ph (0 : Int) (100000 : Int))).N) i) i_1).x)) ∧ Sx.Ask (IntKind.i64 = IntKind.i64) ∧ Sx.Ask ((Go.Proofs.Ytbmgclpgompjmaa.Dsi.ptI (Go.Proofs.Ytbmgclpgompjmaa.Dsj.dI ((Go.Proofs.Ytbmgclpgompjmaa.Dsj.DaG.mk g.l g.n g.p (cutI g.ph (0 : Int) (100000 : Int))).out (Go.Proofs.Ytbmgclpgompjmaa.Dsj.DaG.mk g.l g.n g.p (cutI g.ph (0 : Int) (100000 : Int))).N) i) i_1).y = (Go.Proofs.Ytbmgclpgompjmaa.Dsi.ptI (Go.Proofs.Ytbmgclpgompjmaa.Dsj.dI ((Go.Proofs.Ytbmgclpgompjmaa.Dsj.DaG.mk g.l g.n g.p (cutI g.ph (0 : Int) (100000 : Int))).out (Go.Proofs.Ytbmgclpgompjmaa.Dsj.DaG.mk g.l g.n g.p (cutI g.ph (0 : Int) (100000 : Int))).N) i) i_1).y)) ∧ Sx.Ask (false = false)) ∧ (Sx.Ask (((Go.Proofs.Ytbmgclpgompjmaa.Dsj.DaG.mk g.l g.n g.p (cutI g.ph (0 : Int) (100000 : Int) + g.turn)).out (Go.Proofs.Ytbmgclpgompjmaa.Dsj.DaG.mk g.l g.n g.p (cutI g.ph (0 : Int) (100000 : Int) + g.turn)).N).length = ((Go.Proofs.Ytbmgclpgompjmaa.Dsj.DaG.mk g.l g.n g.p (cutI g.ph (0 : Int) (100000 : Int) + g.turn)).out (Go.Proofs.Ytbmgclpgompjmaa.Dsj.DaG.mk g.l g.n g.p (cutI g.ph (0 : Int) (100000 : Int) + g.turn)).N).length) ∧ ∀ (i : Nat), i < ((Go.Proofs.Ytbmgclpgompjmaa.Dsj.DaG.mk g.l g.n g.p (cutI g.ph (0 : Int) (100000 : Int) + g.turn)).out (Go.Proofs.Ytbmgclpgompjmaa.Dsj.DaG.mk g.l g.n g.p (cutI g.ph (0 : Int) (100000 : Int) + g.turn)).N).length → (True ∧ Sx.Ask ((Go.Proofs.Ytbmgclpgompjmaa.Dsj.dI ((Go.Proofs.Ytbmgclpgompjmaa.Dsj.DaG.mk g.l g.n g.p (cutI g.ph (0 : Int) (100000 : Int) + g.turn)).out (Go.Proofs.Ytbmgclpgompjmaa.Dsj.DaG.mk g.l g.n g.p (cutI g.ph (0 : Int) (100000 : Int) + g.turn)).N) i).length = (Go.Proofs.Ytbmgclpgompjmaa.Dsj.dI ((Go.Proofs.Ytbmgclpgompjmaa.Dsj.DaG.mk g.l g.n g.p (cutI g.ph (0 : Int) (100000 : Int) + g.turn)).out (Go.Proofs.Ytbmgclpgompjmaa.Dsj.DaG.mk g.l g.n g.p (cutI g.ph (0 : Int) (100000 : Int) + g.turn)).N) i).length) ∧ ∀ (i_1 : Nat), i_1 < (Go.Proofs.Ytbmgclpgompjmaa.Dsj.dI ((Go.Proofs.Ytbmgclpgompjmaa.Dsj.DaG.mk g.l g.n g.p (cutI g.ph (0 : Int) (100000 : Int) + g.turn)).out (Go.Proofs.Ytbmgclpgompjmaa.Dsj.DaG.mk g.l g.n g.p (cutI g.ph (0 : Int) (100000 : Int) + g.turn)).N) i).length → (True ∧ Sx.Ask (IntKind.i64 = IntKind.i64) ∧ Sx.Ask ((Go.Proofs.Ytbmgclpgompjmaa.Dsi.ptI (Go.Proofs.Ytbmgclpgompjmaa.Dsj.dI ((Go.Proofs.Ytbmgclpgompjmaa.Dsj.DaG.mk g.l g.n g.p (cutI g.ph (0 : Int) (100000 : Int) + g.turn)).out (Go.Proofs.Ytbmgclpgompjmaa.Dsj.DaG.mk g.l g.n g.p (cutI g.ph (0 : Int) (100000 : Int) + g.turn)).N) i) i_1).x = (Go.Proofs.Ytbmgclpgompjmaa.Dsi.ptI (Go.Proofs.Ytbmgclpgompjmaa.Dsj.dI ((Go.Proofs.Ytbmgclpgompjmaa.Dsj.DaG.mk g.l g.n g.p (cutI g.ph (0 : Int) (100000 : Int) + g.turn)).out (Go.Proofs.Ytbmgclpgompjmaa.Dsj.DaG.mk g.l g.n g.p (cutI g.ph (0 : Int) (100000 : Int) + g.turn)).N) i) i_1).x)) ∧ Sx.Ask (IntKind.i64 = IntKind.i64) ∧ Sx.Ask ((Go.Proofs.Ytbmgclpgompjmaa.Dsi.ptI (Go.Proofs.Ytbmgclpgompjmaa.Dsj.dI ((Go.Proofs.Ytbmgclpgompjmaa.Dsj.DaG.mk g.l g.n g.p (cutI g.ph (0 : Int) (100000 : Int) + g.turn)).out (Go.Proofs.Ytbmgclpgompjmaa.Dsj.DaG.mk g.l g.n g.p (cutI g.ph (0 : Int) (100000 : Int) + g.turn)).N) i) i_1).y = (Go.Proofs.Ytbmgclpgompjmaa.Dsi.ptI (Go.Proofs.Ytbmgclpgompjmaa.Dsj.dI ((Go.Proofs.Ytbmgclpgompjmaa.Dsj.DaG.mk g.l g.n g.p (cutI g.ph (0 : Int) (100000 : Int) + g.turn)).out (Go.Proofs.Ytbmgclpgompjmaa.Dsj.DaG.mk g.l g.n g.p (cutI g.ph (0 : Int) (100000 : Int) + g.turn)).N) i) i_1).y)) ∧ Sx.Ask (false = false)) ∧ (Sx.Ask ((34 : Nat) = (34 : Go.FuncId)) ∧ True) ∧ True) ∧ Sx.Ask (Go.Proofs.Ytbmgclpgompjmaa.Dsk.LsEq.mk (Go.Proofs.Ytbmgclpgompjmaa.Dsi.Lns.mk ((Go.Proofs.Ytbmgclpgompjmaa.Dsj.DaG.mk g.l g.n g.p (cutI g.ph (0 : Int) (100000 : Int))).out (Go.Proofs.Ytbmgclpgompjmaa.Dsj.DaG.mk g.l g.n g.p (cutI g.ph (0 : Int) (100000 : Int))).N).length fun (i : Nat) => Go.Proofs.Ytbmgclpgompjmaa.Dsh.Li.mk (Go.Proofs.Ytbmgclpgompjmaa.Dsj.dI ((Go.Proofs.Ytbmgclpgompjmaa.Dsj.DaG.mk g.l g.n g.p (cutI g.ph (0 : Int) (100000 : Int))).out (Go.Proofs.Ytbmgclpgompjmaa.Dsj.DaG.mk g.l g.n g.p (cutI g.ph (0 : Int) (100000 : Int))).N) i).length (Go.Proofs.Ytbmgclpgompjmaa.Dsi.ptI (Go.Proofs.Ytbmgclpgompjmaa.Dsj.dI ((Go.Proofs.Ytbmgclpgompjmaa.Dsj.DaG.mk g.l g.n g.p (cutI g.ph (0 : Int) (100000 : Int))).out (Go.Proofs.Ytbmgclpgompjmaa.Dsj.DaG.mk g.l g.n g.p (cutI g.ph (0 : Int) (100000 : Int))).N) i)) false) (Go.Proofs.Ytbmgclpgompjmaa.Dsi.Lns.mk ((Go.Proofs.Ytbmgclpgompjmaa.Dsj.DaG.mk g.l g.n g.p (cutI g.ph (0 : Int) (100000 : Int) + g.turn)).out (Go.Proofs.Ytbmgclpgompjmaa.Dsj.DaG.mk g.l g.n g.p (cutI g.ph (0 : Int) (100000 : Int) + g.turn)).N).length fun (i : Nat) => Go.Proofs.Ytbmgclpgompjmaa.Dsh.Li.mk (Go.Proofs.Ytbmgclpgompjmaa.Dsj.dI ((Go.Proofs.Ytbmgclpgompjmaa.Dsj.DaG.mk g.l g.n g.p (cutI g.ph (0 : Int) (100000 : Int) + g.turn)).out (Go.Proofs.Ytbmgclpgompjmaa.Dsj.DaG.mk g.l g.n g.p (cutI g.ph (0 : Int) (100000 : Int) + g.turn)).N) i).length (Go.Proofs.Ytbmgclpgompjmaa.Dsi.ptI (Go.Proofs.Ytbmgclpgompjmaa.Dsj.dI ((Go.Proofs.Ytbmgclpgompjmaa.Dsj.DaG.mk g.l g.n g.p (cutI g.ph (0 : Int) (100000 : Int) + g.turn)).out (Go.Proofs.Ytbmgclpgompjmaa.Dsj.DaG.mk g.l g.n g.p (cutI g.ph (0 : Int) (100000 : Int) + g.turn)).N) i)) false)).ok) ∧ True ∧ True ∧ True ∧ Sx.Ask (true = true))) (by kernel_rfl) ?_
  simp only [ask_iff, br_iff, eq_self, true_and, and_true, implies_true, forall_const, decide_eq_true_eq, decide_eq_false_iff_not, ne_eq, Nat.mul_one, Nat.add_zero, Nat.zero_add]
  have hpe : ∀ (l : Li), l.ok → DaG.pre ⟨l, min g.n 5 + 1, PaG.q ⟨g.n, g.p⟩, g.ph⟩ := fun l hl => by
    refine ⟨⟨hl, by show 1 ≤ min g.n 5 + 1; omega, by show min g.n 5 + 1 ≤ 6; omega⟩, fun i _ => ?_⟩
    cases i with
    | zero => exact cutI_range _ 3 50 (by decide)
    | succ i => exact cutI_range _ 3 50 (by decide)
  have xy : ∀ {a b : Pt}, a = b → a.x = b.x ∧ a.y = b.y := fun h => h ▸ ⟨rfl, rfl⟩
  refine ⟨hg.2, ⟨⟨hg.1, by show (0 : Int) ≤ 500; decide, by show (500 : Int) ≤ 32767; decide⟩, fun h => ⟨⟨by decide, h⟩, _, hpe _ (fwL_ok (g.g.f 0)), ⟨⟨rfl, fun _ _ => rfl⟩, rfl⟩, ⟨rfl, fun _ _ => ⟨rfl, rfl⟩⟩, rfl⟩, fun _ => ⟨_, hpe ⟨0, fun _ => ⟨0, 0⟩, false⟩ ⟨Nat.zero_le _, fun i hi => absurd hi (Nat.not_lt_zero i)⟩, ⟨⟨rfl, fun _ _ => rfl⟩, rfl⟩, rfl, rfl⟩⟩, ?_⟩
  clear hpe hg
  clear g
  intro g hg
  have hg : DaG.pre g := hg
  refine ⟨⟨⟨g, 0⟩, ⟨hg, Nat.zero_le _⟩, ⟨rfl, ⟨rfl, fun _ _ => rfl⟩, rfl, rfl, ⟨rfl, fun _ _ => rfl⟩, rfl⟩, ⟨rfl, fun _ _ => ⟨rfl, rfl⟩⟩, rfl⟩, ?_⟩
  clear hg
  rintro ⟨g, i⟩ hc
  obtain ⟨hg, hi⟩ : g.pre ∧ i ≤ g.n := hc
  dsimp only
  have hgx : ∀ x, 0 ≤ x ∧ x ≤ 1048576 → DaG.ok ⟨g.l, g.n, g.p, x⟩ := fun x hx => ⟨⟨hg.1.1, hg.1.2.1, by show g.n ≤ 16; have := hg.1.2.2; omega⟩, fun i hi => by have := hg.2 i hi; show 2 ≤ g.p i ∧ g.p i ≤ 1000; omega, hx⟩
  have hs := DaG.sum_ok (hgx 0 (by decide)) i hi
  have hs : 2 * (i : Int) ≤ g.sum i ∧ g.sum i ≤ 1000 * (i : Int) := by
    have e : ∀ i, DaG.sum ⟨g.l, g.n, g.p, 0⟩ i = g.sum i := fun i => by
      induction i with
      | zero => rfl
      | succ i ih => show DaG.sum ⟨g.l, g.n, g.p, 0⟩ i + g.p i = g.sum i + g.p i; rw [ih]
    rwa [e] at hs
  have hn6 := hg.1.2.2
  refine ⟨fun hlt => ?_, fun hge => ⟨⟨by decide, fun h => ⟨by omega, g, hg, ⟨?_, ⟨rfl, fun _ _ => rfl⟩, rfl⟩, ⟨rfl, fun _ _ => ⟨rfl, rfl⟩⟩, rfl⟩, fun h => ⟨g, hg, ⟨?_, ⟨rfl, fun _ _ => rfl⟩, rfl⟩, ⟨rfl, fun _ _ => ⟨rfl, rfl⟩⟩, rfl⟩⟩, ?_⟩⟩
  · have hp := hg.2 i (by omega)
    have ei : ((i : Int)).toNat = i := rfl
    rw [ei]
    refine ⟨by omega, by omega, by omega, ⟨g, i + 1⟩, ⟨hg, by show i + 1 ≤ g.n; omega⟩, ⟨⟨rfl, ⟨rfl, fun _ _ => rfl⟩, rfl, rfl, ⟨rfl, fun _ _ => rfl⟩, rfl⟩, ⟨rfl, fun _ _ => ⟨rfl, rfl⟩⟩, rfl⟩, ?_⟩
    show g.n - (i + 1) < g.n - i
    omega
  · obtain rfl : i = g.n := by omega
    have em : ((g.n : Int)).tmod 2 = ((g.n % 2 : Nat) : Int) := rfl
    rw [em] at h
    unfold DaG.turn; rw [if_pos (by omega)]
  · obtain rfl : i = g.n := by omega
    have em : ((g.n : Int)).tmod 2 = ((g.n % 2 : Nat) : Int) := rfl
    rw [em] at h
    unfold DaG.turn; rw [if_neg (by omega)]
  · clear hgx hs hn6 hg hi hge
    intro g hg
    have hg : DaG.pre g := hg
    have hgx : ∀ x, 0 ≤ x ∧ x ≤ 1048576 → DaG.ok ⟨g.l, g.n, g.p, x⟩ := fun x hx => ⟨⟨hg.1.1, hg.1.2.1, by show g.n ≤ 16; have := hg.1.2.2; omega⟩, fun i hi => by have := hg.2 i hi; show 2 ≤ g.p i ∧ g.p i ≤ 1000; omega, hx⟩
    have es : ∀ x i, DaG.sum ⟨g.l, g.n, g.p, x⟩ i = g.sum i := fun x i => by
      induction i with
      | zero => rfl
      | succ i ih => show DaG.sum ⟨g.l, g.n, g.p, x⟩ i + g.p i = g.sum i + g.p i; rw [ih]
    have et : ∀ x, DaG.turn ⟨g.l, g.n, g.p, x⟩ = g.turn := fun x => by unfold DaG.turn; rw [es]
    have hc : 0 ≤ cutI g.ph 0 100000 ∧ cutI g.ph 0 100000 ≤ 100000 := cutI_range _ 0 100000 (by decide)
    generalize cutI g.ph 0 100000 = x at hc ⊢
    have ht := DaG.turn_ok (hgx x (by omega))
    rw [et] at ht
    have o1 := hgx x (by omega)
    have o2 := hgx (x + g.turn) (by omega)
    have eo : ∀ i, DaG.out ⟨g.l, g.n, g.p, x⟩ i = DaG.out ⟨g.l, g.n, g.p, x + g.turn⟩ i := out_period (by rw [et x, et (x + g.turn), Int.add_emod_right])
    have eN : DaG.N ⟨g.l, g.n, g.p, x⟩ = DaG.N ⟨g.l, g.n, g.p, x + g.turn⟩ := by unfold DaG.N; rw [et x, et (x + g.turn)]; rfl
    have b := outs_in o2
    rw [eo, eN]
    generalize DaG.out ⟨g.l, g.n, g.p, x + g.turn⟩ (DaG.N ⟨g.l, g.n, g.p, x + g.turn⟩) = D at b ⊢
    exact ⟨by decide, o1, by omega, o2, ⟨rfl, by show D.length ≤ _; omega⟩, fun i _ => ⟨⟨rfl, by show (dI D i).length ≤ _; have := b.2 i; omega⟩, fun _ _ => rfl, rfl⟩⟩
end Go.Proofs.Ytbmgclpgompjmaa.Dsl
