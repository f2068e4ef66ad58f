/- Package region: combine, by the evaluation. -/
import Derived.Test.YtfjbjbmbdadmhaaGreatRgm
set_option linter.unusedSimpArgs false
set_option linter.unusedVariables false
namespace Go.Proofs.YtfjbjbmbdadmhaaGreat.Rgb
open Go.RowKit Sx Num Aff Con Rga Rgl Rgm
set_option maxRecDepth 100000
/-! combine: the sweep from the a's edge i and the b's edge j on; the flags are the parities. -/
def eS (g : Rg) (w : Int) (i : Nat) : SV := .sl (2 * g.n - i) 3 (fun k => lst [.int .i64 (g.f ((k + i) / 2)).y, .int .i64 (eX g.f (k + i)), .int .i64 w])
def cbInv (g : CbG) (K : Bool → Bool → Bool) (F : Nat) : Inv := ⟨CsG, CbP g K, fun s => ⟨[(2, .fn F 0 (lst [])), (7, eS g.a 0 s.i), (8, eS g.b 1 s.j), (9, .own 0 0), (10, .own 1 0), (11, .own 3 0), (12, .bool (K (odd s.i) (odd s.j)))],
    [.cells 2 (lst [.bool (odd s.i), .bool (odd s.j)]) 108, .cells 1 (lst [.osl 2 0]) 59, .row 0 s.L.length 3 (fun i => lst (rnL (rI s.L i))) 39, .cells 3 (lst (egL s.from')) 110]⟩, fun s => 2 * g.a.n + 2 * g.b.n - s.i - s.j⟩
noncomputable def cbOut (K : Bool → Bool → Bool) (g : CbG) : List Rn := ofSet (fun y x => K (mem g.a.L y x) (mem g.b.L y x))
theorem odd_succ (i : Nat) : (!odd i) = odd (i + 1) := by
  unfold odd
  by_cases h : i % 2 = 1
  · rw [decide_eq_true h, decide_eq_false (by omega)]; rfl
  · rw [decide_eq_false h, decide_eq_true (by omega)]; rfl
theorem addL (L : List Rn) (r : Rn) : AdG.L ⟨L.length, rI L, r⟩ = addR L r := by
  show addR (Rg.L ⟨L.length, rI L⟩) r = addR L r
  rw [Rg.L_of]
/-- A step on a's side. -/
theorem tA {g : CbG} {K : Bool → Bool → Bool} {F : Nat} {s : CsG} (ha : vld g.a.L) (hb : vld g.b.L) (hK : K false false = false) (h : CbP g K s) (hi : s.i < 2 * g.a.n) (hle : s.j < 2 * g.b.n → le2 (eY g.a.f s.i) (eX g.a.f s.i) (eY g.b.f s.j) (eX g.b.f s.j)) {M : List Rn} (hM : M = nxL K s (eX g.a.f s.i)) :
    ∃ g', (cbInv g K F).pre g' ∧ ((((Int.ofNat (2 * g.a.n - s.i) - Int.ofNat 1).toNat = 2 * g.a.n - g'.i ∧ ∀ i, i < 2 * g.a.n - g'.i → (g.a.f (((Int.ofNat 1).toNat + i + s.i) / 2)).y = (g.a.f ((i + g'.i) / 2)).y ∧ eX g.a.f ((Int.ofNat 1).toNat + i + s.i) = eX g.a.f (i + g'.i)) ∧
      (2 * g.b.n - s.j = 2 * g.b.n - g'.j ∧ ∀ i, i < 2 * g.b.n - g'.j → (g.b.f ((i + s.j) / 2)).y = (g.b.f ((i + g'.j) / 2)).y ∧ eX g.b.f (i + s.j) = eX g.b.f (i + g'.j)) ∧ K (!odd s.i) (odd s.j) = K (odd g'.i) (odd g'.j)) ∧
      ((!odd s.i) = odd g'.i ∧ odd s.j = odd g'.j) ∧ (M.length = g'.L.length ∧ ∀ i, i < g'.L.length → ((rI M i).y = (rI g'.L i).y ∧ (rI M i).x0 = (rI g'.L i).x0) ∧ (rI M i).x1 = (rI g'.L i).x1) ∧
      ((g.a.f ((Int.toNat 0 + s.i) / 2)).y = g'.from'.y ∧ eX g.a.f (Int.toNat 0 + s.i) = g'.from'.x) ∧ 0 = g'.from'.who) ∧ (cbInv g K F).meas g' < (cbInv g K F).meas s := by
  have z1 : (Int.ofNat (2 * g.a.n - s.i) - Int.ofNat 1).toNat = 2 * g.a.n - (s.i + 1) := by
    show (((2 * g.a.n - s.i : Nat) : Int) - ((1 : Nat) : Int)).toNat = _
    omega
  have z2 : ∀ k : Nat, (Int.ofNat 1).toNat + k + s.i = k + (s.i + 1) := fun k => by show 1 + k + s.i = _; omega
  have z3 : Int.toNat 0 + s.i = s.i := Nat.zero_add _
  have P := cb_stepA ha hb hK h hi hle
  have hj := h.hj
  refine ⟨⟨s.i + 1, s.j, eAt g.a.f 0 s.i, M⟩, by rw [hM]; exact P, ⟨⟨⟨z1, fun k _ => by rw [z2]; exact ⟨rfl, rfl⟩⟩, ⟨rfl, fun k _ => ⟨rfl, rfl⟩⟩, by rw [odd_succ]⟩, ⟨odd_succ _, rfl⟩, ⟨rfl, fun k _ => ⟨⟨rfl, rfl⟩, rfl⟩⟩, by rw [z3]; exact ⟨rfl, rfl⟩, rfl⟩, ?_⟩
  show 2 * g.a.n + 2 * g.b.n - (s.i + 1) - s.j < 2 * g.a.n + 2 * g.b.n - s.i - s.j
  omega
/-- A step on b's side. -/
theorem tB {g : CbG} {K : Bool → Bool → Bool} {F : Nat} {s : CsG} (ha : vld g.a.L) (hb : vld g.b.L) (hK : K false false = false) (h : CbP g K s) (hj : s.j < 2 * g.b.n) (hle : s.i < 2 * g.a.n → le2 (eY g.b.f s.j) (eX g.b.f s.j) (eY g.a.f s.i) (eX g.a.f s.i)) {M : List Rn} (hM : M = nxL K s (eX g.b.f s.j)) :
    ∃ g', (cbInv g K F).pre g' ∧ (((2 * g.a.n - s.i = 2 * g.a.n - g'.i ∧ ∀ i, i < 2 * g.a.n - g'.i → (g.a.f ((i + s.i) / 2)).y = (g.a.f ((i + g'.i) / 2)).y ∧ eX g.a.f (i + s.i) = eX g.a.f (i + g'.i)) ∧
      ((Int.ofNat (2 * g.b.n - s.j) - Int.ofNat 1).toNat = 2 * g.b.n - g'.j ∧ ∀ i, i < 2 * g.b.n - g'.j → (g.b.f (((Int.ofNat 1).toNat + i + s.j) / 2)).y = (g.b.f ((i + g'.j) / 2)).y ∧ eX g.b.f ((Int.ofNat 1).toNat + i + s.j) = eX g.b.f (i + g'.j)) ∧ K (odd s.i) (!odd s.j) = K (odd g'.i) (odd g'.j)) ∧
      (odd s.i = odd g'.i ∧ (!odd s.j) = odd g'.j) ∧ (M.length = g'.L.length ∧ ∀ i, i < g'.L.length → ((rI M i).y = (rI g'.L i).y ∧ (rI M i).x0 = (rI g'.L i).x0) ∧ (rI M i).x1 = (rI g'.L i).x1) ∧
      ((g.b.f ((Int.toNat 0 + s.j) / 2)).y = g'.from'.y ∧ eX g.b.f (Int.toNat 0 + s.j) = g'.from'.x) ∧ 1 = g'.from'.who) ∧ (cbInv g K F).meas g' < (cbInv g K F).meas s := by
  have z1 : (Int.ofNat (2 * g.b.n - s.j) - Int.ofNat 1).toNat = 2 * g.b.n - (s.j + 1) := by
    show (((2 * g.b.n - s.j : Nat) : Int) - ((1 : Nat) : Int)).toNat = _
    omega
  have z2 : ∀ k : Nat, (Int.ofNat 1).toNat + k + s.j = k + (s.j + 1) := fun k => by show 1 + k + s.j = _; omega
  have z3 : Int.toNat 0 + s.j = s.j := Nat.zero_add _
  have P := cb_stepB ha hb hK h hj hle
  have hi := h.hi
  refine ⟨⟨s.i, s.j + 1, eAt g.b.f 1 s.j, M⟩, by rw [hM]; exact P, ⟨⟨⟨rfl, fun k _ => ⟨rfl, rfl⟩⟩, ⟨z1, fun k _ => by rw [z2]; exact ⟨rfl, rfl⟩⟩, by rw [odd_succ]⟩, ⟨rfl, odd_succ _⟩, ⟨rfl, fun k _ => ⟨⟨rfl, rfl⟩, rfl⟩⟩, by rw [z3]; exact ⟨rfl, rfl⟩, rfl⟩, ?_⟩
  show 2 * g.a.n + 2 * g.b.n - s.i - (s.j + 1) < 2 * g.a.n + 2 * g.b.n - s.i - s.j
  omega
def mn (a b : Bool) : Bool := a && !b
/-! Union. -/
def spU1 : FSpec := mkSpec 20 (γ := Bool × Bool) (fun | [a, b] => some (boolOf a, boolOf b) | _ => none) (fun g => [.bool g.1, .bool g.2]) (fun _ => True) (fun g => .bool (or g.1 g.2))
theorem ok_U1 : SpecOK Tryz.prog spU1 := by
  refine spec_sound (specs := []) (all_ok trivial) (eqs := []) (fun _ _ h => (List.not_mem_nil h).elim) Aff.mixed Tryz.func20 rfl (by kernel_rfl) (fun _ _ => by kernel_rfl) (fun g => A0) (fun g => Nat.le_of_ble_eq_true (by kernel_rfl)) ?_
  rintro ⟨a, b⟩ _
  refine vc_of (B := True ∧ True ∧ True ∧ Sx.Br a (True ∧ True ∧ True ∧ Sx.Ask (true = (a || b))) (True ∧ True ∧ True ∧ True ∧ Sx.Ask (b = (a || b)))) (by kernel_rfl) ?_
  simp only [ask_iff, br_iff, eq_self, true_and, and_true, implies_true, forall_const, decide_eq_true_eq, decide_eq_false_iff_not, ne_eq, Nat.mul_one, Nat.add_zero, Nat.zero_add]
  cases a <;> cases b <;> decide
noncomputable def spCbU : FSpec := mkSpec 37 (γ := CbG) (fun | [s, t, .fn _ _ _] => some ⟨⟨slLen s, rgD s⟩, ⟨slLen t, rgD t⟩⟩ | _ => none) (fun g => [rgS g.a, rgS g.b, .fn 20 0 (lst [])]) (fun g => vld g.a.L ∧ vld g.b.L) (fun g => runsS (cbOut or g))
theorem ok_cbU : SpecOK Tryz.prog spCbU := by
  refine spec_sound (specs := [spEdges, spAddR, giv spOr, spU1]) (all_ok (⟨ok_edges, ok_addR, giv_ok ok_or, ok_U1, trivial⟩)) (eqs := []) (fun _ _ h => (List.not_mem_nil h).elim) Aff.mixed Tryz.func37 rfl (by kernel_rfl) (fun _ _ => by kernel_rfl) (fun g => (⟨[(5, .inv (cbInv g or 20))], [(4, [.ownC 1 0 39 3]), (13, [.tmp 13])]⟩ : Ann)) (fun g => Nat.le_of_ble_eq_true (by kernel_rfl)) ?_
  rintro g hg
  refine vc_of (B := let z38 := (4294967296 : Nat);let z35 := (9223372036854775807 : Int);let z34 := (-9223372036854775808 : Int);let z33 := (1 : Nat);let z32 := (cbOut Bool.or g);let z31 := (True ∧ True);let z24 := ((1 : Int) = (1 : Int));let z21 := (Sx.Ask ((20 : Nat) = (20 : Nat)) ∧ True);let z20 := (Int.ofNat z33);let z10 := ((0 : Nat) = (0 : Nat));let z9 := (cbInv g Bool.or (20 : Nat));let z6 := (2 : Nat);let z5 := (0 : Int); let z17 := (z5 ≤ z5 ∧ z5 < (↑z6 : Int)); let z16 := (z5 ≤ (1 : Int) ∧ (1 : Int) < (↑z6 : Int));let z4 := (IntKind.i64 = IntKind.i64);True ∧ True ∧ (((Sx.Ask (g.a.n = g.a.n) ∧ ∀ (i : Nat), i < g.a.n → ((True ∧ Sx.Ask z4 ∧ Sx.Ask ((g.a.f i).y = (g.a.f i).y)) ∧ Sx.Ask z4 ∧ Sx.Ask ((g.a.f i).x0 = (g.a.f i).x0)) ∧ Sx.Ask z4 ∧ Sx.Ask ((g.a.f i).x1 = (g.a.f i).x1)) ∧ (Sx.Ask z4 ∧ Sx.Ask (z5 = z5)) ∧ True) ∧ Sx.Ask (g.a.n ≤ z38)) ∧ True ∧ (((Sx.Ask (g.b.n = g.b.n) ∧ ∀ (i : Nat), i < g.b.n → ((True ∧ Sx.Ask z4 ∧ Sx.Ask ((g.b.f i).y = (g.b.f i).y)) ∧ Sx.Ask z4 ∧ Sx.Ask ((g.b.f i).x0 = (g.b.f i).x0)) ∧ Sx.Ask z4 ∧ Sx.Ask ((g.b.f i).x1 = (g.b.f i).x1)) ∧ (Sx.Ask z4 ∧ Sx.Ask z24) ∧ True) ∧ Sx.Ask (g.b.n ≤ z38)) ∧ True ∧ True ∧ True ∧ True ∧ True ∧ True ∧ True ∧ True ∧ (∃ (g_1 : Rgm.CsG), Sx.Ask (z9.pre g_1) ∧ ((Sx.Ask ((20 : Go.FuncId) = (20 : Nat)) ∧ True) ∧ (Sx.Ask (z6 * g.a.n = z6 * g.a.n - g_1.i) ∧ ∀ (i : Nat), i < z6 * g.a.n - g_1.i → ((True ∧ Sx.Ask z4 ∧ Sx.Ask ((g.a.f (i / z6)).y = (g.a.f ((i + g_1.i) / z6)).y)) ∧ Sx.Ask z4 ∧ Sx.Ask (Rga.eX g.a.f i = Rga.eX g.a.f (i + g_1.i))) ∧ Sx.Ask z4 ∧ Sx.Ask (z5 = z5)) ∧ (Sx.Ask (z6 * g.b.n = z6 * g.b.n - g_1.j) ∧ ∀ (i : Nat), i < z6 * g.b.n - g_1.j → ((True ∧ Sx.Ask z4 ∧ Sx.Ask ((g.b.f (i / z6)).y = (g.b.f ((i + g_1.j) / z6)).y)) ∧ Sx.Ask z4 ∧ Sx.Ask (Rga.eX g.b.f i = Rga.eX g.b.f (i + g_1.j))) ∧ Sx.Ask z4 ∧ Sx.Ask z24) ∧ Sx.Ask z10 ∧ Sx.Ask z10 ∧ Sx.Ask z10 ∧ Sx.Ask (false = (Rgm.odd g_1.i || Rgm.odd g_1.j)) ∧ True) ∧ ((True ∧ Sx.Ask (false = Rgm.odd g_1.i)) ∧ Sx.Ask (false = Rgm.odd g_1.j)) ∧ z31 ∧ (Sx.Ask ((0 : Nat) = g_1.L.length) ∧ ∀ (i : Nat), i < g_1.L.length → ((True ∧ False) ∧ False) ∧ False) ∧ (((True ∧ Sx.Ask z4 ∧ Sx.Ask (z5 = g_1.from'.y)) ∧ Sx.Ask z4 ∧ Sx.Ask (z5 = g_1.from'.x)) ∧ Sx.Ask z4 ∧ Sx.Ask (z5 = g_1.from'.who)) ∧ True) ∧ ∀ (g_1 : Rgm.CsG), let z37 := (Sx.Ask z4 ∧ Sx.Ask (g_1.from'.x = g_1.from'.x)); let z36 := (Sx.Ask z4 ∧ Sx.Ask (g_1.from'.y = g_1.from'.y)); let z25 := (Rgm.odd g_1.i || Rgm.odd g_1.j); let z23 := ((Sx.Ask ((!Rgm.odd g_1.i) = !Rgm.odd g_1.i) ∧ Sx.Ask (Rgm.odd g_1.j = Rgm.odd g_1.j) ∧ True) ∧ Sx.Ask True); let z22 := ((Sx.Ask (Rgm.odd g_1.i = Rgm.odd g_1.i) ∧ Sx.Ask ((!Rgm.odd g_1.j) = !Rgm.odd g_1.j) ∧ True) ∧ Sx.Ask True); let z13 := (Sx.Ask (g_1.L.length = g_1.L.length) ∧ ∀ (i : Nat), let z30 := (Rga.rI g_1.L i); i < g_1.L.length → ((True ∧ Sx.Ask z4 ∧ Sx.Ask (z30.y = z30.y)) ∧ Sx.Ask z4 ∧ Sx.Ask (z30.x0 = z30.x0)) ∧ Sx.Ask z4 ∧ Sx.Ask (z30.x1 = z30.x1)); let z12 := (z6 * g.a.n - g_1.i); let z39 := (↑z12 : Int); let z28 := (z5 ≤ z5 ∧ z5 < z39); let z18 := (z5 ≤ Int.ofNat z33 ∧ Int.ofNat z33 ≤ Int.ofNat z12 ∧ Int.ofNat z12 ≤ Int.ofNat z12 ∧ Int.ofNat z12 ≤ z39); let z11 := (z6 * g.b.n - g_1.j); let z40 := (↑z11 : Int); let z29 := (z5 ≤ z5 ∧ z5 < z40); let z19 := (z5 ≤ Int.ofNat z33 ∧ Int.ofNat z33 ≤ Int.ofNat z11 ∧ Int.ofNat z11 ≤ Int.ofNat z11 ∧ Int.ofNat z11 ≤ z40); let z8 := (Int.toNat z5 + g_1.i); let z27 := (g.a.f (z8 / z6)); let z15 := (Rga.AdG.mk g_1.L.length (Rga.rI g_1.L) (Rga.Rn.mk g_1.from'.y g_1.from'.x (Rga.eX g.a.f z8))); let z7 := (Int.toNat z5 + g_1.j); let z26 := (g.b.f (z7 / z6)); let z14 := (Rga.AdG.mk g_1.L.length (Rga.rI g_1.L) (Rga.Rn.mk g_1.from'.y g_1.from'.x (Rga.eX g.b.f z7))); let z3 := (True ∧ True ∧ True ∧ True ∧ Sx.Ask z16 ∧ True ∧ True ∧ Sx.Ask z16 ∧ True ∧ True ∧ True ∧ Sx.Ask z17 ∧ True ∧ Sx.Ask z16 ∧ True ∧ z22 ∧ True ∧ True ∧ ∃ (g' : Rgm.CsG), Sx.Ask (z9.pre g') ∧ ((z21 ∧ (Sx.Ask (z6 * g.a.n - g_1.i = z6 * g.a.n - g'.i) ∧ ∀ (i : Nat), i < z6 * g.a.n - g'.i → ((True ∧ Sx.Ask z4 ∧ Sx.Ask ((g.a.f ((i + g_1.i) / z6)).y = (g.a.f ((i + g'.i) / z6)).y)) ∧ Sx.Ask z4 ∧ Sx.Ask (Rga.eX g.a.f (i + g_1.i) = Rga.eX g.a.f (i + g'.i))) ∧ Sx.Ask z4 ∧ Sx.Ask (z5 = z5)) ∧ (Sx.Ask ((Int.ofNat z11 - Int.ofNat z33).toNat = z6 * g.b.n - g'.j) ∧ ∀ (i : Nat), i < z6 * g.b.n - g'.j → ((True ∧ Sx.Ask z4 ∧ Sx.Ask ((g.b.f ((z20.toNat + i + g_1.j) / z6)).y = (g.b.f ((i + g'.j) / z6)).y)) ∧ Sx.Ask z4 ∧ Sx.Ask (Rga.eX g.b.f (z20.toNat + i + g_1.j) = Rga.eX g.b.f (i + g'.j))) ∧ Sx.Ask z4 ∧ Sx.Ask z24) ∧ Sx.Ask z10 ∧ Sx.Ask z10 ∧ Sx.Ask z10 ∧ Sx.Ask ((Rgm.odd g_1.i || !Rgm.odd g_1.j) = (Rgm.odd g'.i || Rgm.odd g'.j)) ∧ True) ∧ ((True ∧ Sx.Ask (Rgm.odd g_1.i = Rgm.odd g'.i)) ∧ Sx.Ask ((!Rgm.odd g_1.j) = Rgm.odd g'.j)) ∧ z31 ∧ (Sx.Ask (g_1.L.length = g'.L.length) ∧ ∀ (i : Nat), i < g'.L.length → ((True ∧ Sx.Ask z4 ∧ Sx.Ask ((Rga.rI g_1.L i).y = (Rga.rI g'.L i).y)) ∧ Sx.Ask z4 ∧ Sx.Ask ((Rga.rI g_1.L i).x0 = (Rga.rI g'.L i).x0)) ∧ Sx.Ask z4 ∧ Sx.Ask ((Rga.rI g_1.L i).x1 = (Rga.rI g'.L i).x1)) ∧ (((True ∧ Sx.Ask z4 ∧ Sx.Ask (z26.y = g'.from'.y)) ∧ Sx.Ask z4 ∧ Sx.Ask (Rga.eX g.b.f z7 = g'.from'.x)) ∧ Sx.Ask z4 ∧ Sx.Ask ((1 : Int) = g'.from'.who)) ∧ True) ∧ Sx.Ask (z9.meas g' < z9.meas g_1)); let z2 := (True ∧ True ∧ True ∧ True ∧ Sx.Ask z17 ∧ True ∧ True ∧ Sx.Ask z17 ∧ True ∧ True ∧ True ∧ Sx.Ask z17 ∧ True ∧ Sx.Ask z16 ∧ True ∧ z23 ∧ True ∧ True ∧ ∃ (g' : Rgm.CsG), Sx.Ask (z9.pre g') ∧ ((z21 ∧ (Sx.Ask ((Int.ofNat z12 - Int.ofNat z33).toNat = z6 * g.a.n - g'.i) ∧ ∀ (i : Nat), i < z6 * g.a.n - g'.i → ((True ∧ Sx.Ask z4 ∧ Sx.Ask ((g.a.f ((z20.toNat + i + g_1.i) / z6)).y = (g.a.f ((i + g'.i) / z6)).y)) ∧ Sx.Ask z4 ∧ Sx.Ask (Rga.eX g.a.f (z20.toNat + i + g_1.i) = Rga.eX g.a.f (i + g'.i))) ∧ Sx.Ask z4 ∧ Sx.Ask (z5 = z5)) ∧ (Sx.Ask (z6 * g.b.n - g_1.j = z6 * g.b.n - g'.j) ∧ ∀ (i : Nat), i < z6 * g.b.n - g'.j → ((True ∧ Sx.Ask z4 ∧ Sx.Ask ((g.b.f ((i + g_1.j) / z6)).y = (g.b.f ((i + g'.j) / z6)).y)) ∧ Sx.Ask z4 ∧ Sx.Ask (Rga.eX g.b.f (i + g_1.j) = Rga.eX g.b.f (i + g'.j))) ∧ Sx.Ask z4 ∧ Sx.Ask z24) ∧ Sx.Ask z10 ∧ Sx.Ask z10 ∧ Sx.Ask z10 ∧ Sx.Ask ((!Rgm.odd g_1.i || Rgm.odd g_1.j) = (Rgm.odd g'.i || Rgm.odd g'.j)) ∧ True) ∧ ((True ∧ Sx.Ask ((!Rgm.odd g_1.i) = Rgm.odd g'.i)) ∧ Sx.Ask (Rgm.odd g_1.j = Rgm.odd g'.j)) ∧ z31 ∧ (Sx.Ask (g_1.L.length = g'.L.length) ∧ ∀ (i : Nat), i < g'.L.length → ((True ∧ Sx.Ask z4 ∧ Sx.Ask ((Rga.rI g_1.L i).y = (Rga.rI g'.L i).y)) ∧ Sx.Ask z4 ∧ Sx.Ask ((Rga.rI g_1.L i).x0 = (Rga.rI g'.L i).x0)) ∧ Sx.Ask z4 ∧ Sx.Ask ((Rga.rI g_1.L i).x1 = (Rga.rI g'.L i).x1)) ∧ (((True ∧ Sx.Ask z4 ∧ Sx.Ask (z27.y = g'.from'.y)) ∧ Sx.Ask z4 ∧ Sx.Ask (Rga.eX g.a.f z8 = g'.from'.x)) ∧ Sx.Ask z4 ∧ Sx.Ask (z5 = g'.from'.who)) ∧ True) ∧ Sx.Ask (z9.meas g' < z9.meas g_1)); let z1 := (True ∧ True ∧ True ∧ True ∧ True ∧ True ∧ ((True ∧ (Sx.Ask z10 ∧ z36 ∧ z37 ∧ (Sx.Ask z4 ∧ Sx.Ask (Rga.eX g.b.f z7 = Rga.eX g.b.f z7)) ∧ True) ∧ z31 ∧ z13 ∧ True) ∧ Sx.Ask (g_1.L.length ≤ z38)) ∧ True ∧ True ∧ True ∧ True ∧ Sx.Ask z16 ∧ True ∧ True ∧ Sx.Ask z16 ∧ True ∧ True ∧ True ∧ Sx.Ask z17 ∧ True ∧ Sx.Ask z16 ∧ True ∧ z22 ∧ True ∧ True ∧ ∃ (g' : Rgm.CsG), Sx.Ask (z9.pre g') ∧ ((z21 ∧ (Sx.Ask (z6 * g.a.n - g_1.i = z6 * g.a.n - g'.i) ∧ ∀ (i : Nat), i < z6 * g.a.n - g'.i → ((True ∧ Sx.Ask z4 ∧ Sx.Ask ((g.a.f ((i + g_1.i) / z6)).y = (g.a.f ((i + g'.i) / z6)).y)) ∧ Sx.Ask z4 ∧ Sx.Ask (Rga.eX g.a.f (i + g_1.i) = Rga.eX g.a.f (i + g'.i))) ∧ Sx.Ask z4 ∧ Sx.Ask (z5 = z5)) ∧ (Sx.Ask ((Int.ofNat z11 - Int.ofNat z33).toNat = z6 * g.b.n - g'.j) ∧ ∀ (i : Nat), i < z6 * g.b.n - g'.j → ((True ∧ Sx.Ask z4 ∧ Sx.Ask ((g.b.f ((z20.toNat + i + g_1.j) / z6)).y = (g.b.f ((i + g'.j) / z6)).y)) ∧ Sx.Ask z4 ∧ Sx.Ask (Rga.eX g.b.f (z20.toNat + i + g_1.j) = Rga.eX g.b.f (i + g'.j))) ∧ Sx.Ask z4 ∧ Sx.Ask z24) ∧ Sx.Ask z10 ∧ Sx.Ask z10 ∧ Sx.Ask z10 ∧ Sx.Ask ((Rgm.odd g_1.i || !Rgm.odd g_1.j) = (Rgm.odd g'.i || Rgm.odd g'.j)) ∧ True) ∧ ((True ∧ Sx.Ask (Rgm.odd g_1.i = Rgm.odd g'.i)) ∧ Sx.Ask ((!Rgm.odd g_1.j) = Rgm.odd g'.j)) ∧ z31 ∧ (Sx.Ask (z14.L.length = g'.L.length) ∧ ∀ (i : Nat), i < g'.L.length → ((True ∧ Sx.Ask z4 ∧ Sx.Ask ((Rga.rI z14.L i).y = (Rga.rI g'.L i).y)) ∧ Sx.Ask z4 ∧ Sx.Ask ((Rga.rI z14.L i).x0 = (Rga.rI g'.L i).x0)) ∧ Sx.Ask z4 ∧ Sx.Ask ((Rga.rI z14.L i).x1 = (Rga.rI g'.L i).x1)) ∧ (((True ∧ Sx.Ask z4 ∧ Sx.Ask (z26.y = g'.from'.y)) ∧ Sx.Ask z4 ∧ Sx.Ask (Rga.eX g.b.f z7 = g'.from'.x)) ∧ Sx.Ask z4 ∧ Sx.Ask ((1 : Int) = g'.from'.who)) ∧ True) ∧ Sx.Ask (z9.meas g' < z9.meas g_1)); let z0 := (True ∧ True ∧ True ∧ True ∧ True ∧ True ∧ ((True ∧ (Sx.Ask z10 ∧ z36 ∧ z37 ∧ (Sx.Ask z4 ∧ Sx.Ask (Rga.eX g.a.f z8 = Rga.eX g.a.f z8)) ∧ True) ∧ z31 ∧ z13 ∧ True) ∧ Sx.Ask (g_1.L.length ≤ z38)) ∧ True ∧ True ∧ True ∧ True ∧ Sx.Ask z17 ∧ True ∧ True ∧ Sx.Ask z17 ∧ True ∧ True ∧ True ∧ Sx.Ask z17 ∧ True ∧ Sx.Ask z16 ∧ True ∧ z23 ∧ True ∧ True ∧ ∃ (g' : Rgm.CsG), Sx.Ask (z9.pre g') ∧ ((z21 ∧ (Sx.Ask ((Int.ofNat z12 - Int.ofNat z33).toNat = z6 * g.a.n - g'.i) ∧ ∀ (i : Nat), i < z6 * g.a.n - g'.i → ((True ∧ Sx.Ask z4 ∧ Sx.Ask ((g.a.f ((z20.toNat + i + g_1.i) / z6)).y = (g.a.f ((i + g'.i) / z6)).y)) ∧ Sx.Ask z4 ∧ Sx.Ask (Rga.eX g.a.f (z20.toNat + i + g_1.i) = Rga.eX g.a.f (i + g'.i))) ∧ Sx.Ask z4 ∧ Sx.Ask (z5 = z5)) ∧ (Sx.Ask (z6 * g.b.n - g_1.j = z6 * g.b.n - g'.j) ∧ ∀ (i : Nat), i < z6 * g.b.n - g'.j → ((True ∧ Sx.Ask z4 ∧ Sx.Ask ((g.b.f ((i + g_1.j) / z6)).y = (g.b.f ((i + g'.j) / z6)).y)) ∧ Sx.Ask z4 ∧ Sx.Ask (Rga.eX g.b.f (i + g_1.j) = Rga.eX g.b.f (i + g'.j))) ∧ Sx.Ask z4 ∧ Sx.Ask z24) ∧ Sx.Ask z10 ∧ Sx.Ask z10 ∧ Sx.Ask z10 ∧ Sx.Ask ((!Rgm.odd g_1.i || Rgm.odd g_1.j) = (Rgm.odd g'.i || Rgm.odd g'.j)) ∧ True) ∧ ((True ∧ Sx.Ask ((!Rgm.odd g_1.i) = Rgm.odd g'.i)) ∧ Sx.Ask (Rgm.odd g_1.j = Rgm.odd g'.j)) ∧ z31 ∧ (Sx.Ask (z15.L.length = g'.L.length) ∧ ∀ (i : Nat), i < g'.L.length → ((True ∧ Sx.Ask z4 ∧ Sx.Ask ((Rga.rI z15.L i).y = (Rga.rI g'.L i).y)) ∧ Sx.Ask z4 ∧ Sx.Ask ((Rga.rI z15.L i).x0 = (Rga.rI g'.L i).x0)) ∧ Sx.Ask z4 ∧ Sx.Ask ((Rga.rI z15.L i).x1 = (Rga.rI g'.L i).x1)) ∧ (((True ∧ Sx.Ask z4 ∧ Sx.Ask (z27.y = g'.from'.y)) ∧ Sx.Ask z4 ∧ Sx.Ask (Rga.eX g.a.f z8 = g'.from'.x)) ∧ Sx.Ask z4 ∧ Sx.Ask (z5 = g'.from'.who)) ∧ True) ∧ Sx.Ask (z9.meas g' < z9.meas g_1)); z9.pre g_1 → True ∧ True ∧ True ∧ True ∧ Sx.Ask (z34 ≤ z39 + z40 ∧ z39 + z40 ≤ z35) ∧ True ∧ Sx.Br (decide (z5 < z39 + z40)) (True ∧ True ∧ True ∧ True ∧ True ∧ Sx.Br (decide (z40 = z5)) (True ∧ True ∧ Sx.Ask z28 ∧ True ∧ True ∧ Sx.Ask z18 ∧ True ∧ True ∧ True ∧ Sx.Br z25 z0 z2) (True ∧ True ∧ True ∧ True ∧ Sx.Br (decide (z5 < z39)) (True ∧ Sx.Ask z28 ∧ True ∧ True ∧ True ∧ Sx.Ask z29 ∧ True ∧ True ∧ Sx.Ask (z34 ≤ z27.y - z26.y ∧ z27.y - z26.y ≤ z35) ∧ True ∧ Sx.Ask z28 ∧ True ∧ True ∧ True ∧ Sx.Ask z29 ∧ True ∧ True ∧ Sx.Ask (z34 ≤ Rga.eX g.a.f z8 - Rga.eX g.b.f z7 ∧ Rga.eX g.a.f z8 - Rga.eX g.b.f z7 ≤ z35) ∧ True ∧ (((Sx.Ask (z6 = z6) ∧ ∀ (i : Nat), i < z6 → True ∧ Sx.Ask z4 ∧ Sx.Ask ((bif decide (i = z33) then Rga.eX g.a.f z8 - Rga.eX g.b.f z7 else z27.y - z26.y) = bif decide (i = z33) then Rga.eX g.a.f z8 - Rga.eX g.b.f z7 else z27.y - z26.y)) ∧ True) ∧ Sx.Ask True) ∧ True ∧ True ∧ True ∧ Sx.Br (decide (Rga.orI (z27.y - z26.y) (Rga.eX g.a.f z8 - Rga.eX g.b.f z7) ≤ z5)) (True ∧ Sx.Ask z28 ∧ True ∧ True ∧ Sx.Ask z18 ∧ True ∧ True ∧ True ∧ Sx.Br z25 z0 z2) (True ∧ Sx.Ask z29 ∧ True ∧ True ∧ Sx.Ask z19 ∧ True ∧ True ∧ True ∧ Sx.Br z25 z1 z3)) (True ∧ True ∧ True ∧ Sx.Ask z29 ∧ True ∧ True ∧ Sx.Ask z19 ∧ True ∧ True ∧ True ∧ Sx.Br z25 z1 z3))) (True ∧ True ∧ True ∧ True ∧ Sx.Ask (g_1.L.length = z32.length) ∧ ∀ (i : Nat), i < z32.length → ((True ∧ Sx.Ask z4 ∧ Sx.Ask ((Rga.rI g_1.L i).y = (Rga.rI z32 i).y)) ∧ Sx.Ask z4 ∧ Sx.Ask ((Rga.rI g_1.L i).x0 = (Rga.rI z32 i).x0)) ∧ Sx.Ask z4 ∧ Sx.Ask ((Rga.rI g_1.L i).x1 = (Rga.rI z32 i).x1))) (by kernel_rfl) ?_
  simp only [ask_iff, br_iff, eq_self, true_and, and_true, implies_true, forall_const, decide_eq_true_eq, decide_eq_false_iff_not, ne_eq, Nat.mul_one, Nat.add_zero, Nat.zero_add]
  obtain ⟨va, vb⟩ := hg
  have na := vld_len va
  have nb := vld_len vb
  rw [Rg.len] at na nb
  refine ⟨by omega, by omega, ⟨⟨0, 0, ⟨0, 0, 0⟩, []⟩, cb_start g _, ⟨⟨rfl, fun k _ => ⟨rfl, rfl⟩⟩, ⟨rfl, fun k _ => ⟨rfl, rfl⟩⟩, rfl⟩, ⟨rfl, rfl⟩, ⟨rfl, fun k hk => absurd hk (Nat.not_lt_zero _)⟩, ⟨rfl, rfl⟩, rfl⟩, fun s P => ?_⟩
  have P : CbP g or s := P
  have p1 := P.hi
  have p2 := P.hj
  have p3 := vld_len P.hL
  have Ai : Int.toNat 0 + s.i = s.i := Nat.zero_add _
  have Aj : Int.toNat 0 + s.j = s.j := Nat.zero_add _
  have r1 : ∀ (n : Nat), 0 < n → 0 ≤ Int.ofNat 1 ∧ Int.ofNat 1 ≤ Int.ofNat n ∧ Int.ofNat n ≤ Int.ofNat n ∧ Int.ofNat n ≤ (n : Int) := fun n hn => ⟨by decide, Int.ofNat_le.2 hn, Int.le_refl _, Int.le_refl _⟩
  have f0 : ((0 : Int) ≤ 0 ∧ (0 : Int) < ((2 : Nat) : Int)) := by decide
  have f1 : ((0 : Int) ≤ 1 ∧ (1 : Int) < ((2 : Nat) : Int)) := by decide
  refine ⟨by omega, fun hlt => ⟨fun hb0 => ?_, fun hb0 => ⟨fun ha0 => ?_, fun ha0 => ?_⟩⟩, fun hge => ?_⟩
  · have hi : s.i < 2 * g.a.n := by omega
    exact ⟨by omega, r1 _ (by omega), fun ho => ⟨by omega, f0, f0, f0, f1, tA (K := or) va vb rfl P hi (fun h => absurd h (by omega)) ((addL s.L _).trans ((if_pos ho).symm.trans (by rw [Ai]; rfl)))⟩,
      fun hc => ⟨f0, f0, f0, f1, tA (K := or) va vb rfl P hi (fun h => absurd h (by omega)) (if_neg (fun h => Bool.noConfusion (hc.symm.trans h))).symm⟩⟩
  · have hi : s.i < 2 * g.a.n := by omega
    have hj : s.j < 2 * g.b.n := by omega
    have b1 := edge_ok va hi
    have b2 := edge_ok vb hj
    have e1 : (g.a.f (s.i / 2)).y = eY g.a.f s.i := rfl
    have e2 : (g.b.f (s.j / 2)).y = eY g.b.f s.j := rfl
    have c1 : (g.a.f ((Int.toNat 0 + s.i) / 2)).y = eY g.a.f s.i := by rw [Ai]; rfl
    have c2 : (g.b.f ((Int.toNat 0 + s.j) / 2)).y = eY g.b.f s.j := by rw [Aj]; rfl
    have c3 : eX g.a.f (Int.toNat 0 + s.i) = eX g.a.f s.i := by rw [Ai]
    have c4 : eX g.b.f (Int.toNat 0 + s.j) = eX g.b.f s.j := by rw [Aj]
    have q1 : (0 : Int) ≤ 0 ∧ 0 < ((2 * g.a.n - s.i : Nat) : Int) := by omega
    have q2 : (0 : Int) ≤ 0 ∧ 0 < ((2 * g.b.n - s.j : Nat) : Int) := by omega
    refine ⟨q1, q2, by rw [c1, c2]; omega, q1, q2, by rw [c3, c4]; omega, fun hor => ?_, fun hor => ?_⟩
    · rw [c1, c2, c3, c4, or_le] at hor
      exact ⟨q1, r1 _ (by omega), fun ho => ⟨by omega, f0, f0, f0, f1, tA (K := or) va vb rfl P hi (fun _ => hor) ((addL s.L _).trans ((if_pos ho).symm.trans (by rw [Ai]; rfl)))⟩,
        fun hc => ⟨f0, f0, f0, f1, tA (K := or) va vb rfl P hi (fun _ => hor) (if_neg (fun h => Bool.noConfusion (hc.symm.trans h))).symm⟩⟩
    · rw [c1, c2, c3, c4, or_le] at hor
      exact ⟨q2, r1 _ (by omega), fun ho => ⟨by omega, f1, f1, f0, f1, tB (K := or) va vb rfl P hj (fun _ => by omega) ((addL s.L _).trans ((if_pos ho).symm.trans (by rw [Aj]; rfl)))⟩,
        fun hc => ⟨f1, f1, f0, f1, tB (K := or) va vb rfl P hj (fun _ => by omega) (if_neg (fun h => Bool.noConfusion (hc.symm.trans h))).symm⟩⟩
  · have hj : s.j < 2 * g.b.n := by omega
    exact ⟨by omega, r1 _ (by omega), fun ho => ⟨by omega, f1, f1, f0, f1, tB (K := or) va vb rfl P hj (fun h => absurd h (by omega)) ((addL s.L _).trans ((if_pos ho).symm.trans (by rw [Aj]; rfl)))⟩,
      fun hc => ⟨f1, f1, f0, f1, tB (K := or) va vb rfl P hj (fun h => absurd h (by omega)) (if_neg (fun h => Bool.noConfusion (hc.symm.trans h))).symm⟩⟩
  · have e := cb_end va vb rfl P (by omega) (by omega)
    have e : cbOut or g = s.L := e
    rw [e]
    exact ⟨rfl, fun k _ => ⟨⟨rfl, rfl⟩, rfl⟩⟩
/-! Intersect. -/
/-! Minus. -/
/-! Xor. -/
end Go.Proofs.YtfjbjbmbdadmhaaGreat.Rgb
