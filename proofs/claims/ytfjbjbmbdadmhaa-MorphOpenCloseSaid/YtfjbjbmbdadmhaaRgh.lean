/- Package region: Of; printworkskeep1.near: by the evaluation. -/
import Derived.Test.YtfjbjbmbdadmhaaRgg
set_option linter.unusedSimpArgs false
set_option linter.unusedVariables false
namespace Go.Proofs.Ytfjbjbmbdadmhaa.Rgh
open Go.RowKit Sx Num Aff Con Rga Rgl Rgm Rgn Rgb Rgc Rgf Rgg
set_option maxRecDepth 100000
/-! Of. -/
structure PoG where
  n : Nat
  f : Nat → Pt
def poS (g : PoG) : SV := .sl g.n 2 (fun i => lst (ptL (g.f i)))
def poD : SV → Nat → Pt
  | .sl _ _ f => fun i => ⟨Sx.intOf (f i 0), Sx.intOf (f i 1)⟩
  | _ => fun _ => ⟨0, 0⟩
def ptR (p : Pt) : Rn := ⟨p.y, p.x, p.x + 1⟩
def okPt (p : Pt) : Prop := (-8192 ≤ p.x ∧ p.x < 8192) ∧ -8192 ≤ p.y ∧ p.y < 8192
theorem okR_pt {p : Pt} (h : okPt p) : okR (ptR p) := by
  obtain ⟨⟨h1, h2⟩, h3, h4⟩ := h
  refine ⟨⟨⟨h3, h4⟩, ⟨h1, ?_⟩, ?_, ?_⟩, ?_⟩
  · show p.x ≤ 8192; omega
  · show -8192 ≤ p.x + 1; omega
  · show p.x + 1 ≤ 8192; omega
  · show p.x < p.x + 1; omega
def PoG.r (g : PoG) : Rg := ⟨g.n, fun i => ptR (g.f i)⟩
def ofInv (g : PoG) : Inv := ⟨Nat, fun i => i ≤ g.n, fun i => ⟨[(4, .osl 0 0), (10, poS g), (11, .int .i64 g.n), (12, .int .i64 i)], [rowS 0 i g.r.f]⟩, fun i => g.n - i⟩
noncomputable def spOf : FSpec := mkSpec 20 (γ := PoG) (fun | [s] => some ⟨slLen s, poD s⟩ | _ => none) (fun g => [poS g]) (fun g => (∀ i, i < g.n → okPt (g.f i)) ∧ g.n ≤ 1000000) (fun g => okP (runsS (joOut g.r)))
theorem ok_of : SpecOK Try.prog spOf := by
  refine spec_sound (specs := [spPermitted, giv spJoin]) (all_ok (⟨ok_permitted, giv_ok ok_join, trivial⟩)) (eqs := []) (fun _ _ h => (List.not_mem_nil h).elim) Aff.mixed Try.func20 rfl (by kernel_rfl) (fun _ _ => by kernel_rfl) (fun g => (⟨[(3, .inv (ofInv g))], []⟩ : Ann)) (fun g => Nat.le_of_ble_eq_true (by kernel_rfl)) ?_
  rintro g ⟨hok, hn⟩
  refine vc_of (B := let z9 := (9223372036854775807 : Int);let z7 := (1 : Int);let z6 := (0 : Int);let z5 := (↑g.n : Int);let z4 := (Rgg.joOut g.r); let z11 := (True ∧ Sx.Ask (z4.length = (0 : Nat)));let z0 := (IntKind.i64 = IntKind.i64); let z3 := (Sx.Ask (g.n = g.n) ∧ ∀ (i : Nat), i < g.n → (True ∧ Sx.Ask z0 ∧ Sx.Ask ((g.f i).x = (g.f i).x)) ∧ Sx.Ask z0 ∧ Sx.Ask ((g.f i).y = (g.f i).y));True ∧ True ∧ True ∧ True ∧ Sx.Ask (z6 ≤ z6 ∧ z6 ≤ z5 ∧ (↑(24 : Nat) : Int) * z5 ≤ (140737488355328 : Int) ∧ z5 ≤ z9) ∧ True ∧ True ∧ True ∧ True ∧ (∃ (g_1 : Nat), Sx.Ask ((ofInv g).pre g_1) ∧ (True ∧ z3 ∧ (Sx.Ask z0 ∧ Sx.Ask (z5 = z5)) ∧ (Sx.Ask z0 ∧ Sx.Ask (z6 = (↑g_1 : Int))) ∧ True) ∧ (Sx.Ask (Int.toNat z6 = g_1) ∧ ∀ (i : Nat), i < g_1 → ((True ∧ Sx.Ask z0 ∧ Sx.Ask (z6 = (g.f i).y)) ∧ Sx.Ask z0 ∧ Sx.Ask (z6 = (g.f i).x)) ∧ Sx.Ask z0 ∧ Sx.Ask (z6 = (g.f i).x + z7)) ∧ True) ∧ ∀ (g_1 : Nat), let z8 := (↑g_1 : Int); let z2 := (g.f z8.toNat); let z1 := (Rga.Rg.mk g_1 fun (i : Nat) => Rga.Rn.mk (g.f i).y (g.f i).x ((g.f i).x + z7)); (ofInv g).pre g_1 → True ∧ Sx.Br (decide (z8 < z5)) (Sx.Ask (z6 ≤ z8 ∧ z8 < z5) ∧ True ∧ True ∧ True ∧ True ∧ True ∧ (((Sx.Ask z0 ∧ Sx.Ask (z2.x = z2.x)) ∧ True) ∧ Sx.Ask True) ∧ True ∧ True ∧ Sx.Br (!(decide ((-8192 : Int) ≤ z2.x) && decide (z2.x < (8192 : Int)))) (True ∧ True ∧ True ∧ True ∧ z11 ∧ Sx.Ask z0 ∧ Sx.Ask ((3 : Int) = z6)) (True ∧ True ∧ (((Sx.Ask z0 ∧ Sx.Ask (z2.y = z2.y)) ∧ True) ∧ Sx.Ask True) ∧ True ∧ True ∧ Sx.Br (!(decide ((-8192 : Int) ≤ z2.y) && decide (z2.y < (8192 : Int)))) (True ∧ True ∧ True ∧ z11 ∧ Sx.Ask z0 ∧ Sx.Ask ((3 : Int) = z6)) (True ∧ True ∧ True ∧ True ∧ True ∧ True ∧ True ∧ Sx.Ask ((-9223372036854775808 : Int) ≤ z2.x + z7 ∧ z2.x + z7 ≤ z9) ∧ True ∧ True ∧ Sx.Ask (g_1 + (1 : Nat) ≤ (9223372036854775807 : Nat) ∧ (g_1 + (1 : Nat)) * (24 : Nat) ≤ (140737488355328 : Nat)) ∧ True ∧ Sx.Ask ((-9223372036854775808 : Int) ≤ z8 + z7 ∧ z8 + z7 ≤ z9) ∧ True ∧ ∃ (g' : Nat), Sx.Ask ((ofInv g).pre g') ∧ ((True ∧ z3 ∧ (Sx.Ask z0 ∧ Sx.Ask (z5 = z5)) ∧ (Sx.Ask z0 ∧ Sx.Ask (z8 + z7 = (↑g' : Int))) ∧ True) ∧ (Sx.Ask (g_1 + (1 : Nat) = g') ∧ ∀ (i : Nat), i < g' → ((True ∧ Sx.Ask z0 ∧ Sx.Ask ((bif decide (i < g_1) then (g.f i).y else z2.y) = (g.f i).y)) ∧ Sx.Ask z0 ∧ Sx.Ask ((bif decide (i < g_1) then (g.f i).x else z2.x) = (g.f i).x)) ∧ Sx.Ask z0 ∧ Sx.Ask ((bif decide (i < g_1) then (g.f i).x + z7 else z2.x + z7) = (g.f i).x + z7)) ∧ True) ∧ Sx.Ask ((ofInv g).meas g' < (ofInv g).meas g_1)))) (True ∧ (((Sx.Ask (g_1 = g_1) ∧ ∀ (i : Nat), i < g_1 → ((True ∧ Sx.Ask z0 ∧ Sx.Ask ((g.f i).y = (g.f i).y)) ∧ Sx.Ask z0 ∧ Sx.Ask ((g.f i).x = (g.f i).x)) ∧ Sx.Ask z0 ∧ Sx.Ask ((g.f i).x + z7 = (g.f i).x + z7)) ∧ True) ∧ Sx.Ask (Rgg.joOk z1)) ∧ True ∧ True ∧ True ∧ (True ∧ Sx.Ask ((Rgg.joOut z1).length = z4.length) ∧ ∀ (i : Nat), let z10 := (Rga.rI (Rgg.joOut z1) i); i < z4.length → ((True ∧ Sx.Ask z0 ∧ Sx.Ask (z10.y = (Rga.rI z4 i).y)) ∧ Sx.Ask z0 ∧ Sx.Ask (z10.x0 = (Rga.rI z4 i).x0)) ∧ Sx.Ask z0 ∧ Sx.Ask (z10.x1 = (Rga.rI z4 i).x1)) ∧ Sx.Ask z0 ∧ Sx.Ask (z6 = z6))) (by kernel_rfl) ?_
  simp only [ask_iff, br_iff, eq_self, true_and, and_true, implies_true, forall_const, decide_eq_true_eq, decide_eq_false_iff_not, ne_eq, Nat.mul_one, Nat.add_zero, Nat.zero_add]
  refine ⟨by omega, ⟨0, Nat.zero_le _, rfl, rfl, fun k hk => absurd hk (Nat.not_lt_zero _)⟩, fun i hi => ⟨fun hlt => ?_, fun hge => ?_⟩⟩
  · have hi : i ≤ g.n := hi
    have hlt : i < g.n := by omega
    have z : ((i : Int)).toNat = i := rfl
    obtain ⟨⟨h1, h2⟩, h3, h4⟩ := hok i hlt
    rw [z, decide_eq_true h1, decide_eq_true h2, decide_eq_true h3, decide_eq_true h4]
    refine ⟨by omega, fun h => absurd h (by decide), fun _ => ⟨fun h => absurd h (by decide), fun _ => ⟨by omega, by omega, by omega, i + 1, hlt, ⟨rfl, rfl, fun k hk => ?_⟩, ?_⟩⟩⟩
    · by_cases hki : k < i
      · rw [decide_eq_true hki]; exact ⟨⟨rfl, rfl⟩, rfl⟩
      · rw [decide_eq_false hki, show k = i by omega]; exact ⟨⟨rfl, rfl⟩, rfl⟩
    · show g.n - (i + 1) < g.n - i
      omega
  · have hi : i ≤ g.n := hi
    have e : i = g.n := by omega
    subst e
    exact ⟨⟨fun k hk => okR_pt (hok k hk), Nat.le_trans hn (by decide)⟩, rfl, fun k _ => ⟨⟨rfl, rfl⟩, rfl⟩⟩
/-! near. -/
structure NrG where
  g : Rg
  m : Int
def NrG.x (h : NrG) (i : Nat) : Int := cutI (h.g.f i).x0 (-h.m) h.m
def NrG.y (h : NrG) (i : Nat) : Int := cutI (h.g.f i).y (-h.m) h.m
def NrG.w (h : NrG) (i : Nat) : Int := cutI (h.g.f i).x1 1 12
def NrG.pt (h : NrG) (i k : Nat) : Pt := ⟨if h.x i + k < h.m then h.x i + k else h.m, h.y i⟩
def NrG.in' (h : NrG) (i k : Nat) : List Pt := (List.range k).map (h.pt i)
def NrG.L (h : NrG) : Nat → List Pt
  | 0 => []
  | i + 1 => h.L i ++ h.in' i (h.w i).toNat
def pI (L : List Pt) (k : Nat) : Pt := L.getD k ⟨0, 0⟩
def NrG.ok (h : NrG) : Prop := (1 ≤ h.m ∧ h.m ≤ 1000) ∧ h.g.n ≤ 9223372036854775807
def NrG.o (h : NrG) : PoG := ⟨(h.L (min h.g.n 30)).length, pI (h.L (min h.g.n 30))⟩
def poR (L : List Pt) : SO := .row 0 L.length 2 (fun k => lst (ptL (pI L k))) 34
theorem cutI_b (x : Int) {lo hi : Int} (h : lo ≤ hi) : lo ≤ cutI x lo hi ∧ cutI x lo hi ≤ hi := cutI_range x lo hi h
theorem pI_app (L : List Pt) (p : Pt) (i : Nat) (h : i < L.length + 1) : pI (L ++ [p]) i = if i < L.length then pI L i else p := by
  unfold pI
  by_cases hi : i < L.length
  · rw [if_pos hi, List.getD_eq_getElem?_getD, List.getElem?_append_left hi, List.getD_eq_getElem?_getD]
  · rw [if_neg hi, show i = L.length by omega]
    simp
theorem pI_mem {L : List Pt} {i : Nat} (h : i < L.length) : pI L i ∈ L := by
  unfold pI
  rw [List.getD_eq_getElem?_getD, List.getElem?_eq_getElem h]
  exact List.getElem_mem _
theorem NrG.in_zero (h : NrG) (i : Nat) : h.in' i 0 = [] := rfl
theorem NrG.in_succ (h : NrG) (i k : Nat) : h.in' i (k + 1) = h.in' i k ++ [h.pt i k] := by
  unfold NrG.in'
  rw [List.range_succ, List.map_append]
  rfl
theorem NrG.in_len (h : NrG) (i k : Nat) : (h.in' i k).length = k := by simp [NrG.in']
theorem NrG.L_len (h : NrG) : ∀ i : Nat, (h.L i).length ≤ 12 * i
  | 0 => Nat.le_refl _
  | i + 1 => by
    have h1 := h.L_len i
    have h2 : 1 ≤ h.w i ∧ h.w i ≤ 12 := cutI_b (h.g.f i).x1 (by decide)
    show (h.L i ++ h.in' i (h.w i).toNat).length ≤ _
    rw [List.length_append, h.in_len]
    omega
theorem NrG.L_ok (h : NrG) (hm : 1 ≤ h.m) : ∀ i : Nat, ∀ p ∈ h.L i, (-h.m ≤ p.x ∧ p.x ≤ h.m) ∧ -h.m ≤ p.y ∧ p.y ≤ h.m
  | 0, p, hp => (List.not_mem_nil hp).elim
  | i + 1, p, hp => by
    rcases List.mem_append.1 (show p ∈ h.L i ++ h.in' i (h.w i).toNat from hp) with hp | hp
    · exact h.L_ok hm i p hp
    · obtain ⟨k, _, rfl⟩ := List.mem_map.1 hp
      have hx : -h.m ≤ h.x i ∧ h.x i ≤ h.m := cutI_b (h.g.f i).x0 (by omega)
      have hy : -h.m ≤ h.y i ∧ h.y i ≤ h.m := cutI_b (h.g.f i).y (by omega)
      refine ⟨?_, hy⟩
      show -h.m ≤ (if h.x i + k < h.m then h.x i + k else h.m) ∧ (if h.x i + k < h.m then h.x i + k else h.m) ≤ h.m
      split <;> omega
def nrT (h : NrG) (i : Nat) : List (Nat × SV) := [(0, rgS h.g), (1, .int .i64 h.m), (5, .osl 0 0), (6, .int .i64 i)]
def nrOut (h : NrG) : Inv := ⟨Nat, fun i => i ≤ 30 ∧ i ≤ h.g.n, fun i => ⟨nrT h i, [poR (h.L i)]⟩, fun i => 30 - i⟩
def nrIn (h : NrG) (i : Nat) : Inv := ⟨Nat, fun k => k ≤ (h.w i).toNat, fun k => ⟨[(7, .int .i64 (h.x i)), (8, .int .i64 (h.y i)), (45, .int .i64 (h.w i)), (46, .int .i64 k)] ++ nrT h i, [poR (h.L i ++ h.in' i k)]⟩, fun k => (h.w i).toNat - k⟩
noncomputable def spNear : FSpec := mkSpec 23 (γ := NrG) (fun | [s, .int _ m] => some ⟨⟨slLen s, rgD s⟩, m⟩ | _ => none) (fun h => [rgS h.g, .int .i64 h.m]) NrG.ok (fun h => runsS (joOut h.o.r))
theorem ok_near : SpecOK Try.prog spNear := by
  refine spec_sound (specs := [spCut, giv spOf]) (all_ok (⟨ok_cut, giv_ok ok_of, trivial⟩)) (eqs := []) (fun _ _ h => (List.not_mem_nil h).elim) Aff.mixed Try.func23 rfl (by kernel_rfl) (fun _ _ => by kernel_rfl) (fun g => (⟨[(3, .nest (nrOut g) (fun i => [(7, .inv (nrIn g i))]))], [(2, [.own 5 34 2])]⟩ : Ann)) (fun g => Nat.le_of_ble_eq_true (by kernel_rfl)) ?_
  rintro h hh
  refine vc_of (B := let z16 := (1 : Int);let z13 := (4611686018427387903 : Int);let z12 := (0 : Int);let z11 := (9223372036854775807 : Int);let z10 := (-9223372036854775808 : Int);let z8 := (Rgg.joOut h.o.r);let z4 := (((-2305843009213693952 : Int) ≤ z12 - h.m ∧ z12 - h.m ≤ h.m) ∧ h.m ≤ z13 ∧ h.m - (z12 - h.m) ≤ z13);let z0 := (IntKind.i64 = IntKind.i64); let z19 := (Sx.Ask z0 ∧ Sx.Ask (z12 - h.m = z12 - h.m)); let z7 := (Sx.Ask z0 ∧ Sx.Ask (h.m = h.m)); let z1 := (Sx.Ask (h.g.n = h.g.n) ∧ ∀ (i : Nat), i < h.g.n → ((True ∧ Sx.Ask z0 ∧ Sx.Ask ((h.g.f i).y = (h.g.f i).y)) ∧ Sx.Ask z0 ∧ Sx.Ask ((h.g.f i).x0 = (h.g.f i).x0)) ∧ Sx.Ask z0 ∧ Sx.Ask ((h.g.f i).x1 = (h.g.f i).x1));True ∧ True ∧ True ∧ (∃ (g : Nat), Sx.Ask ((nrOut h).pre g) ∧ (z1 ∧ z7 ∧ True ∧ (Sx.Ask z0 ∧ Sx.Ask (z12 = (↑g : Int))) ∧ True) ∧ (Sx.Ask ((0 : Nat) = (h.L g).length) ∧ ∀ (i : Nat), i < (h.L g).length → (True ∧ False) ∧ False) ∧ True) ∧ ∀ (g : Nat), let z14 := (↑g : Int); let z9 := (z12 ≤ z14 ∧ z14 < (↑h.g.n : Int)); let z6 := (h.g.f z14.toNat); let z3 := (((Sx.Ask ((h.L g).length = (h.L g).length) ∧ ∀ (i : Nat), i < (h.L g).length → (True ∧ Sx.Ask z0 ∧ Sx.Ask ((pI (h.L g) i).x = (pI (h.L g) i).x)) ∧ Sx.Ask z0 ∧ Sx.Ask ((pI (h.L g) i).y = (pI (h.L g) i).y)) ∧ True) ∧ Sx.Ask ((∀ (i : Nat), i < (h.L g).length → okPt (pI (h.L g) i)) ∧ (h.L g).length ≤ (1000000 : Nat))); let z2 := (Rgg.joOut (PoG.mk (h.L g).length (pI (h.L g))).r); (nrOut h).pre g → True ∧ True ∧ True ∧ True ∧ True ∧ Sx.Br (decide (z14 < (↑h.g.n : Int))) (True ∧ True ∧ True ∧ Sx.Br (decide (z14 < (30 : Int))) (True ∧ True ∧ Sx.Ask z9 ∧ True ∧ True ∧ True ∧ Sx.Ask (z10 ≤ z12 - h.m ∧ z12 - h.m ≤ z11) ∧ True ∧ (((Sx.Ask z0 ∧ Sx.Ask (z6.x0 = z6.x0)) ∧ z19 ∧ z7 ∧ True) ∧ Sx.Ask z4) ∧ True ∧ True ∧ Sx.Ask z9 ∧ True ∧ True ∧ True ∧ Sx.Ask (z10 ≤ z12 - h.m ∧ z12 - h.m ≤ z11) ∧ True ∧ (((Sx.Ask z0 ∧ Sx.Ask (z6.y = z6.y)) ∧ z19 ∧ z7 ∧ True) ∧ Sx.Ask z4) ∧ True ∧ True ∧ True ∧ True ∧ Sx.Ask z9 ∧ True ∧ True ∧ (((Sx.Ask z0 ∧ Sx.Ask (z6.x1 = z6.x1)) ∧ (Sx.Ask z0 ∧ Sx.Ask (z16 = z16)) ∧ (Sx.Ask z0 ∧ Sx.Ask ((12 : Int) = (12 : Int))) ∧ True) ∧ Sx.Ask (((-2305843009213693952 : Int) ≤ z16 ∧ z16 ≤ (12 : Int)) ∧ (12 : Int) ≤ z13 ∧ (12 : Int) - z16 ≤ z13)) ∧ True ∧ (∃ (g_1 : Nat), let z17 := (h.L g ++ h.in' g g_1); Sx.Ask ((nrIn h g).pre g_1) ∧ ((Sx.Ask z0 ∧ Sx.Ask (cutI z6.x0 (z12 - h.m) h.m = h.x g)) ∧ (Sx.Ask z0 ∧ Sx.Ask (cutI z6.y (z12 - h.m) h.m = h.y g)) ∧ (Sx.Ask z0 ∧ Sx.Ask (cutI z6.x1 z16 (12 : Int) = h.w g)) ∧ (Sx.Ask z0 ∧ Sx.Ask (z12 = (↑g_1 : Int))) ∧ z1 ∧ z7 ∧ True ∧ (Sx.Ask z0 ∧ Sx.Ask (z14 = z14)) ∧ True) ∧ (Sx.Ask ((h.L g).length = z17.length) ∧ ∀ (i : Nat), i < z17.length → (True ∧ Sx.Ask z0 ∧ Sx.Ask ((pI (h.L g) i).x = (pI z17 i).x)) ∧ Sx.Ask z0 ∧ Sx.Ask ((pI (h.L g) i).y = (pI z17 i).y)) ∧ True) ∧ ∀ (g_1 : Nat), let z15 := (↑g_1 : Int); let z5 := (h.L g ++ h.in' g g_1); (nrIn h g).pre g_1 → True ∧ Sx.Br (decide (z15 < h.w g)) (True ∧ True ∧ True ∧ True ∧ True ∧ True ∧ Sx.Ask (z10 ≤ h.x g + z15 ∧ h.x g + z15 ≤ z11) ∧ True ∧ True ∧ True ∧ True ∧ Sx.Ask (z5.length + (1 : Nat) ≤ (9223372036854775807 : Nat) ∧ (z5.length + (1 : Nat)) * (16 : Nat) ≤ (140737488355328 : Nat)) ∧ True ∧ Sx.Ask (z10 ≤ z15 + z16 ∧ z15 + z16 ≤ z11) ∧ True ∧ ∃ (g' : Nat), let z18 := (h.L g ++ h.in' g g'); Sx.Ask ((nrIn h g).pre g') ∧ (((Sx.Ask z0 ∧ Sx.Ask (h.x g = h.x g)) ∧ (Sx.Ask z0 ∧ Sx.Ask (h.y g = h.y g)) ∧ (Sx.Ask z0 ∧ Sx.Ask (h.w g = h.w g)) ∧ (Sx.Ask z0 ∧ Sx.Ask (z15 + z16 = (↑g' : Int))) ∧ z1 ∧ z7 ∧ True ∧ (Sx.Ask z0 ∧ Sx.Ask (z14 = z14)) ∧ True) ∧ (Sx.Ask (z5.length + (1 : Nat) = z18.length) ∧ ∀ (i : Nat), i < z18.length → (True ∧ Sx.Ask z0 ∧ Sx.Ask ((bif decide (i < z5.length) then (pI z5 i).x else if h.x g + z15 < h.m then h.x g + z15 else h.m) = (pI z18 i).x)) ∧ Sx.Ask z0 ∧ Sx.Ask ((bif decide (i < z5.length) then (pI z5 i).y else h.y g) = (pI z18 i).y)) ∧ True) ∧ Sx.Ask ((nrIn h g).meas g' < (nrIn h g).meas g_1)) (True ∧ Sx.Ask (z10 ≤ z14 + z16 ∧ z14 + z16 ≤ z11) ∧ True ∧ ∃ (g' : Nat), Sx.Ask ((nrOut h).pre g') ∧ ((z1 ∧ z7 ∧ True ∧ (Sx.Ask z0 ∧ Sx.Ask (z14 + z16 = (↑g' : Int))) ∧ True) ∧ (Sx.Ask (z5.length = (h.L g').length) ∧ ∀ (i : Nat), i < (h.L g').length → (True ∧ Sx.Ask z0 ∧ Sx.Ask ((pI z5 i).x = (pI (h.L g') i).x)) ∧ Sx.Ask z0 ∧ Sx.Ask ((pI z5 i).y = (pI (h.L g') i).y)) ∧ True) ∧ Sx.Ask ((nrOut h).meas g' < (nrOut h).meas g))) (True ∧ z3 ∧ True ∧ True ∧ True ∧ True ∧ True ∧ True ∧ True ∧ True ∧ Sx.Ask (z2.length = z8.length) ∧ ∀ (i : Nat), i < z8.length → ((True ∧ Sx.Ask z0 ∧ Sx.Ask ((Rga.rI z2 i).y = (Rga.rI z8 i).y)) ∧ Sx.Ask z0 ∧ Sx.Ask ((Rga.rI z2 i).x0 = (Rga.rI z8 i).x0)) ∧ Sx.Ask z0 ∧ Sx.Ask ((Rga.rI z2 i).x1 = (Rga.rI z8 i).x1))) (True ∧ True ∧ z3 ∧ True ∧ True ∧ True ∧ True ∧ True ∧ True ∧ True ∧ True ∧ Sx.Ask (z2.length = z8.length) ∧ ∀ (i : Nat), i < z8.length → ((True ∧ Sx.Ask z0 ∧ Sx.Ask ((Rga.rI z2 i).y = (Rga.rI z8 i).y)) ∧ Sx.Ask z0 ∧ Sx.Ask ((Rga.rI z2 i).x0 = (Rga.rI z8 i).x0)) ∧ Sx.Ask z0 ∧ Sx.Ask ((Rga.rI z2 i).x1 = (Rga.rI z8 i).x1))) (by kernel_rfl) ?_
  simp only [ask_iff, br_iff, eq_self, true_and, and_true, implies_true, forall_const, decide_eq_true_eq, decide_eq_false_iff_not, ne_eq, Nat.mul_one, Nat.add_zero, Nat.zero_add]
  obtain ⟨⟨m1, m2⟩, hn⟩ := hh
  have e0 : 0 - h.m = -h.m := by omega
  have fin : ∀ i, (i ≤ 30 ∧ i ≤ h.g.n) → (¬ ((i : Nat) : Int) < 30 ∨ ¬ ((i : Nat) : Int) < (h.g.n : Int)) → ((∀ k, k < (h.L i).length → okPt (pI (h.L i) k)) ∧ (h.L i).length ≤ 1000000) ∧
      (joOut (PoG.r ⟨(h.L i).length, pI (h.L i)⟩)).length = (joOut h.o.r).length ∧ ∀ k, k < (joOut h.o.r).length → ((rI (joOut (PoG.r ⟨(h.L i).length, pI (h.L i)⟩)) k).y = (rI (joOut h.o.r) k).y ∧ (rI (joOut (PoG.r ⟨(h.L i).length, pI (h.L i)⟩)) k).x0 = (rI (joOut h.o.r) k).x0) ∧
      (rI (joOut (PoG.r ⟨(h.L i).length, pI (h.L i)⟩)) k).x1 = (rI (joOut h.o.r) k).x1 := fun i hi hc => by
    have e : i = min h.g.n 30 := by omega
    have hl := h.L_len i
    refine ⟨⟨fun k hk => ?_, by omega⟩, ?_⟩
    · have := h.L_ok m1 i _ (pI_mem hk)
      unfold okPt
      omega
    · rw [e]
      exact ⟨rfl, fun k _ => ⟨⟨rfl, rfl⟩, rfl⟩⟩
  refine ⟨⟨0, ⟨by omega, by omega⟩, rfl, rfl, fun k hk => absurd hk (Nat.not_lt_zero _)⟩, fun i hi => ?_⟩
  have hi : i ≤ 30 ∧ i ≤ h.g.n := hi
  refine ⟨fun hlt => ⟨fun h30 => ?_, fun h30 => fin i hi (.inl h30)⟩, fun hge => fin i hi (.inr hge)⟩
  clear fin
  have z : ((i : Int)).toNat = i := rfl
  have hx := cutI_b (h.g.f i).x0 (show -h.m ≤ h.m by omega)
  have hw := cutI_b (h.g.f i).x1 (show (1 : Int) ≤ 12 by omega)
  have hx : -h.m ≤ h.x i ∧ h.x i ≤ h.m := hx
  have hw : 1 ≤ h.w i ∧ h.w i ≤ 12 := hw
  have hl := h.L_len i
  rw [e0, z]
  have q : (0 : Int) ≤ i ∧ (i : Int) < h.g.n := by omega
  refine ⟨q, by omega, by omega, q, by omega, by omega, q, by omega, ⟨0, Nat.zero_le _, ⟨rfl, rfl, rfl, rfl⟩, by rw [h.in_zero, List.append_nil]; exact ⟨rfl, fun k _ => ⟨rfl, rfl⟩⟩⟩, fun k hk => ?_⟩
  have hk : k ≤ (h.w i).toNat := hk
  have hkl : (h.L i ++ h.in' i k).length ≤ 400 := by rw [List.length_append, h.in_len]; omega
  refine ⟨fun hkw => ⟨by omega, by omega, by omega, k + 1, (by omega : k + 1 ≤ (h.w i).toNat), ⟨rfl, ?_, fun r hr => ?_⟩, ?_⟩, fun hkw => ⟨by omega, i + 1, (by omega : i + 1 ≤ 30 ∧ i + 1 ≤ h.g.n), ⟨rfl, ?_⟩, ?_⟩⟩
  · rw [h.in_succ, ← List.append_assoc, List.length_append (bs := [_])]; rfl
  · rw [h.in_succ, ← List.append_assoc] at hr ⊢
    rw [List.length_append (bs := [_])] at hr
    have hr : r < (h.L i ++ h.in' i k).length + 1 := hr
    rw [pI_app _ _ _ hr]
    by_cases hc : r < (h.L i ++ h.in' i k).length
    · rw [decide_eq_true hc, if_pos hc]; exact ⟨rfl, rfl⟩
    · rw [decide_eq_false hc, if_neg hc]; exact ⟨rfl, rfl⟩
  · show (h.w i).toNat - (k + 1) < (h.w i).toNat - k
    omega
  · have e : k = (h.w i).toNat := by omega
    subst e
    exact ⟨rfl, fun r _ => ⟨rfl, rfl⟩⟩
  · show 30 - (i + 1) < 30 - i
    omega
end Go.Proofs.Ytfjbjbmbdadmhaa.Rgh
