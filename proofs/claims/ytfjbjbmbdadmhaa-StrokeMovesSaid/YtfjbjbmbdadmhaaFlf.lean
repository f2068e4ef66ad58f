/- Package fill: scan, by the evaluation. -/
import Derived.Test.YtfjbjbmbdadmhaaFlq
set_option linter.unusedSimpArgs false
set_option linter.unusedVariables false
namespace Go.Proofs.Ytfjbjbmbdadmhaa.Flf
open Go.RowKit Sx Num Aff Con Rga Rgl Fla Flb Flc Fld Fle Flp Flq
set_option maxRecDepth 100000
/-! What is filled. -/
def ins1 (n : Int) : Bool := decide (n ≠ 0)
def spIn1 : FSpec := mkSpec 77 (γ := Int) (fun | [.int _ x] => some x | _ => none) (fun x => [.int .i64 x]) (fun x => -1048576 ≤ x ∧ x ≤ 1048576) (fun x => .bool (ins1 x))
theorem ok_In1 : SpecOK Try.prog spIn1 := by
  refine spec_sound (specs := []) (all_ok trivial) (eqs := []) (fun _ _ h => (List.not_mem_nil h).elim) Aff.mixed Try.func77 rfl (by kernel_rfl) (fun _ _ => by kernel_rfl) (fun g => A0) (fun g => Nat.le_of_ble_eq_true (by kernel_rfl)) ?_
  rintro x hx
  refine vc_of (B := True ∧ True ∧ True ∧ True ∧ True ∧ Sx.Ask (decide (x ≠ (0 : Int)) = ins1 x)) (by kernel_rfl) ?_
  simp only [ask_iff, br_iff, eq_self, true_and, and_true, implies_true, forall_const, decide_eq_true_eq, decide_eq_false_iff_not, ne_eq, Nat.mul_one, Nat.add_zero, Nat.zero_add, Int.toNat_natCast, and_self, List.append_assoc, false_and, and_false]
  unfold ins1
  by_cases h : x = 0 <;> simp [h]
def okG (g : SoG) : Prop := (g.n ≤ 1048576 ∧ ∀ i, i < g.n → (g.f i).ok) ∧ ∀ y, tot g.f g.n y = 0
def rowR (L : List Rn) : SO := .row 0 L.length 3 (fun i => lst (rnL (rI L i))) 48
def scO (g : SoG) (A : List Ed) (R : List Rn) (y : Int) : List SO := [.srow 0 g.n 6 (fun i => lst (edL (srtE g i))), .cells 1 (lst [.osl 2 0]) 92, rowR R, edRow 0 A.length (eI A), yCell y]
def scT (F : Nat) (g : SoG) (i : Nat) : Tmps := [(0, .sl (g.n - i) 6 (fun k => lst (edL (srtE g (i + k))))), (1, .fn F 0 (lst [])), (5, .own 1 0), (6, .osl 3 0), (7, .own 4 0)]
def scInv (ins : Int → Bool) (F : Nat) (g : SoG) : Inv := ⟨ScI, ScP ins g, fun s => ⟨scT F g s.i, scO g (act (srtE g) (s.y - 1) s.i) s.R s.y⟩, fun s => (8192 - s.y).toNat⟩
def scTake (F : Nat) (g : SoG) (s : ScI) : Inv := ⟨Nat, fun i => s.i ≤ i ∧ i ≤ g.n ∧ ∀ k, k < i → (srtE g k).y ≤ s.y, fun i => ⟨scT F g i, scO g (act (srtE g) s.y i) s.R s.y⟩, fun i => g.n - i⟩
def scCut (ins : Int → Bool) (F : Nat) (g : SoG) (s : ScI) : Inv := ⟨ScI, fun t => ScQ ins g t ∧ s.y ≤ t.y, fun t => ⟨scT F g t.i, scO g (act (srtE g) t.y t.i) t.R t.y⟩, fun _ => 0⟩
def crsS (C : List Cr) : SV := .sl C.length 2 (fun i => lst (crL (cI C i)))
def scIn (ins : Int → Bool) (F : Nat) (g : SoG) (s : ScI) : Inv := ⟨ScJ, ScJP ins g s,
  fun t => ⟨scT F g t.i ++ [(8, .int .i64 (pre (row g s.y t.i) t.j)), (9, .int .i64 (fromI (row g s.y t.i) t.j)), (62, crsS (row g s.y t.i)), (63, .int .i64 (row g s.y t.i).length), (64, .int .i64 t.j)], scO g (act (srtE g) s.y t.i) t.R s.y⟩, fun t => (row g s.y t.i).length - t.j⟩
def scMid (F : Nat) (g : SoG) (s : ScI) : Inv := ⟨Nat, ScM g s, fun i => ⟨scT F g i, scO g (act (srtE g) s.y i) s.R s.y⟩, fun _ => 0⟩
theorem run_same {A B : Rn} (h : A = B) : (A.y = B.y ∧ A.x0 = B.x0) ∧ A.x1 = B.x1 := by rw [h]; exact ⟨⟨rfl, rfl⟩, rfl⟩
theorem addL (L : List Rn) (r : Rn) : AdG.L ⟨L.length, rI L, r⟩ = addR L r := by
  show addR (Rg.L ⟨L.length, rI L⟩) r = addR L r
  rw [Rg.L_of]
theorem cro_s {f : Nat → Ed} {y : Int} : ∀ {n : Nat}, (∀ k, k < n → (f k).ok) → ∀ c ∈ cro f y n, c.s = 1 ∨ c.s = -1
  | 0, _, c, hc => (List.not_mem_nil hc).elim
  | n + 1, h, c, hc => by
    rcases List.mem_append.1 hc with hc | hc
    · exact cro_s (fun k hk => h k (by omega)) c hc
    · split at hc
      · rw [List.mem_singleton.1 hc]
        exact (h n (by omega)).2.2.2
      · exact (List.not_mem_nil hc).elim
theorem cI_mem {L : List Cr} {k : Nat} (h : k < L.length) : cI L k ∈ L := by
  unfold cI
  rw [List.getD_eq_getElem?_getD, List.getElem?_eq_getElem h]
  exact List.getElem_mem h
theorem pre_in {C : List Cr} (h : ∀ c ∈ C, c.s = 1 ∨ c.s = -1) : ∀ {j : Nat}, j ≤ C.length → -(j : Int) ≤ pre C j ∧ pre C j ≤ j
  | 0, _ => ⟨by show -(0 : Int) ≤ 0; decide, Int.le_refl _⟩
  | j + 1, hj => by
    have := pre_in h (j := j) (by omega)
    have := h _ (cI_mem (show j < C.length by omega))
    show _ ≤ pre C j + (cI C j).s ∧ pre C j + (cI C j).s ≤ _
    omega
theorem act_ok {g : SoG} (h : okG g) {y : Int} {i : Nat} (hi : i ≤ g.n) : ∀ k, k < (act (srtE g) y i).length → (eI (act (srtE g) y i) k).ok := fun k hk => by
  obtain ⟨m, hm, e⟩ := act_mem (eI_mem hk)
  rw [← e]
  exact all_srt g h.1.2 m (by omega)
theorem row_s {g : SoG} (h : okG g) {y : Int} {i : Nat} (hi : i ≤ g.n) : ∀ c ∈ row g y i, c.s = 1 ∨ c.s = -1 := fun c hc =>
  cro_s (act_ok h hi) c ((crs_perm _ _ _).mem_iff.1 hc)
theorem row_len {g : SoG} {y : Int} {i : Nat} (hi : i ≤ g.n) : (row g y i).length ≤ g.n := by
  have h1 : (row g y i).length = _ := crs_len (eI (act (srtE g) y i)) y (act (srtE g) y i).length
  have h2 := cro_len (eI (act (srtE g) y i)) y (act (srtE g) y i).length
  have h3 := act_len (srtE g) y i
  omega
/-! Rule 1. -/
noncomputable def spScan1 : FSpec := mkSpecM 79 [.arg 0] (γ := SoG) (fun | [_, .fn _ _ _], [.row _ n _ g _] => some ⟨n, fun i => edD (g i)⟩ | _, _ => none) (fun _ => [.osl 0 0, .fn 77 0 (lst [])]) (fun g => [edRow 0 g.n g.f]) okG (fun g => runsS (ofSet (chi ins1 g.f g.n))) (fun _ => [.dead])
theorem ok_scan1 : SpecOK Try.prog spScan1 := by
  refine spec_soundM (specs := [spSortE, spDel, spCross, spIn1, spAddR]) (all_ok (⟨ok_sortE, ok_del, ok_cross, ok_In1, ok_addR, trivial⟩)) (eqs := []) (fun _ _ h => (List.not_mem_nil h).elim) Aff.mixed Try.func79 rfl (by kernel_rfl) (fun _ _ => by kernel_rfl) (fun g => (⟨[(5, .nest (scInv ins1 77 g) (fun s => [(8, .inv (scTake 77 g s)), (12, .cut (scMid 77 g s)), (17, .inv (scIn ins1 77 g s)), (24, .cut (scCut ins1 77 g s))]))], [(2, [.tmp 0]), (4, [.ownC 1 0 48 3, .own 6 143 6]), (1000006, [.mv 5 4])]⟩ : Ann)) false (fun g => Nat.le_of_ble_eq_true (by kernel_rfl)) ?_
  rintro g hg
  refine vc_of (B := let z94 := (1 : Nat);let z86 := (-8192 : Int);let z72 := (8192 : Int);let z70 := (1 : Int);let z41 := (True ∧ True);let z40 := (0 : Int);let z37 := (9223372036854775807 : Int);let z35 := (-9223372036854775808 : Int);let z34 := (Rgl.ofSet (Flp.chi ins1 g.f g.n));let z21 := (77 : Nat); let z77 := (scInv ins1 z21 g);let z13 := (Sx.Ask (z21 = z21) ∧ True);let z9 := ((0 : Nat) = (0 : Nat));let z2 := (Flc.srtE g);let z0 := (IntKind.i64 = IntKind.i64); let z1 := (Sx.Ask (g.n = g.n) ∧ ∀ (i : Nat), let z39 := (Flc.srtE g i); i < g.n → (((((True ∧ Sx.Ask z0 ∧ Sx.Ask (z39.x = z39.x)) ∧ Sx.Ask z0 ∧ Sx.Ask (z39.y = z39.y)) ∧ Sx.Ask z0 ∧ Sx.Ask (z39.en = z39.en)) ∧ Sx.Ask z0 ∧ Sx.Ask (z39.dx = z39.dx)) ∧ Sx.Ask z0 ∧ Sx.Ask (z39.dy = z39.dy)) ∧ Sx.Ask z0 ∧ Sx.Ask (z39.s = z39.s));True ∧ True ∧ ((True ∧ (True ∧ (Sx.Ask ((100 : Nat) = (100 : Go.FuncId)) ∧ True) ∧ True) ∧ (Sx.Ask (g.n = g.n) ∧ ∀ (i : Nat), i < g.n → (((((True ∧ Sx.Ask z0 ∧ Sx.Ask ((g.f i).x = (g.f i).x)) ∧ Sx.Ask z0 ∧ Sx.Ask ((g.f i).y = (g.f i).y)) ∧ Sx.Ask z0 ∧ Sx.Ask ((g.f i).en = (g.f i).en)) ∧ Sx.Ask z0 ∧ Sx.Ask ((g.f i).dx = (g.f i).dx)) ∧ Sx.Ask z0 ∧ Sx.Ask ((g.f i).dy = (g.f i).dy)) ∧ Sx.Ask z0 ∧ Sx.Ask ((g.f i).s = (g.f i).s)) ∧ True) ∧ Sx.Ask (g.n ≤ (1048576 : Nat))) ∧ True ∧ True ∧ True ∧ True ∧ (∃ (g_1 : Flq.ScI), Sx.Ask (z77.pre g_1) ∧ True ∧ ((Sx.Ask (g.n = g.n - g_1.i) ∧ ∀ (i : Nat), let z80 := (Flc.srtE g i); let z44 := (Flc.srtE g (g_1.i + i)); i < g.n - g_1.i → (((((True ∧ Sx.Ask z0 ∧ Sx.Ask (z80.x = z44.x)) ∧ Sx.Ask z0 ∧ Sx.Ask (z80.y = z44.y)) ∧ Sx.Ask z0 ∧ Sx.Ask (z80.en = z44.en)) ∧ Sx.Ask z0 ∧ Sx.Ask (z80.dx = z44.dx)) ∧ Sx.Ask z0 ∧ Sx.Ask (z80.dy = z44.dy)) ∧ Sx.Ask z0 ∧ Sx.Ask (z80.s = z44.s)) ∧ (Sx.Ask ((77 : Go.FuncId) = z21) ∧ True) ∧ Sx.Ask z9 ∧ True ∧ Sx.Ask z9 ∧ True) ∧ z1 ∧ z41 ∧ (Sx.Ask ((0 : Nat) = g_1.R.length) ∧ ∀ (i : Nat), i < g_1.R.length → ((True ∧ False) ∧ False) ∧ False) ∧ (Sx.Ask ((0 : Nat) = (Flp.act z2 (g_1.y - z70) g_1.i).length) ∧ ∀ (i : Nat), i < (Flp.act z2 (g_1.y - z70) g_1.i).length → (((((True ∧ False) ∧ False) ∧ False) ∧ False) ∧ False) ∧ False) ∧ (True ∧ Sx.Ask z0 ∧ Sx.Ask (z86 = g_1.y)) ∧ True) ∧ ∀ (g_1 : Flq.ScI), let z106 := (Sx.Ask z0 ∧ Sx.Ask (g_1.y = g_1.y)); let z103 := (scCut ins1 z21 g g_1); let z56 := (scTake z21 g g_1); let z36 := (scIn ins1 z21 g g_1); let z16 := (True ∧ Sx.Ask z0 ∧ Sx.Ask (g_1.y = g_1.y)); let z10 := (True ∧ True ∧ True ∧ True ∧ True ∧ ((Sx.Ask (g_1.R.length = z34.length) ∧ ∀ (i : Nat), i < z34.length → ((True ∧ Sx.Ask z0 ∧ Sx.Ask ((Rga.rI g_1.R i).y = (Rga.rI z34 i).y)) ∧ Sx.Ask z0 ∧ Sx.Ask ((Rga.rI g_1.R i).x0 = (Rga.rI z34 i).x0)) ∧ Sx.Ask z0 ∧ Sx.Ask ((Rga.rI g_1.R i).x1 = (Rga.rI z34 i).x1)) ∧ True) ∧ True ∧ True); let z4 := (Sx.Ask (g_1.R.length = g_1.R.length) ∧ ∀ (i : Nat), let z75 := (Rga.rI g_1.R i); i < g_1.R.length → ((True ∧ Sx.Ask z0 ∧ Sx.Ask (z75.y = z75.y)) ∧ Sx.Ask z0 ∧ Sx.Ask (z75.x0 = z75.x0)) ∧ Sx.Ask z0 ∧ Sx.Ask (z75.x1 = z75.x1)); let z3 := (Flp.act z2 (g_1.y - z70) g_1.i); let z15 := (Flb.kept (Flb.DeG.mk z3.length (Fla.eI z3) g_1.y) z3.length); z77.pre g_1 → True ∧ True ∧ Sx.Br (decide (g_1.y < z72)) ((True ∧ True ∧ ((True ∧ (True ∧ (Sx.Ask ((103 : Nat) = (103 : Go.FuncId)) ∧ True ∧ Sx.Ask z9) ∧ True) ∧ (Sx.Ask (z3.length = z3.length) ∧ ∀ (i : Nat), let z53 := (Fla.eI z3 i); i < z3.length → (((((True ∧ Sx.Ask z0 ∧ Sx.Ask (z53.x = z53.x)) ∧ Sx.Ask z0 ∧ Sx.Ask (z53.y = z53.y)) ∧ Sx.Ask z0 ∧ Sx.Ask (z53.en = z53.en)) ∧ Sx.Ask z0 ∧ Sx.Ask (z53.dx = z53.dx)) ∧ Sx.Ask z0 ∧ Sx.Ask (z53.dy = z53.dy)) ∧ Sx.Ask z0 ∧ Sx.Ask (z53.s = z53.s)) ∧ z16 ∧ True) ∧ Sx.Ask (z3.length ≤ (4294967296 : Nat))) ∧ True ∧ ((∃ (g_2 : Nat), let z100 := (Flp.act z2 g_1.y g_2); Sx.Ask (z56.pre g_2) ∧ True ∧ ((Sx.Ask (g.n - g_1.i = g.n - g_2) ∧ ∀ (i : Nat), let z60 := (Flc.srtE g (g_2 + i)); let z45 := (Flc.srtE g (g_1.i + i)); i < g.n - g_2 → (((((True ∧ Sx.Ask z0 ∧ Sx.Ask (z45.x = z60.x)) ∧ Sx.Ask z0 ∧ Sx.Ask (z45.y = z60.y)) ∧ Sx.Ask z0 ∧ Sx.Ask (z45.en = z60.en)) ∧ Sx.Ask z0 ∧ Sx.Ask (z45.dx = z60.dx)) ∧ Sx.Ask z0 ∧ Sx.Ask (z45.dy = z60.dy)) ∧ Sx.Ask z0 ∧ Sx.Ask (z45.s = z60.s)) ∧ z13 ∧ Sx.Ask z9 ∧ True ∧ Sx.Ask z9 ∧ True) ∧ z1 ∧ z41 ∧ z4 ∧ (Sx.Ask (z15.length = z100.length) ∧ ∀ (i : Nat), let z81 := (Fla.eI z15 i); let z29 := (Fla.eI z100 i); i < z100.length → (((((True ∧ Sx.Ask z0 ∧ Sx.Ask (z81.x = z29.x)) ∧ Sx.Ask z0 ∧ Sx.Ask (z81.y = z29.y)) ∧ Sx.Ask z0 ∧ Sx.Ask (z81.en = z29.en)) ∧ Sx.Ask z0 ∧ Sx.Ask (z81.dx = z29.dx)) ∧ Sx.Ask z0 ∧ Sx.Ask (z81.dy = z29.dy)) ∧ Sx.Ask z0 ∧ Sx.Ask (z81.s = z29.s)) ∧ z16 ∧ True) ∧ ∀ (g_2 : Nat), let z78 := (g.n - g_2); let z73 := (z40 ≤ z40 ∧ z40 < (↑z78 : Int)); let z22 := (z40 ≤ Int.ofNat z94 ∧ Int.ofNat z94 ≤ Int.ofNat z78 ∧ Int.ofNat z78 ≤ Int.ofNat z78 ∧ Int.ofNat z78 ≤ (↑z78 : Int)); let z17 := (Flc.srtE g (g_2 + Int.toNat z40)); let z8 := (Flp.act z2 g_1.y g_2); z56.pre g_2 → True ∧ True ∧ True ∧ True ∧ Sx.Br (decide (z40 < (↑z78 : Int))) (True ∧ Sx.Ask z73 ∧ True ∧ True ∧ True ∧ True ∧ True ∧ Sx.Br (decide (z17.y ≤ g_1.y)) (True ∧ Sx.Ask z73 ∧ True ∧ True ∧ True ∧ True ∧ Sx.Br (decide (g_1.y < z17.en)) (True ∧ True ∧ Sx.Ask z73 ∧ True ∧ True ∧ Sx.Ask (z8.length + z94 ≤ (9223372036854775807 : Nat) ∧ (z8.length + z94) * (48 : Nat) ≤ (140737488355328 : Nat)) ∧ True ∧ True ∧ Sx.Ask z22 ∧ True ∧ ∃ (g' : Nat), let z104 := (Flp.act z2 g_1.y g'); Sx.Ask (z56.pre g') ∧ True ∧ (((Sx.Ask ((Int.ofNat z78 - Int.ofNat z94).toNat = g.n - g') ∧ ∀ (i : Nat), let z68 := (Flc.srtE g (g' + i)); let z18 := (Flc.srtE g (g_2 + ((Int.ofNat z94).toNat + i))); i < g.n - g' → (((((True ∧ Sx.Ask z0 ∧ Sx.Ask (z18.x = z68.x)) ∧ Sx.Ask z0 ∧ Sx.Ask (z18.y = z68.y)) ∧ Sx.Ask z0 ∧ Sx.Ask (z18.en = z68.en)) ∧ Sx.Ask z0 ∧ Sx.Ask (z18.dx = z68.dx)) ∧ Sx.Ask z0 ∧ Sx.Ask (z18.dy = z68.dy)) ∧ Sx.Ask z0 ∧ Sx.Ask (z18.s = z68.s)) ∧ z13 ∧ Sx.Ask z9 ∧ True ∧ Sx.Ask z9 ∧ True) ∧ z1 ∧ z41 ∧ z4 ∧ (Sx.Ask (z8.length + z94 = z104.length) ∧ ∀ (i : Nat), let z87 := (Fla.eI z8 i); let z79 := (i < z8.length); let z32 := (Fla.eI z104 i); i < z104.length → (((((True ∧ Sx.Ask z0 ∧ Sx.Ask ((bif decide z79 then z87.x else z17.x) = z32.x)) ∧ Sx.Ask z0 ∧ Sx.Ask ((bif decide z79 then z87.y else z17.y) = z32.y)) ∧ Sx.Ask z0 ∧ Sx.Ask ((bif decide z79 then z87.en else z17.en) = z32.en)) ∧ Sx.Ask z0 ∧ Sx.Ask ((bif decide z79 then z87.dx else z17.dx) = z32.dx)) ∧ Sx.Ask z0 ∧ Sx.Ask ((bif decide z79 then z87.dy else z17.dy) = z32.dy)) ∧ Sx.Ask z0 ∧ Sx.Ask ((bif decide z79 then z87.s else z17.s) = z32.s)) ∧ z16 ∧ True) ∧ Sx.Ask (z56.meas g' < z56.meas g_2)) (True ∧ Sx.Ask z22 ∧ True ∧ ∃ (g' : Nat), let z105 := (Flp.act z2 g_1.y g'); Sx.Ask (z56.pre g') ∧ True ∧ (((Sx.Ask ((Int.ofNat z78 - Int.ofNat z94).toNat = g.n - g') ∧ ∀ (i : Nat), let z69 := (Flc.srtE g (g' + i)); let z19 := (Flc.srtE g (g_2 + ((Int.ofNat z94).toNat + i))); i < g.n - g' → (((((True ∧ Sx.Ask z0 ∧ Sx.Ask (z19.x = z69.x)) ∧ Sx.Ask z0 ∧ Sx.Ask (z19.y = z69.y)) ∧ Sx.Ask z0 ∧ Sx.Ask (z19.en = z69.en)) ∧ Sx.Ask z0 ∧ Sx.Ask (z19.dx = z69.dx)) ∧ Sx.Ask z0 ∧ Sx.Ask (z19.dy = z69.dy)) ∧ Sx.Ask z0 ∧ Sx.Ask (z19.s = z69.s)) ∧ z13 ∧ Sx.Ask z9 ∧ True ∧ Sx.Ask z9 ∧ True) ∧ z1 ∧ z41 ∧ z4 ∧ (Sx.Ask (z8.length = z105.length) ∧ ∀ (i : Nat), let z88 := (Fla.eI z8 i); let z33 := (Fla.eI z105 i); i < z105.length → (((((True ∧ Sx.Ask z0 ∧ Sx.Ask (z88.x = z33.x)) ∧ Sx.Ask z0 ∧ Sx.Ask (z88.y = z33.y)) ∧ Sx.Ask z0 ∧ Sx.Ask (z88.en = z33.en)) ∧ Sx.Ask z0 ∧ Sx.Ask (z88.dx = z33.dx)) ∧ Sx.Ask z0 ∧ Sx.Ask (z88.dy = z33.dy)) ∧ Sx.Ask z0 ∧ Sx.Ask (z88.s = z33.s)) ∧ z16 ∧ True) ∧ Sx.Ask (z56.meas g' < z56.meas g_2))) (∃ (g_3 : Nat), let z101 := (Flp.act z2 g_1.y g_3); Sx.Ask ((scMid z21 g g_1).pre g_3) ∧ True ∧ ((Sx.Ask (g.n - g_2 = g.n - g_3) ∧ ∀ (i : Nat), let z62 := (Flc.srtE g (g_3 + i)); let z61 := (Flc.srtE g (g_2 + i)); i < g.n - g_3 → (((((True ∧ Sx.Ask z0 ∧ Sx.Ask (z61.x = z62.x)) ∧ Sx.Ask z0 ∧ Sx.Ask (z61.y = z62.y)) ∧ Sx.Ask z0 ∧ Sx.Ask (z61.en = z62.en)) ∧ Sx.Ask z0 ∧ Sx.Ask (z61.dx = z62.dx)) ∧ Sx.Ask z0 ∧ Sx.Ask (z61.dy = z62.dy)) ∧ Sx.Ask z0 ∧ Sx.Ask (z61.s = z62.s)) ∧ z13 ∧ Sx.Ask z9 ∧ True ∧ Sx.Ask z9 ∧ True) ∧ z1 ∧ z41 ∧ z4 ∧ (Sx.Ask (z8.length = z101.length) ∧ ∀ (i : Nat), let z89 := (Fla.eI z8 i); let z30 := (Fla.eI z101 i); i < z101.length → (((((True ∧ Sx.Ask z0 ∧ Sx.Ask (z89.x = z30.x)) ∧ Sx.Ask z0 ∧ Sx.Ask (z89.y = z30.y)) ∧ Sx.Ask z0 ∧ Sx.Ask (z89.en = z30.en)) ∧ Sx.Ask z0 ∧ Sx.Ask (z89.dx = z30.dx)) ∧ Sx.Ask z0 ∧ Sx.Ask (z89.dy = z30.dy)) ∧ Sx.Ask z0 ∧ Sx.Ask (z89.s = z30.s)) ∧ z16 ∧ True)) (True ∧ ∃ (g_3 : Nat), let z102 := (Flp.act z2 g_1.y g_3); Sx.Ask ((scMid z21 g g_1).pre g_3) ∧ True ∧ ((Sx.Ask (g.n - g_2 = g.n - g_3) ∧ ∀ (i : Nat), let z64 := (Flc.srtE g (g_3 + i)); let z63 := (Flc.srtE g (g_2 + i)); i < g.n - g_3 → (((((True ∧ Sx.Ask z0 ∧ Sx.Ask (z63.x = z64.x)) ∧ Sx.Ask z0 ∧ Sx.Ask (z63.y = z64.y)) ∧ Sx.Ask z0 ∧ Sx.Ask (z63.en = z64.en)) ∧ Sx.Ask z0 ∧ Sx.Ask (z63.dx = z64.dx)) ∧ Sx.Ask z0 ∧ Sx.Ask (z63.dy = z64.dy)) ∧ Sx.Ask z0 ∧ Sx.Ask (z63.s = z64.s)) ∧ z13 ∧ Sx.Ask z9 ∧ True ∧ Sx.Ask z9 ∧ True) ∧ z1 ∧ z41 ∧ z4 ∧ (Sx.Ask (z8.length = z102.length) ∧ ∀ (i : Nat), let z90 := (Fla.eI z8 i); let z31 := (Fla.eI z102 i); i < z102.length → (((((True ∧ Sx.Ask z0 ∧ Sx.Ask (z90.x = z31.x)) ∧ Sx.Ask z0 ∧ Sx.Ask (z90.y = z31.y)) ∧ Sx.Ask z0 ∧ Sx.Ask (z90.en = z31.en)) ∧ Sx.Ask z0 ∧ Sx.Ask (z90.dx = z31.dx)) ∧ Sx.Ask z0 ∧ Sx.Ask (z90.dy = z31.dy)) ∧ Sx.Ask z0 ∧ Sx.Ask (z90.s = z31.s)) ∧ z16 ∧ True)) ∧ ∀ (g_2 : Nat), let z12 := (if z72 < (Flc.srtE g (g_2 + Int.toNat z40)).y then z72 else (Flc.srtE g (g_2 + Int.toNat z40)).y); let z7 := (Flp.act z2 g_1.y g_2); let z55 := (Fle.crs (Fla.eI z7) g_1.y z7.length); (scMid z21 g g_1).pre g_2 → True ∧ True ∧ True ∧ Sx.Br (decide ((↑z7.length : Int) = z40)) (True ∧ True ∧ True ∧ Sx.Br (decide ((↑(g.n - g_2) : Int) = z40)) z10 (True ∧ True ∧ Sx.Ask (z40 ≤ z40 ∧ z40 < (↑(g.n - g_2) : Int)) ∧ True ∧ True ∧ True ∧ Sx.Ask (z35 ≤ z12 - z70 ∧ z12 - z70 ≤ z37) ∧ True ∧ True ∧ ∃ (g_3 : Flq.ScI), let z95 := (Flp.act z2 g_3.y g_3.i); Sx.Ask (z103.pre g_3) ∧ True ∧ ((Sx.Ask (g.n - g_2 = g.n - g_3.i) ∧ ∀ (i : Nat), let z65 := (Flc.srtE g (g_2 + i)); let z46 := (Flc.srtE g (g_3.i + i)); i < g.n - g_3.i → (((((True ∧ Sx.Ask z0 ∧ Sx.Ask (z65.x = z46.x)) ∧ Sx.Ask z0 ∧ Sx.Ask (z65.y = z46.y)) ∧ Sx.Ask z0 ∧ Sx.Ask (z65.en = z46.en)) ∧ Sx.Ask z0 ∧ Sx.Ask (z65.dx = z46.dx)) ∧ Sx.Ask z0 ∧ Sx.Ask (z65.dy = z46.dy)) ∧ Sx.Ask z0 ∧ Sx.Ask (z65.s = z46.s)) ∧ z13 ∧ Sx.Ask z9 ∧ True ∧ Sx.Ask z9 ∧ True) ∧ z1 ∧ z41 ∧ (Sx.Ask (g_1.R.length = g_3.R.length) ∧ ∀ (i : Nat), i < g_3.R.length → ((True ∧ Sx.Ask z0 ∧ Sx.Ask ((Rga.rI g_1.R i).y = (Rga.rI g_3.R i).y)) ∧ Sx.Ask z0 ∧ Sx.Ask ((Rga.rI g_1.R i).x0 = (Rga.rI g_3.R i).x0)) ∧ Sx.Ask z0 ∧ Sx.Ask ((Rga.rI g_1.R i).x1 = (Rga.rI g_3.R i).x1)) ∧ (Sx.Ask (z7.length = z95.length) ∧ ∀ (i : Nat), let z91 := (Fla.eI z7 i); let z23 := (Fla.eI z95 i); i < z95.length → (((((True ∧ Sx.Ask z0 ∧ Sx.Ask (z91.x = z23.x)) ∧ Sx.Ask z0 ∧ Sx.Ask (z91.y = z23.y)) ∧ Sx.Ask z0 ∧ Sx.Ask (z91.en = z23.en)) ∧ Sx.Ask z0 ∧ Sx.Ask (z91.dx = z23.dx)) ∧ Sx.Ask z0 ∧ Sx.Ask (z91.dy = z23.dy)) ∧ Sx.Ask z0 ∧ Sx.Ask (z91.s = z23.s)) ∧ (True ∧ Sx.Ask z0 ∧ Sx.Ask ((if z12 - z70 > g_1.y then z12 - z70 else g_1.y) = g_3.y)) ∧ True)) (True ∧ True ∧ True ∧ True ∧ ((True ∧ (True ∧ z106 ∧ True) ∧ (Sx.Ask (z7.length = z7.length) ∧ ∀ (i : Nat), let z54 := (Fla.eI z7 i); i < z7.length → (((((True ∧ Sx.Ask z0 ∧ Sx.Ask (z54.x = z54.x)) ∧ Sx.Ask z0 ∧ Sx.Ask (z54.y = z54.y)) ∧ Sx.Ask z0 ∧ Sx.Ask (z54.en = z54.en)) ∧ Sx.Ask z0 ∧ Sx.Ask (z54.dx = z54.dx)) ∧ Sx.Ask z0 ∧ Sx.Ask (z54.dy = z54.dy)) ∧ Sx.Ask z0 ∧ Sx.Ask (z54.s = z54.s)) ∧ True) ∧ Sx.Ask ((∀ (i : Nat), i < z7.length → (Fla.eI z7 i).ok) ∧ z7.length ≤ (4294967296 : Nat) ∧ z86 ≤ g_1.y ∧ g_1.y ≤ z72)) ∧ True ∧ True ∧ (∃ (g_3 : Flq.ScJ), let z96 := (Flp.act z2 g_1.y g_3.i); let z38 := (Flp.row g g_1.y g_3.i); Sx.Ask (z36.pre g_3) ∧ True ∧ ((Sx.Ask (g.n - g_2 = g.n - g_3.i) ∧ ∀ (i : Nat), let z66 := (Flc.srtE g (g_2 + i)); let z47 := (Flc.srtE g (g_3.i + i)); i < g.n - g_3.i → (((((True ∧ Sx.Ask z0 ∧ Sx.Ask (z66.x = z47.x)) ∧ Sx.Ask z0 ∧ Sx.Ask (z66.y = z47.y)) ∧ Sx.Ask z0 ∧ Sx.Ask (z66.en = z47.en)) ∧ Sx.Ask z0 ∧ Sx.Ask (z66.dx = z47.dx)) ∧ Sx.Ask z0 ∧ Sx.Ask (z66.dy = z47.dy)) ∧ Sx.Ask z0 ∧ Sx.Ask (z66.s = z47.s)) ∧ z13 ∧ Sx.Ask z9 ∧ True ∧ Sx.Ask z9 ∧ (Sx.Ask z0 ∧ Sx.Ask (z40 = Flp.pre z38 g_3.j)) ∧ (Sx.Ask z0 ∧ Sx.Ask (z40 = Flq.fromI z38 g_3.j)) ∧ (Sx.Ask (z55.length = z38.length) ∧ ∀ (i : Nat), i < z38.length → (True ∧ Sx.Ask z0 ∧ Sx.Ask ((Fld.cI z55 i).x = (Fld.cI z38 i).x)) ∧ Sx.Ask z0 ∧ Sx.Ask ((Fld.cI z55 i).s = (Fld.cI z38 i).s)) ∧ (Sx.Ask z0 ∧ Sx.Ask ((↑z55.length : Int) = (↑z38.length : Int))) ∧ (Sx.Ask z0 ∧ Sx.Ask (z40 = (↑g_3.j : Int))) ∧ True) ∧ z1 ∧ z41 ∧ (Sx.Ask (g_1.R.length = g_3.R.length) ∧ ∀ (i : Nat), i < g_3.R.length → ((True ∧ Sx.Ask z0 ∧ Sx.Ask ((Rga.rI g_1.R i).y = (Rga.rI g_3.R i).y)) ∧ Sx.Ask z0 ∧ Sx.Ask ((Rga.rI g_1.R i).x0 = (Rga.rI g_3.R i).x0)) ∧ Sx.Ask z0 ∧ Sx.Ask ((Rga.rI g_1.R i).x1 = (Rga.rI g_3.R i).x1)) ∧ (Sx.Ask (z7.length = z96.length) ∧ ∀ (i : Nat), let z92 := (Fla.eI z7 i); let z24 := (Fla.eI z96 i); i < z96.length → (((((True ∧ Sx.Ask z0 ∧ Sx.Ask (z92.x = z24.x)) ∧ Sx.Ask z0 ∧ Sx.Ask (z92.y = z24.y)) ∧ Sx.Ask z0 ∧ Sx.Ask (z92.en = z24.en)) ∧ Sx.Ask z0 ∧ Sx.Ask (z92.dx = z24.dx)) ∧ Sx.Ask z0 ∧ Sx.Ask (z92.dy = z24.dy)) ∧ Sx.Ask z0 ∧ Sx.Ask (z92.s = z24.s)) ∧ z16 ∧ True) ∧ ∀ (g_3 : Flq.ScJ), let z67 := (↑g_3.j : Int); let z11 := (Flp.act z2 g_1.y g_3.i); let z6 := (Flp.row g g_1.y g_3.i); let z93 := (↑z6.length : Int); let z71 := (if z86 > Flq.fromI z6 g_3.j then z86 else Flq.fromI z6 g_3.j); let z14 := (Fld.cI z6 z67.toNat); let z107 := (if z72 < z14.x then z72 else z14.x); let z74 := (z35 ≤ Flp.pre z6 g_3.j + z14.s ∧ Flp.pre z6 g_3.j + z14.s ≤ z37); let z5 := (Rga.AdG.mk g_3.R.length (Rga.rI g_3.R) (Rga.Rn.mk g_1.y z71 z107)); z36.pre g_3 → True ∧ Sx.Br (decide (z67 < z93)) (Sx.Ask (z40 ≤ z67 ∧ z67 < z93) ∧ True ∧ True ∧ True ∧ True ∧ True ∧ (((Sx.Ask z0 ∧ Sx.Ask (Flp.pre z6 g_3.j = Flp.pre z6 g_3.j)) ∧ True) ∧ Sx.Ask ((-1048576 : Int) ≤ Flp.pre z6 g_3.j ∧ Flp.pre z6 g_3.j ≤ (1048576 : Int))) ∧ Sx.Br (ins1 (Flp.pre z6 g_3.j)) (True ∧ True ∧ True ∧ True ∧ True ∧ True ∧ ((True ∧ (Sx.Ask z9 ∧ z106 ∧ (Sx.Ask z0 ∧ Sx.Ask (z71 = if z86 > Flq.fromI z6 g_3.j then z86 else Flq.fromI z6 g_3.j)) ∧ (Sx.Ask z0 ∧ Sx.Ask (z107 = if z72 < z14.x then z72 else z14.x)) ∧ True) ∧ z41 ∧ (Sx.Ask (g_3.R.length = g_3.R.length) ∧ ∀ (i : Nat), let z76 := (Rga.rI g_3.R i); i < g_3.R.length → ((True ∧ Sx.Ask z0 ∧ Sx.Ask (z76.y = z76.y)) ∧ Sx.Ask z0 ∧ Sx.Ask (z76.x0 = z76.x0)) ∧ Sx.Ask z0 ∧ Sx.Ask (z76.x1 = z76.x1)) ∧ True) ∧ Sx.Ask (g_3.R.length ≤ (4294967296 : Nat))) ∧ True ∧ True ∧ True ∧ Sx.Ask z74 ∧ True ∧ True ∧ True ∧ True ∧ Sx.Ask (z35 ≤ z67 + z70 ∧ z67 + z70 ≤ z37) ∧ True ∧ ∃ (g' : Flq.ScJ), let z98 := (Flp.act z2 g_1.y g'.i); let z42 := (Flp.row g g_1.y g'.i); Sx.Ask (z36.pre g') ∧ True ∧ (((Sx.Ask (g.n - g_3.i = g.n - g'.i) ∧ ∀ (i : Nat), let z57 := (Flc.srtE g (g'.i + i)); let z48 := (Flc.srtE g (g_3.i + i)); i < g.n - g'.i → (((((True ∧ Sx.Ask z0 ∧ Sx.Ask (z48.x = z57.x)) ∧ Sx.Ask z0 ∧ Sx.Ask (z48.y = z57.y)) ∧ Sx.Ask z0 ∧ Sx.Ask (z48.en = z57.en)) ∧ Sx.Ask z0 ∧ Sx.Ask (z48.dx = z57.dx)) ∧ Sx.Ask z0 ∧ Sx.Ask (z48.dy = z57.dy)) ∧ Sx.Ask z0 ∧ Sx.Ask (z48.s = z57.s)) ∧ z13 ∧ Sx.Ask z9 ∧ True ∧ Sx.Ask z9 ∧ (Sx.Ask z0 ∧ Sx.Ask (Flp.pre z6 g_3.j + z14.s = Flp.pre z42 g'.j)) ∧ (Sx.Ask z0 ∧ Sx.Ask (z14.x = Flq.fromI z42 g'.j)) ∧ (Sx.Ask (z6.length = z42.length) ∧ ∀ (i : Nat), i < z42.length → (True ∧ Sx.Ask z0 ∧ Sx.Ask ((Fld.cI z6 i).x = (Fld.cI z42 i).x)) ∧ Sx.Ask z0 ∧ Sx.Ask ((Fld.cI z6 i).s = (Fld.cI z42 i).s)) ∧ (Sx.Ask z0 ∧ Sx.Ask (z93 = (↑z42.length : Int))) ∧ (Sx.Ask z0 ∧ Sx.Ask (z67 + z70 = (↑g'.j : Int))) ∧ True) ∧ z1 ∧ z41 ∧ (Sx.Ask (z5.L.length = g'.R.length) ∧ ∀ (i : Nat), i < g'.R.length → ((True ∧ Sx.Ask z0 ∧ Sx.Ask ((Rga.rI z5.L i).y = (Rga.rI g'.R i).y)) ∧ Sx.Ask z0 ∧ Sx.Ask ((Rga.rI z5.L i).x0 = (Rga.rI g'.R i).x0)) ∧ Sx.Ask z0 ∧ Sx.Ask ((Rga.rI z5.L i).x1 = (Rga.rI g'.R i).x1)) ∧ (Sx.Ask (z11.length = z98.length) ∧ ∀ (i : Nat), let z82 := (Fla.eI z11 i); let z27 := (Fla.eI z98 i); i < z98.length → (((((True ∧ Sx.Ask z0 ∧ Sx.Ask (z82.x = z27.x)) ∧ Sx.Ask z0 ∧ Sx.Ask (z82.y = z27.y)) ∧ Sx.Ask z0 ∧ Sx.Ask (z82.en = z27.en)) ∧ Sx.Ask z0 ∧ Sx.Ask (z82.dx = z27.dx)) ∧ Sx.Ask z0 ∧ Sx.Ask (z82.dy = z27.dy)) ∧ Sx.Ask z0 ∧ Sx.Ask (z82.s = z27.s)) ∧ z16 ∧ True) ∧ Sx.Ask (z36.meas g' < z36.meas g_3)) (True ∧ True ∧ True ∧ Sx.Ask z74 ∧ True ∧ True ∧ True ∧ True ∧ Sx.Ask (z35 ≤ z67 + z70 ∧ z67 + z70 ≤ z37) ∧ True ∧ ∃ (g' : Flq.ScJ), let z99 := (Flp.act z2 g_1.y g'.i); let z43 := (Flp.row g g_1.y g'.i); Sx.Ask (z36.pre g') ∧ True ∧ (((Sx.Ask (g.n - g_3.i = g.n - g'.i) ∧ ∀ (i : Nat), let z58 := (Flc.srtE g (g'.i + i)); let z49 := (Flc.srtE g (g_3.i + i)); i < g.n - g'.i → (((((True ∧ Sx.Ask z0 ∧ Sx.Ask (z49.x = z58.x)) ∧ Sx.Ask z0 ∧ Sx.Ask (z49.y = z58.y)) ∧ Sx.Ask z0 ∧ Sx.Ask (z49.en = z58.en)) ∧ Sx.Ask z0 ∧ Sx.Ask (z49.dx = z58.dx)) ∧ Sx.Ask z0 ∧ Sx.Ask (z49.dy = z58.dy)) ∧ Sx.Ask z0 ∧ Sx.Ask (z49.s = z58.s)) ∧ z13 ∧ Sx.Ask z9 ∧ True ∧ Sx.Ask z9 ∧ (Sx.Ask z0 ∧ Sx.Ask (Flp.pre z6 g_3.j + z14.s = Flp.pre z43 g'.j)) ∧ (Sx.Ask z0 ∧ Sx.Ask (z14.x = Flq.fromI z43 g'.j)) ∧ (Sx.Ask (z6.length = z43.length) ∧ ∀ (i : Nat), i < z43.length → (True ∧ Sx.Ask z0 ∧ Sx.Ask ((Fld.cI z6 i).x = (Fld.cI z43 i).x)) ∧ Sx.Ask z0 ∧ Sx.Ask ((Fld.cI z6 i).s = (Fld.cI z43 i).s)) ∧ (Sx.Ask z0 ∧ Sx.Ask (z93 = (↑z43.length : Int))) ∧ (Sx.Ask z0 ∧ Sx.Ask (z67 + z70 = (↑g'.j : Int))) ∧ True) ∧ z1 ∧ z41 ∧ (Sx.Ask (g_3.R.length = g'.R.length) ∧ ∀ (i : Nat), i < g'.R.length → ((True ∧ Sx.Ask z0 ∧ Sx.Ask ((Rga.rI g_3.R i).y = (Rga.rI g'.R i).y)) ∧ Sx.Ask z0 ∧ Sx.Ask ((Rga.rI g_3.R i).x0 = (Rga.rI g'.R i).x0)) ∧ Sx.Ask z0 ∧ Sx.Ask ((Rga.rI g_3.R i).x1 = (Rga.rI g'.R i).x1)) ∧ (Sx.Ask (z11.length = z99.length) ∧ ∀ (i : Nat), let z83 := (Fla.eI z11 i); let z28 := (Fla.eI z99 i); i < z99.length → (((((True ∧ Sx.Ask z0 ∧ Sx.Ask (z83.x = z28.x)) ∧ Sx.Ask z0 ∧ Sx.Ask (z83.y = z28.y)) ∧ Sx.Ask z0 ∧ Sx.Ask (z83.en = z28.en)) ∧ Sx.Ask z0 ∧ Sx.Ask (z83.dx = z28.dx)) ∧ Sx.Ask z0 ∧ Sx.Ask (z83.dy = z28.dy)) ∧ Sx.Ask z0 ∧ Sx.Ask (z83.s = z28.s)) ∧ z16 ∧ True) ∧ Sx.Ask (z36.meas g' < z36.meas g_3))) (∃ (g_4 : Flq.ScI), let z97 := (Flp.act z2 g_4.y g_4.i); Sx.Ask (z103.pre g_4) ∧ True ∧ ((Sx.Ask (g.n - g_3.i = g.n - g_4.i) ∧ ∀ (i : Nat), let z51 := (Flc.srtE g (g_4.i + i)); let z50 := (Flc.srtE g (g_3.i + i)); i < g.n - g_4.i → (((((True ∧ Sx.Ask z0 ∧ Sx.Ask (z50.x = z51.x)) ∧ Sx.Ask z0 ∧ Sx.Ask (z50.y = z51.y)) ∧ Sx.Ask z0 ∧ Sx.Ask (z50.en = z51.en)) ∧ Sx.Ask z0 ∧ Sx.Ask (z50.dx = z51.dx)) ∧ Sx.Ask z0 ∧ Sx.Ask (z50.dy = z51.dy)) ∧ Sx.Ask z0 ∧ Sx.Ask (z50.s = z51.s)) ∧ z13 ∧ Sx.Ask z9 ∧ True ∧ Sx.Ask z9 ∧ True) ∧ z1 ∧ z41 ∧ (Sx.Ask (g_3.R.length = g_4.R.length) ∧ ∀ (i : Nat), i < g_4.R.length → ((True ∧ Sx.Ask z0 ∧ Sx.Ask ((Rga.rI g_3.R i).y = (Rga.rI g_4.R i).y)) ∧ Sx.Ask z0 ∧ Sx.Ask ((Rga.rI g_3.R i).x0 = (Rga.rI g_4.R i).x0)) ∧ Sx.Ask z0 ∧ Sx.Ask ((Rga.rI g_3.R i).x1 = (Rga.rI g_4.R i).x1)) ∧ (Sx.Ask (z11.length = z97.length) ∧ ∀ (i : Nat), let z84 := (Fla.eI z11 i); let z25 := (Fla.eI z97 i); i < z97.length → (((((True ∧ Sx.Ask z0 ∧ Sx.Ask (z84.x = z25.x)) ∧ Sx.Ask z0 ∧ Sx.Ask (z84.y = z25.y)) ∧ Sx.Ask z0 ∧ Sx.Ask (z84.en = z25.en)) ∧ Sx.Ask z0 ∧ Sx.Ask (z84.dx = z25.dx)) ∧ Sx.Ask z0 ∧ Sx.Ask (z84.dy = z25.dy)) ∧ Sx.Ask z0 ∧ Sx.Ask (z84.s = z25.s)) ∧ (True ∧ Sx.Ask z0 ∧ Sx.Ask (g_1.y = g_4.y)) ∧ True))) ∧ ∀ (g_2 : Flq.ScI), z103.pre g_2 → True ∧ True ∧ True ∧ True ∧ Sx.Ask (z35 ≤ g_2.y + z70 ∧ g_2.y + z70 ≤ z37) ∧ True ∧ ∃ (g' : Flq.ScI), let z20 := (Flp.act z2 (g'.y - z70) g'.i); Sx.Ask (z77.pre g') ∧ True ∧ (((Sx.Ask (g.n - g_2.i = g.n - g'.i) ∧ ∀ (i : Nat), let z59 := (Flc.srtE g (g'.i + i)); let z52 := (Flc.srtE g (g_2.i + i)); i < g.n - g'.i → (((((True ∧ Sx.Ask z0 ∧ Sx.Ask (z52.x = z59.x)) ∧ Sx.Ask z0 ∧ Sx.Ask (z52.y = z59.y)) ∧ Sx.Ask z0 ∧ Sx.Ask (z52.en = z59.en)) ∧ Sx.Ask z0 ∧ Sx.Ask (z52.dx = z59.dx)) ∧ Sx.Ask z0 ∧ Sx.Ask (z52.dy = z59.dy)) ∧ Sx.Ask z0 ∧ Sx.Ask (z52.s = z59.s)) ∧ z13 ∧ Sx.Ask z9 ∧ True ∧ Sx.Ask z9 ∧ True) ∧ z1 ∧ z41 ∧ (Sx.Ask (g_2.R.length = g'.R.length) ∧ ∀ (i : Nat), i < g'.R.length → ((True ∧ Sx.Ask z0 ∧ Sx.Ask ((Rga.rI g_2.R i).y = (Rga.rI g'.R i).y)) ∧ Sx.Ask z0 ∧ Sx.Ask ((Rga.rI g_2.R i).x0 = (Rga.rI g'.R i).x0)) ∧ Sx.Ask z0 ∧ Sx.Ask ((Rga.rI g_2.R i).x1 = (Rga.rI g'.R i).x1)) ∧ (Sx.Ask ((Flp.act z2 g_2.y g_2.i).length = z20.length) ∧ ∀ (i : Nat), let z85 := (Fla.eI z20 i); let z26 := (Fla.eI (Flp.act z2 g_2.y g_2.i) i); i < z20.length → (((((True ∧ Sx.Ask z0 ∧ Sx.Ask (z26.x = z85.x)) ∧ Sx.Ask z0 ∧ Sx.Ask (z26.y = z85.y)) ∧ Sx.Ask z0 ∧ Sx.Ask (z26.en = z85.en)) ∧ Sx.Ask z0 ∧ Sx.Ask (z26.dx = z85.dx)) ∧ Sx.Ask z0 ∧ Sx.Ask (z26.dy = z85.dy)) ∧ Sx.Ask z0 ∧ Sx.Ask (z26.s = z85.s)) ∧ (True ∧ Sx.Ask z0 ∧ Sx.Ask (g_2.y + z70 = g'.y)) ∧ True) ∧ Sx.Ask (z77.meas g' < z77.meas g_1)) z10) (by kernel_rfl) ?_
  simp only [ask_iff, br_iff, eq_self, true_and, and_true, implies_true, forall_const, decide_eq_true_eq, decide_eq_false_iff_not, ne_eq, Nat.mul_one, Nat.add_zero, Nat.zero_add, Int.toNat_natCast, and_self, List.append_assoc, false_and, and_false]
  have hz1 : ins1 0 = false := rfl
  obtain ⟨⟨hn, hok⟩, hb⟩ := id hg
  have e0 : Int.toNat 0 = 0 := rfl
  have e1 : (Int.ofNat 1).toNat = 1 := rfl
  have e2 : ∀ m : Nat, Int.ofNat m = (m : Int) := fun _ => rfl
  refine ⟨hn, ⟨⟨-8192, 0, []⟩, sc_start, ⟨rfl, fun k _ => same_of (by rw [Nat.zero_add])⟩, ⟨rfl, fun k hk => absurd hk (Nat.not_lt_zero _)⟩, ⟨rfl, fun k hk => absurd hk (Nat.not_lt_zero _)⟩, rfl⟩, fun s hs => ⟨fun hy => ⟨⟨?_, ⟨⟨s.i, ?_, ⟨rfl, fun k _ => same_of rfl⟩, ?_, fun k hk => same_of ?_⟩, fun i hi => ⟨fun hlt => ⟨?_, fun hle => ⟨?_, fun hen => ?_, fun hen => ?_⟩, fun hgt => ?_⟩, fun hge => ?_⟩⟩, fun i hm => ⟨fun ha => ⟨fun hni => ?_, fun hni => ?_⟩, fun ha => ?_⟩⟩, fun t ht => ?_⟩, fun hy => ?_⟩⟩
  · have hs : ScP ins1 g s := hs
    have := act_len (srtE g) (s.y - 1) s.i
    have := hs.hi
    omega
  · have hs : ScP ins1 g s := hs
    exact ⟨Nat.le_refl _, hs.hi, hs.low⟩
  · rw [kept_act]
  · rw [kept_act]
  · omega
  · omega
  · -- taken and active
    have hi : s.i ≤ i ∧ i ≤ g.n ∧ ∀ k, k < i → (srtE g k).y ≤ s.y := hi
    have hal := act_len (srtE g) s.y i
    rw [e0, Nat.add_zero] at hle hen
    have hA : act (srtE g) s.y (i + 1) = act (srtE g) s.y i ++ [srtE g i] := by rw [act_succ, if_pos hen]
    have hpre : (scTake 77 g s).pre (i + 1) := ⟨by omega, by show i + 1 ≤ g.n; omega, fun k hk => by
      by_cases c : k = i
      · rw [c]; exact hle
      · exact hi.2.2 k (by omega)⟩
    refine ⟨by omega, by omega, by simp only [e2]; omega, i + 1, hpre, ⟨⟨by simp only [e2]; omega, fun k _ => same_of (by rw [e1]; congr 1; omega)⟩, by rw [hA]; simp, ?_⟩, by show g.n - (i + 1) < g.n - i; omega⟩
    rw [e0, Nat.add_zero]
    exact app_of hA
  · have hi : s.i ≤ i ∧ i ≤ g.n ∧ ∀ k, k < i → (srtE g k).y ≤ s.y := hi
    rw [e0, Nat.add_zero] at hle hen
    have hA : act (srtE g) s.y (i + 1) = act (srtE g) s.y i := by rw [act_succ, if_neg hen, List.append_nil]
    have hpre : (scTake 77 g s).pre (i + 1) := ⟨by omega, by show i + 1 ≤ g.n; omega, fun k hk => by
      by_cases c : k = i
      · rw [c]; exact hle
      · exact hi.2.2 k (by omega)⟩
    refine ⟨by simp only [e2]; omega, i + 1, hpre, ⟨⟨by simp only [e2]; omega, fun k _ => same_of (by rw [e1]; congr 1; omega)⟩, by rw [hA], fun k _ => same_of (by rw [hA])⟩, by show g.n - (i + 1) < g.n - i; omega⟩
  · have hi : s.i ≤ i ∧ i ≤ g.n ∧ ∀ k, k < i → (srtE g k).y ≤ s.y := hi
    rw [e0, Nat.add_zero] at hgt
    refine ⟨i, ⟨hi.1, hi.2.1, hi.2.2, fun k hk hkn => ?_⟩, ⟨rfl, fun k _ => same_of rfl⟩, rfl, fun k _ => same_of rfl⟩
    by_cases c : k = i
    · rw [c]; omega
    · have := srt_sorted g (show i < k by omega) hkn
      omega
  · have hi : s.i ≤ i ∧ i ≤ g.n ∧ ∀ k, k < i → (srtE g k).y ≤ s.y := hi
    exact ⟨i, ⟨hi.1, hi.2.1, hi.2.2, fun k hk hkn => by omega⟩, ⟨rfl, fun k _ => same_of rfl⟩, rfl, fun k _ => same_of rfl⟩
  · have hm : ScM g s i := hm
    have hR := sc_break hz1 hs hm (by omega) (by omega)
    exact ⟨by rw [← hR], fun k _ => run_same (by rw [← hR])⟩
  · have hm : ScM g s i := hm
    have hs' : ScP ins1 g s := hs
    have hin : i < g.n := by omega
    rw [e0, Nat.add_zero]
    have hF := (all_srt (P := Ed.ok) g hok i hin).1.2.1
    have hY := hs'.hy
    have hup := hm.up i (Nat.le_refl _) hin
    generalize hq : (if 8192 < (srtE g i).y then 8192 else (srtE g i).y) - 1 = q
    have hq1 : q < 8192 ∧ q < (srtE g i).y := by rw [← hq]; split <;> omega
    have hq2 : -9223372036854775808 ≤ q ∧ q ≤ 9223372036854775807 := by rw [← hq]; split <;> omega
    have hsk : ∀ Y, Y = (if q > s.y then q else s.y) → (scCut ins1 77 g s).pre ⟨Y, i, s.R⟩ := fun Y e => by
      have y1 : s.y ≤ Y := by rw [e]; split <;> omega
      have y2 : Y < 8192 := by rw [e]; split <;> omega
      have y3 : Y = s.y ∨ Y < (srtE g i).y := by rw [e]; split <;> omega
      exact ⟨sc_skip hz1 hs hm (by omega) hin hy y1 y2 y3, y1⟩
    have hae : act (srtE g) (if q > s.y then q else s.y) i = act (srtE g) s.y i := by
      have h0 : (act (srtE g) s.y i).length = 0 := by omega
      rw [List.length_eq_zero_iff.1 h0]
      refine List.filter_eq_nil_iff.2 fun e he hc => ?_
      obtain ⟨k, hk, rfl⟩ := List.mem_map.1 he
      have h1 := act_nil h0 (List.mem_range.1 hk)
      have h2 := of_decide_eq_true hc
      split at h2 <;> omega
    refine ⟨by omega, hq2, ⟨if q > s.y then q else s.y, i, s.R⟩, hsk _ rfl, ⟨rfl, fun k _ => same_of rfl⟩, ⟨rfl, fun k _ => run_same rfl⟩, ⟨by show _ = (act (srtE g) (if q > s.y then q else s.y) i).length; rw [hae], fun k _ => same_of (by show _ = eI (act (srtE g) (if q > s.y then q else s.y) i) k; rw [hae])⟩, rfl⟩
  · have hm : ScM g s i := hm
    have hs' : ScP ins1 g s := hs
    have hY := hs'.hy
    have hal := act_len (srtE g) s.y i
    refine ⟨⟨act_ok hg hm.hi, by have := hm.hi; omega, by omega, by omega⟩, ⟨⟨i, 0, s.R⟩, sc_in0 hs hm, ⟨⟨rfl, fun k _ => same_of rfl⟩, rfl, rfl, ⟨rfl, fun k _ => ⟨rfl, rfl⟩⟩, rfl, rfl⟩, ⟨rfl, fun k _ => run_same rfl⟩, rfl, fun k _ => same_of rfl⟩, fun t ht => ?_⟩
    have ht : ScJP ins1 g s t := ht
    have hY2 : -8192 ≤ s.y ∧ s.y < 8192 := ⟨hY.1, hy⟩
    have hrl := row_len (y := s.y) ht.mid.hi
    refine ⟨fun hj => ?_, fun hj => ?_⟩
    · have hj : t.j < (row g s.y t.i).length := by omega
      have p1 := pre_in (row_s (y := s.y) hg ht.mid.hi) (j := t.j) (by omega)
      have p2 := pre_in (row_s (y := s.y) hg ht.mid.hi) (j := t.j + 1) hj
      have p3 : pre (row g s.y t.i) (t.j + 1) = pre (row g s.y t.i) t.j + (cI (row g s.y t.i) t.j).s := rfl
      have hmeas : ∀ R, (scIn ins1 77 g s).meas ⟨t.i, t.j + 1, R⟩ < (scIn ins1 77 g s).meas t := fun R => by
        show (row g s.y t.i).length - (t.j + 1) < (row g s.y t.i).length - t.j
        omega
      refine ⟨by omega, by omega, fun hin => ?_, fun hin => ?_⟩
      · have hvl := vld_len ht.vl
        refine ⟨by omega, by omega, by omega, ⟨t.i, t.j + 1, _⟩, sc_in1 hz1 ht hY2 hj hin rfl rfl, ⟨⟨⟨rfl, fun k _ => same_of rfl⟩, rfl, rfl, ⟨rfl, fun k _ => ⟨rfl, rfl⟩⟩, rfl, rfl⟩, ⟨by rw [addL], fun k _ => run_same (by rw [addL])⟩, rfl, fun k _ => same_of rfl⟩, hmeas _⟩
      · exact ⟨by omega, by omega, ⟨t.i, t.j + 1, t.R⟩, sc_in2 ht hY2 hj hin, ⟨⟨⟨rfl, fun k _ => same_of rfl⟩, rfl, rfl, ⟨rfl, fun k _ => ⟨rfl, rfl⟩⟩, rfl, rfl⟩, ⟨rfl, fun k _ => run_same rfl⟩, rfl, fun k _ => same_of rfl⟩, hmeas _⟩
    · have hj : ¬ t.j < (row g s.y t.i).length := by omega
      exact ⟨⟨s.y, t.i, t.R⟩, ⟨sc_out hz1 hb ht hY2 hj, Int.le_refl _⟩, ⟨rfl, fun k _ => same_of rfl⟩, ⟨rfl, fun k _ => run_same rfl⟩, ⟨rfl, fun k _ => same_of rfl⟩, rfl⟩
  · have ht : ScQ ins1 g t ∧ s.y ≤ t.y := ht
    have hty := ht.1.hy
    have ea : t.y + 1 - 1 = t.y := by omega
    refine ⟨by omega, ⟨t.y + 1, t.i, t.R⟩, sc_next ht.1, ⟨⟨rfl, fun k _ => same_of rfl⟩, ⟨rfl, fun k _ => run_same rfl⟩, ⟨by show _ = (act (srtE g) (t.y + 1 - 1) t.i).length; rw [ea], fun k _ => same_of (by show _ = eI (act (srtE g) (t.y + 1 - 1) t.i) k; rw [ea])⟩, rfl⟩, ?_⟩
    show (8192 - (t.y + 1)).toNat < (8192 - s.y).toNat
    omega
  · have hR := sc_done hs hy
    exact ⟨by rw [← hR], fun k _ => run_same (by rw [← hR])⟩
/-! Fill. -/
theorem cyc (φ : Nat → Int) : ∀ n, sumN (fun i => φ ((i + 1) % n)) n = sumN φ n
  | 0 => rfl
  | m + 1 => by
    rw [sumN_head φ m]
    show sumN (fun i => φ ((i + 1) % (m + 1))) m + φ ((m + 1) % (m + 1)) = _
    rw [Nat.mod_self, sumN_congr (ψ := fun k => φ (k + 1)) (fun k hk => by show φ ((k + 1) % (m + 1)) = φ (k + 1); rw [Nat.mod_eq_of_lt (by omega)])]
    omega
theorem sumN_sub (φ ψ : Nat → Int) : ∀ n, sumN (fun i => φ i - ψ i) n = sumN φ n - sumN ψ n
  | 0 => rfl
  | n + 1 => by
    show sumN (fun i => φ i - ψ i) n + (φ n - ψ n) = sumN φ n + φ n - (sumN ψ n + ψ n)
    rw [sumN_sub φ ψ n]
    omega
/-- Below the row, or not. -/
def up (y : Int) (p : Pt) : Int := if p.y ≤ y then 1 else 0
def onS (y : Int) (e : Ed) : Int := if Ed.on e y = true then e.s else 0
theorem sl_mkE (y : Int) (a b : Pt) : sl (onS y) (mkE a b) = up y a - up y b := by
  unfold mkE
  split
  · show onS y _ + 0 = _
    unfold onS up Ed.on
    simp only [decide_eq_true_eq]
    split <;> split <;> split <;> omega
  · split
    · show onS y _ + 0 = _
      unfold onS up Ed.on
      simp only [decide_eq_true_eq]
      split <;> split <;> split <;> omega
    · show (0 : Int) = _
      unfold up
      split <;> split <;> omega
theorem sl_ed (y : Int) (l : Li) : ∀ j, sl (onS y) (l.ed j) = sumN (fun i => up y (l.f i) - up y (l.f ((i + 1) % l.n))) j
  | 0 => rfl
  | j + 1 => by
    show sl (onS y) (l.ed j ++ _) = _ + _
    rw [sl_app, sl_ed y l j, sl_mkE]
theorem sl_li (y : Int) (l : Li) : sl (onS y) (l.ed l.n) = 0 := by
  rw [sl_ed, sumN_sub (fun i => up y (l.f i)) (fun i => up y (l.f ((i + 1) % l.n))), cyc (fun i => up y (l.f i))]
  omega
theorem sl_lns (y : Int) (g : Lns) : ∀ i, sl (onS y) (g.ed i) = 0
  | 0 => rfl
  | i + 1 => by
    show sl (onS y) (g.ed i ++ _) = 0
    rw [sl_app, sl_lns y g i, sl_li]
    rfl
theorem bal (g : Lns) (y : Int) : tot (eI g.E) g.E.length y = 0 := (sl_eI (onS y) g.E).trans (sl_lns y g g.n)
theorem okE {g : Lns} (h : g.fin) (h2 : g.E.length ≤ 1048576) : okG ⟨g.E.length, eI g.E⟩ :=
  ⟨⟨h2, fun i hi => Lns.ed_ok h g.n (Nat.le_refl _) _ (eI_mem hi)⟩, bal g⟩
noncomputable def fillL (ins : Int → Bool) (g : Lns) : List Rn := ofSet (chi ins (eI g.E) g.E.length)
noncomputable def spFill1 : FSpec := mkSpec 56 (γ := Lns) (fun | [s, _] => some ⟨slLen s, lnsD s⟩ | _ => none) (fun g => [lnsS g, .int .i64 0]) (fun g => g.fin ∧ g.E.length ≤ 1048576) (fun g => .tup 2 (lst [runsS (fillL ins1 g), .int .i64 0]))
theorem ok_fill1 : SpecOK Try.prog spFill1 := by
  refine spec_sound (specs := [spChkFi, Fla.spEdges, spScan1]) (all_ok (⟨ok_chkFi, Fla.ok_edges, ok_scan1, trivial⟩)) (eqs := []) (fun _ _ h => (List.not_mem_nil h).elim) Aff.mixed Try.func56 rfl (by kernel_rfl) (fun _ _ => by kernel_rfl) (fun g => A0) (fun g => Nat.le_of_ble_eq_true (by kernel_rfl)) ?_
  rintro g hg
  refine vc_of (B := let z2 := (Rgl.ofSet (Flp.chi ins1 (Fla.eI g.E) g.E.length));let z1 := (IntKind.i64 = IntKind.i64);let z0 := (((Sx.Ask (g.n = g.n) ∧ ∀ (i : Nat), i < g.n → (True ∧ Sx.Ask ((g.f i).n = (g.f i).n) ∧ ∀ (i_1 : Nat), let z5 := ((g.f i).f i_1); i_1 < (g.f i).n → (True ∧ Sx.Ask z1 ∧ Sx.Ask (z5.x = z5.x)) ∧ Sx.Ask z1 ∧ Sx.Ask (z5.y = z5.y)) ∧ Sx.Ask ((g.f i).c = (g.f i).c)) ∧ True) ∧ Sx.Ask g.fin);True ∧ True ∧ True ∧ z0 ∧ True ∧ True ∧ True ∧ True ∧ True ∧ True ∧ True ∧ True ∧ True ∧ z0 ∧ True ∧ ((True ∧ (True ∧ (Sx.Ask ((77 : Nat) = (77 : Go.FuncId)) ∧ True) ∧ True) ∧ (Sx.Ask (g.E.length = g.E.length) ∧ ∀ (i : Nat), let z3 := (Fla.eI g.E i); i < g.E.length → (((((True ∧ Sx.Ask z1 ∧ Sx.Ask (z3.x = z3.x)) ∧ Sx.Ask z1 ∧ Sx.Ask (z3.y = z3.y)) ∧ Sx.Ask z1 ∧ Sx.Ask (z3.en = z3.en)) ∧ Sx.Ask z1 ∧ Sx.Ask (z3.dx = z3.dx)) ∧ Sx.Ask z1 ∧ Sx.Ask (z3.dy = z3.dy)) ∧ Sx.Ask z1 ∧ Sx.Ask (z3.s = z3.s)) ∧ True) ∧ Sx.Ask (okG (Flc.SoG.mk g.E.length (Fla.eI g.E)))) ∧ True ∧ True ∧ True ∧ (True ∧ Sx.Ask (z2.length = (fillL ins1 g).length) ∧ ∀ (i : Nat), let z4 := (Rga.rI (fillL ins1 g) i); i < (fillL ins1 g).length → ((True ∧ Sx.Ask z1 ∧ Sx.Ask ((Rga.rI z2 i).y = z4.y)) ∧ Sx.Ask z1 ∧ Sx.Ask ((Rga.rI z2 i).x0 = z4.x0)) ∧ Sx.Ask z1 ∧ Sx.Ask ((Rga.rI z2 i).x1 = z4.x1)) ∧ Sx.Ask z1 ∧ Sx.Ask ((0 : Int) = (0 : Int))) (by kernel_rfl) ?_
  simp only [ask_iff, br_iff, eq_self, true_and, and_true, implies_true, forall_const, decide_eq_true_eq, decide_eq_false_iff_not, ne_eq, Nat.mul_one, Nat.add_zero, Nat.zero_add, Int.toNat_natCast, and_self, List.append_assoc, false_and, and_false]
  exact ⟨hg.1, hg.1, okE hg.1 hg.2, rfl, fun k _ => run_same rfl⟩
end Go.Proofs.Ytfjbjbmbdadmhaa.Flf
