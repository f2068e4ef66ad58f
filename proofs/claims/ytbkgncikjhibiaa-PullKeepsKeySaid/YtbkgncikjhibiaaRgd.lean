/- Package region: Shift (that clips nothing), Rectangle; printworkskeep1.unites: by the evaluation. -/
import Derived.Test.YtbkgncikjhibiaaRgc
set_option linter.unusedSimpArgs false
set_option linter.unusedVariables false
namespace Go.Proofs.Ytbkgncikjhibiaa.Rgd
open Go.RowKit Sx Num Aff Con Rga Rgl Rgm Rgn Rgb Rgc
set_option maxRecDepth 100000
/-! Shift. -/
structure ShG where
  g : Rg
  dx : Int
  dy : Int
def ShG.f (h : ShG) : Nat → Rn := fun i => shR h.dx h.dy (h.g.f i)
structure ShG.ok (h : ShG) : Prop where
  v : vld h.g.L
  x : -16384 ≤ h.dx ∧ h.dx ≤ 16384
  y : -16384 ≤ h.dy ∧ h.dy ≤ 16384
  r : ∀ i, i < h.g.n → okR (h.f i)
def ShG.L (h : ShG) : List Rn := Lf h.f h.g.n
theorem ShG.L_eq (h : ShG) : h.L = shL h.dx h.dy h.g.L := by
  unfold ShG.L Lf shL Rg.L
  rw [List.map_map]
  rfl
def shInv (h : ShG) : Inv := ⟨Nat, fun i => i ≤ h.g.n, fun i => ⟨[(1, .int .i64 h.dx), (2, .int .i64 h.dy), (9, .own 0 0), (31, rgS h.g), (32, .int .i64 h.g.n), (33, .int .i64 i)],
    [.cells 1 (lst [.osl 1 0]) 55, .row 0 i 3 (fun k => lst (rnL (h.f k))) 43]⟩, fun i => h.g.n - i⟩
def spShift : FSpec := mkSpec 47 (γ := ShG) (fun | [s, .int _ dx, .int _ dy] => some ⟨⟨slLen s, rgD s⟩, dx, dy⟩ | _ => none) (fun h => [rgS h.g, .int .i64 h.dx, .int .i64 h.dy]) ShG.ok (fun h => okP (runsS h.L))
theorem ok_shift : SpecOK Try.prog spShift := by
  refine spec_sound (specs := [spCheckR, spPermitted, spAddR]) (all_ok (⟨ok_checkR, ok_permitted, ok_addR, trivial⟩)) (eqs := []) (fun _ _ h => (List.not_mem_nil h).elim) Aff.mixed Try.func47 rfl (by kernel_rfl) (fun _ _ => by kernel_rfl) (fun g => (⟨[(8, .inv (shInv g))], [(7, [.ownC 0 0 43 3])]⟩ : Ann)) (fun g => Nat.le_of_ble_eq_true (by kernel_rfl)) ?_
  rintro g hg
  refine vc_of (B := let z20 := (8192 : Int);let z18 := (shInv g);let z17 := (-8192 : Int);let z14 := ((0 : Nat) = (0 : Nat));let z13 := ((3 : Int) = (0 : Int));let z6 := (True ∧ Sx.Ask (g.L.length = (0 : Nat)));let z5 := (9223372036854775807 : Int);let z4 := (-9223372036854775808 : Int);let z1 := (IntKind.i64 = IntKind.i64); let z12 := (Sx.Ask z1 ∧ Sx.Ask (g.dy = g.dy)); let z11 := (Sx.Ask z1 ∧ Sx.Ask (g.dx = g.dx)); let z7 := (Sx.Ask z1 ∧ Sx.Ask ((↑g.g.n : Int) = (↑g.g.n : Int))); let z2 := (Sx.Ask (g.g.n = g.g.n) ∧ ∀ (i : Nat), i < g.g.n → ((True ∧ Sx.Ask z1 ∧ Sx.Ask ((g.g.f i).y = (g.g.f i).y)) ∧ Sx.Ask z1 ∧ Sx.Ask ((g.g.f i).x0 = (g.g.f i).x0)) ∧ Sx.Ask z1 ∧ Sx.Ask ((g.g.f i).x1 = (g.g.f i).x1));True ∧ True ∧ True ∧ ((z2 ∧ True) ∧ Sx.Ask (Rga.vld g.g.L ∧ g.g.n ≤ (4294967296 : Nat))) ∧ True ∧ True ∧ True ∧ True ∧ True ∧ True ∧ Sx.Br (decide (g.dx < (-16384 : Int))) (True ∧ True ∧ True ∧ True ∧ True ∧ True ∧ True ∧ True ∧ z6 ∧ Sx.Ask z1 ∧ Sx.Ask z13) (True ∧ True ∧ True ∧ True ∧ Sx.Br (decide ((16384 : Int) < g.dx)) (True ∧ True ∧ True ∧ True ∧ True ∧ True ∧ z6 ∧ Sx.Ask z1 ∧ Sx.Ask z13) (True ∧ True ∧ True ∧ True ∧ Sx.Br (decide (g.dy < (-16384 : Int))) (True ∧ True ∧ True ∧ True ∧ z6 ∧ Sx.Ask z1 ∧ Sx.Ask z13) (True ∧ True ∧ True ∧ Sx.Br (decide ((16384 : Int) < g.dy)) (True ∧ True ∧ True ∧ z6 ∧ Sx.Ask z1 ∧ Sx.Ask z13) (True ∧ True ∧ True ∧ True ∧ (∃ (g_1 : Nat), Sx.Ask (z18.pre g_1) ∧ (z11 ∧ z12 ∧ Sx.Ask z14 ∧ z2 ∧ z7 ∧ (Sx.Ask z1 ∧ Sx.Ask ((0 : Int) = (↑g_1 : Int))) ∧ True) ∧ (True ∧ True) ∧ (Sx.Ask ((0 : Nat) = g_1) ∧ ∀ (i : Nat), i < g_1 → ((True ∧ False) ∧ False) ∧ False) ∧ True) ∧ ∀ (g_1 : Nat), let z8 := (↑g_1 : Int); let z16 := (z4 ≤ z8 + (1 : Int) ∧ z8 + (1 : Int) ≤ z5); let z3 := (g.g.f z8.toNat); let z19 := (z4 ≤ z3.y + g.dy ∧ z3.y + g.dy ≤ z5); let z15 := (Sx.Ask z1 ∧ Sx.Ask (z3.y + g.dy = z3.y + g.dy)); let z10 := (if z20 < z3.x1 + g.dx then z20 else z3.x1 + g.dx); let z9 := (if z17 > z3.x0 + g.dx then z17 else z3.x0 + g.dx); let z0 := (Rga.AdG.mk g_1 (fun (i : Nat) => Rga.Rn.mk ((g.g.f i).y + g.dy) ((g.g.f i).x0 + g.dx) ((g.g.f i).x1 + g.dx)) (Rga.Rn.mk (z3.y + g.dy) z9 z10)); z18.pre g_1 → True ∧ Sx.Br (decide (z8 < (↑g.g.n : Int))) (Sx.Ask ((0 : Int) ≤ z8 ∧ z8 < (↑g.g.n : Int)) ∧ True ∧ True ∧ True ∧ True ∧ True ∧ True ∧ Sx.Ask z19 ∧ ((z15 ∧ True) ∧ Sx.Ask True) ∧ Sx.Br (decide (z17 ≤ z3.y + g.dy) && decide (z3.y + g.dy < z20)) (True ∧ True ∧ True ∧ Sx.Ask z19 ∧ True ∧ True ∧ True ∧ Sx.Ask (z4 ≤ z3.x0 + g.dx ∧ z3.x0 + g.dx ≤ z5) ∧ True ∧ True ∧ True ∧ True ∧ Sx.Ask (z4 ≤ z3.x1 + g.dx ∧ z3.x1 + g.dx ≤ z5) ∧ True ∧ ((True ∧ (Sx.Ask z14 ∧ z15 ∧ (Sx.Ask z1 ∧ Sx.Ask (z9 = if z17 > z3.x0 + g.dx then z17 else z3.x0 + g.dx)) ∧ (Sx.Ask z1 ∧ Sx.Ask (z10 = if z20 < z3.x1 + g.dx then z20 else z3.x1 + g.dx)) ∧ True) ∧ (True ∧ True) ∧ (Sx.Ask (g_1 = g_1) ∧ ∀ (i : Nat), i < g_1 → ((True ∧ Sx.Ask z1 ∧ Sx.Ask ((g.g.f i).y + g.dy = (g.g.f i).y + g.dy)) ∧ Sx.Ask z1 ∧ Sx.Ask ((g.g.f i).x0 + g.dx = (g.g.f i).x0 + g.dx)) ∧ Sx.Ask z1 ∧ Sx.Ask ((g.g.f i).x1 + g.dx = (g.g.f i).x1 + g.dx)) ∧ True) ∧ Sx.Ask (g_1 ≤ (4294967296 : Nat))) ∧ Sx.Ask z16 ∧ True ∧ ∃ (g' : Nat), Sx.Ask (z18.pre g') ∧ ((z11 ∧ z12 ∧ Sx.Ask z14 ∧ z2 ∧ z7 ∧ (Sx.Ask z1 ∧ Sx.Ask (z8 + (1 : Int) = (↑g' : Int))) ∧ True) ∧ (True ∧ True) ∧ (Sx.Ask (z0.L.length = g') ∧ ∀ (i : Nat), i < g' → ((True ∧ Sx.Ask z1 ∧ Sx.Ask ((Rga.rI z0.L i).y = (g.g.f i).y + g.dy)) ∧ Sx.Ask z1 ∧ Sx.Ask ((Rga.rI z0.L i).x0 = (g.g.f i).x0 + g.dx)) ∧ Sx.Ask z1 ∧ Sx.Ask ((Rga.rI z0.L i).x1 = (g.g.f i).x1 + g.dx)) ∧ True) ∧ Sx.Ask (z18.meas g' < z18.meas g_1)) (Sx.Ask z16 ∧ True ∧ ∃ (g' : Nat), Sx.Ask (z18.pre g') ∧ ((z11 ∧ z12 ∧ Sx.Ask z14 ∧ z2 ∧ z7 ∧ (Sx.Ask z1 ∧ Sx.Ask (z8 + (1 : Int) = (↑g' : Int))) ∧ True) ∧ (True ∧ True) ∧ (Sx.Ask (g_1 = g') ∧ ∀ (i : Nat), i < g' → ((True ∧ Sx.Ask z1 ∧ Sx.Ask ((g.g.f i).y + g.dy = (g.g.f i).y + g.dy)) ∧ Sx.Ask z1 ∧ Sx.Ask ((g.g.f i).x0 + g.dx = (g.g.f i).x0 + g.dx)) ∧ Sx.Ask z1 ∧ Sx.Ask ((g.g.f i).x1 + g.dx = (g.g.f i).x1 + g.dx)) ∧ True) ∧ Sx.Ask (z18.meas g' < z18.meas g_1))) (True ∧ True ∧ True ∧ True ∧ True ∧ (True ∧ Sx.Ask (g_1 = g.L.length) ∧ ∀ (i : Nat), i < g.L.length → ((True ∧ Sx.Ask z1 ∧ Sx.Ask ((g.g.f i).y + g.dy = (Rga.rI g.L i).y)) ∧ Sx.Ask z1 ∧ Sx.Ask ((g.g.f i).x0 + g.dx = (Rga.rI g.L i).x0)) ∧ Sx.Ask z1 ∧ Sx.Ask ((g.g.f i).x1 + g.dx = (Rga.rI g.L i).x1)) ∧ Sx.Ask z1 ∧ Sx.Ask ((0 : Int) = (0 : Int)))))))) (by kernel_rfl) ?_
  simp only [ask_iff, br_iff, eq_self, true_and, and_true, implies_true, forall_const, decide_eq_true_eq, decide_eq_false_iff_not, ne_eq, Nat.mul_one, Nat.add_zero, Nat.zero_add]
  have hb := bndg hg.v
  obtain ⟨x1, x2⟩ := hg.x
  obtain ⟨y1, y2⟩ := hg.y
  refine ⟨⟨hg.v, hb⟩, fun h => by omega, fun _ => ⟨fun h => by omega, fun _ => ⟨fun h => by omega, fun _ => ⟨fun h => by omega, fun _ => ⟨⟨0, Nat.zero_le _, rfl, rfl, fun k hk => absurd hk (Nat.not_lt_zero _)⟩, fun i hi => ⟨fun hlt => ?_, fun hge => ?_⟩⟩⟩⟩⟩⟩
  · have hi : i ≤ g.g.n := hi
    have hlt : i < g.g.n := by omega
    have z : ((i : Int)).toNat = i := rfl
    obtain ⟨⟨⟨h1, h2⟩, ⟨h3, h4⟩, h5, h6⟩, h7⟩ := hg.r i hlt
    have h1 : -8192 ≤ (g.g.f i).y + g.dy := h1
    have h2 : (g.g.f i).y + g.dy < 8192 := h2
    have h3 : -8192 ≤ (g.g.f i).x0 + g.dx := h3
    have h4 : (g.g.f i).x0 + g.dx ≤ 8192 := h4
    have h5 : -8192 ≤ (g.g.f i).x1 + g.dx := h5
    have h6 : (g.g.f i).x1 + g.dx ≤ 8192 := h6
    rw [z, decide_eq_true h1, decide_eq_true h2, if_neg (show ¬ (-8192 > (g.g.f i).x0 + g.dx) by omega), if_neg (show ¬ (8192 < (g.g.f i).x1 + g.dx) by omega)]
    have e : AdG.L ⟨i, fun i => ⟨(g.g.f i).y + g.dy, (g.g.f i).x0 + g.dx, (g.g.f i).x1 + g.dx⟩, ⟨(g.g.f i).y + g.dy, (g.g.f i).x0 + g.dx, (g.g.f i).x1 + g.dx⟩⟩ = Lf g.f (i + 1) := by
      refine add_next (f := g.f) (n := i) h7 (fun h0 => ?_)
      have := lt_of hg.v (show i - 1 < i by omega) hlt
      unfold ltR at *
      show (g.g.f (i - 1)).y + g.dy < (g.g.f i).y + g.dy ∨ ((g.g.f (i - 1)).y + g.dy = (g.g.f i).y + g.dy ∧ (g.g.f (i - 1)).x1 + g.dx < (g.g.f i).x0 + g.dx)
      omega
    refine ⟨by omega, by omega, fun _ => ⟨by omega, by omega, by omega, by omega, by omega, i + 1, hlt, ⟨rfl, ?_, fun k hk => ?_⟩, ?_⟩, fun h => absurd h (by decide)⟩
    · rw [e, Lf_len]
    · rw [e, Lf_get g.f hk]
      exact ⟨⟨rfl, rfl⟩, rfl⟩
    · show g.g.n - (i + 1) < g.g.n - i
      omega
  · have hi : i ≤ g.g.n := hi
    have e : i = g.g.n := by omega
    subst e
    unfold ShG.L
    rw [Lf_len]
    refine ⟨rfl, fun k hk => ?_⟩
    rw [Lf_get g.f hk]
    exact ⟨⟨rfl, rfl⟩, rfl⟩
/-! Rectangle. -/
structure ReG where
  x0 : Int
  y0 : Int
  x1 : Int
  y1 : Int
def ReG.f (h : ReG) : Nat → Rn := fun k => ⟨h.y0 + k, h.x0, h.x1⟩
def ReG.n (h : ReG) : Nat := (h.y1 - h.y0).toNat
structure ReG.ok (h : ReG) : Prop where
  x0 : -8192 ≤ h.x0 ∧ h.x0 ≤ 8192
  y0 : -8192 ≤ h.y0 ∧ h.y0 ≤ 8192
  x1 : -8192 ≤ h.x1 ∧ h.x1 ≤ 8192
  y1 : -8192 ≤ h.y1 ∧ h.y1 ≤ 8192
  x : h.x0 < h.x1
  y : h.y0 ≤ h.y1
def reInv (h : ReG) : Inv := ⟨Nat, fun i => h.y0 + i ≤ h.y1, fun i => ⟨[(0, .int .i64 h.x0), (2, .int .i64 h.x1), (3, .int .i64 h.y1), (10, .own 0 0), (11, .int .i64 (h.y0 + i))],
    [.cells 1 (lst [.osl 1 0]) 55, .row 0 i 3 (fun k => lst (rnL (h.f k))) 43]⟩, fun i => h.n - i⟩
def spRect : FSpec := mkSpec 5 (γ := ReG) (fun | [.int _ x0, .int _ y0, .int _ x1, .int _ y1] => some ⟨x0, y0, x1, y1⟩ | _ => none) (fun h => [.int .i64 h.x0, .int .i64 h.y0, .int .i64 h.x1, .int .i64 h.y1]) ReG.ok (fun h => okP (runsS (Lf h.f h.n)))
theorem ok_rect : SpecOK Try.prog spRect := by
  refine spec_sound (specs := [spBorder, spAddR]) (all_ok (⟨ok_border, ok_addR, trivial⟩)) (eqs := []) (fun _ _ h => (List.not_mem_nil h).elim) Aff.mixed Try.func5 rfl (by kernel_rfl) (fun _ _ => by kernel_rfl) (fun g => (⟨[(7, .inv (reInv g))], [(6, [.ownC 0 0 43 3])]⟩ : Ann)) (fun g => Nat.le_of_ble_eq_true (by kernel_rfl)) ?_
  rintro g hg
  refine vc_of (B := let z9 := ((0 : Nat) = (0 : Nat));let z7 := ((3 : Int) = (0 : Int));let z5 := (Rgn.Lf g.f g.n);let z2 := (True ∧ Sx.Ask (z5.length = (0 : Nat)));let z0 := (IntKind.i64 = IntKind.i64); let z6 := (Sx.Ask z0 ∧ Sx.Ask (g.y1 = g.y1)); let z4 := (Sx.Ask z0 ∧ Sx.Ask (g.x1 = g.x1)); let z3 := (Sx.Ask z0 ∧ Sx.Ask (g.x0 = g.x0));True ∧ True ∧ True ∧ ((z3 ∧ True) ∧ Sx.Ask True) ∧ True ∧ True ∧ Sx.Br (!(decide ((-8192 : Int) ≤ g.x0) && decide (g.x0 ≤ (8192 : Int)))) (True ∧ True ∧ True ∧ True ∧ True ∧ True ∧ True ∧ True ∧ z2 ∧ Sx.Ask z0 ∧ Sx.Ask z7) (True ∧ (((Sx.Ask z0 ∧ Sx.Ask (g.y0 = g.y0)) ∧ True) ∧ Sx.Ask True) ∧ True ∧ True ∧ True ∧ Sx.Br (!(decide ((-8192 : Int) ≤ g.y0) && decide (g.y0 ≤ (8192 : Int)))) (True ∧ True ∧ True ∧ True ∧ True ∧ True ∧ z2 ∧ Sx.Ask z0 ∧ Sx.Ask z7) (True ∧ ((z4 ∧ True) ∧ Sx.Ask True) ∧ True ∧ True ∧ True ∧ Sx.Br (!(decide ((-8192 : Int) ≤ g.x1) && decide (g.x1 ≤ (8192 : Int)))) (True ∧ True ∧ True ∧ True ∧ z2 ∧ Sx.Ask z0 ∧ Sx.Ask z7) (True ∧ ((z6 ∧ True) ∧ Sx.Ask True) ∧ True ∧ True ∧ Sx.Br (!(decide ((-8192 : Int) ≤ g.y1) && decide (g.y1 ≤ (8192 : Int)))) (True ∧ True ∧ True ∧ z2 ∧ Sx.Ask z0 ∧ Sx.Ask z7) (True ∧ True ∧ True ∧ True ∧ Sx.Br (decide (g.x1 < g.x0)) (True ∧ True ∧ True ∧ True ∧ z2 ∧ Sx.Ask z0 ∧ Sx.Ask ((18 : Int) = (0 : Int))) (True ∧ True ∧ True ∧ True ∧ Sx.Br (decide (g.y1 < g.y0)) (True ∧ True ∧ True ∧ z2 ∧ Sx.Ask z0 ∧ Sx.Ask ((18 : Int) = (0 : Int))) (True ∧ True ∧ True ∧ (∃ (g_1 : Nat), Sx.Ask ((reInv g).pre g_1) ∧ (z3 ∧ z4 ∧ z6 ∧ Sx.Ask z9 ∧ (Sx.Ask z0 ∧ Sx.Ask (g.y0 = g.y0 + (↑g_1 : Int))) ∧ True) ∧ (True ∧ True) ∧ (Sx.Ask ((0 : Nat) = g_1) ∧ ∀ (i : Nat), i < g_1 → ((True ∧ False) ∧ False) ∧ False) ∧ True) ∧ ∀ (g_1 : Nat), let z8 := (↑g_1 : Int); let z1 := (Rga.AdG.mk g_1 (fun (i : Nat) => Rga.Rn.mk (g.y0 + (↑i : Int)) g.x0 g.x1) (Rga.Rn.mk (g.y0 + z8) g.x0 g.x1)); (reInv g).pre g_1 → True ∧ True ∧ True ∧ Sx.Br (decide (g.y0 + z8 < g.y1)) (True ∧ True ∧ True ∧ ((True ∧ (Sx.Ask z9 ∧ (Sx.Ask z0 ∧ Sx.Ask (g.y0 + z8 = g.y0 + z8)) ∧ z3 ∧ z4 ∧ True) ∧ (True ∧ True) ∧ (Sx.Ask (g_1 = g_1) ∧ ∀ (i : Nat), i < g_1 → ((True ∧ Sx.Ask z0 ∧ Sx.Ask (g.y0 + (↑i : Int) = g.y0 + (↑i : Int))) ∧ Sx.Ask z0 ∧ Sx.Ask (g.x0 = g.x0)) ∧ Sx.Ask z0 ∧ Sx.Ask (g.x1 = g.x1)) ∧ True) ∧ Sx.Ask (g_1 ≤ (4294967296 : Nat))) ∧ True ∧ Sx.Ask ((-9223372036854775808 : Int) ≤ g.y0 + z8 + (1 : Int) ∧ g.y0 + z8 + (1 : Int) ≤ (9223372036854775807 : Int)) ∧ True ∧ ∃ (g' : Nat), Sx.Ask ((reInv g).pre g') ∧ ((z3 ∧ z4 ∧ z6 ∧ Sx.Ask z9 ∧ (Sx.Ask z0 ∧ Sx.Ask (g.y0 + z8 + (1 : Int) = g.y0 + (↑g' : Int))) ∧ True) ∧ (True ∧ True) ∧ (Sx.Ask (z1.L.length = g') ∧ ∀ (i : Nat), i < g' → ((True ∧ Sx.Ask z0 ∧ Sx.Ask ((Rga.rI z1.L i).y = g.y0 + (↑i : Int))) ∧ Sx.Ask z0 ∧ Sx.Ask ((Rga.rI z1.L i).x0 = g.x0)) ∧ Sx.Ask z0 ∧ Sx.Ask ((Rga.rI z1.L i).x1 = g.x1)) ∧ True) ∧ Sx.Ask ((reInv g).meas g' < (reInv g).meas g_1)) (True ∧ True ∧ True ∧ True ∧ True ∧ (True ∧ Sx.Ask (g_1 = z5.length) ∧ ∀ (i : Nat), i < z5.length → ((True ∧ Sx.Ask z0 ∧ Sx.Ask (g.y0 + (↑i : Int) = (Rga.rI z5 i).y)) ∧ Sx.Ask z0 ∧ Sx.Ask (g.x0 = (Rga.rI z5 i).x0)) ∧ Sx.Ask z0 ∧ Sx.Ask (g.x1 = (Rga.rI z5 i).x1)) ∧ Sx.Ask z0 ∧ Sx.Ask ((0 : Int) = (0 : Int)))))))))) (by kernel_rfl) ?_
  simp only [ask_iff, br_iff, eq_self, true_and, and_true, implies_true, forall_const, decide_eq_true_eq, decide_eq_false_iff_not, ne_eq, Nat.mul_one, Nat.add_zero, Nat.zero_add]
  obtain ⟨⟨a1, a2⟩, ⟨b1, b2⟩, ⟨c1, c2⟩, ⟨d1, d2⟩, hx, hy⟩ := hg
  rw [decide_eq_true a1, decide_eq_true a2, decide_eq_true b1, decide_eq_true b2, decide_eq_true c1, decide_eq_true c2, decide_eq_true d1, decide_eq_true d2]
  refine ⟨fun h => absurd h (by decide), fun _ => ⟨fun h => absurd h (by decide), fun _ => ⟨fun h => absurd h (by decide), fun _ => ⟨fun h => absurd h (by decide), fun _ => ⟨fun h => by omega, fun _ => ⟨fun h => by omega, fun _ => ⟨⟨0, by show g.y0 + 0 ≤ g.y1; omega, by omega, rfl, fun k hk => absurd hk (Nat.not_lt_zero _)⟩, fun i hi => ⟨fun hlt => ?_, fun hge => ?_⟩⟩⟩⟩⟩⟩⟩⟩
  · have hi : g.y0 + i ≤ g.y1 := hi
    have e : AdG.L ⟨i, fun i => ⟨g.y0 + i, g.x0, g.x1⟩, ⟨g.y0 + i, g.x0, g.x1⟩⟩ = Lf g.f (i + 1) := by
      refine add_next (f := g.f) (n := i) hx (fun h0 => .inl ?_)
      show g.y0 + ((i - 1 : Nat) : Int) < g.y0 + i
      omega
    refine ⟨by omega, by omega, i + 1, ?_, ⟨by omega, ?_, fun k hk => ?_⟩, ?_⟩
    · show g.y0 + ((i + 1 : Nat) : Int) ≤ g.y1
      omega
    · rw [e, Lf_len]
    · rw [e, Lf_get g.f hk]
      exact ⟨⟨rfl, rfl⟩, rfl⟩
    · show (g.y1 - g.y0).toNat - (i + 1) < (g.y1 - g.y0).toNat - i
      omega
  · have hi : g.y0 + i ≤ g.y1 := hi
    have e : i = g.n := by unfold ReG.n; omega
    subst e
    rw [Lf_len]
    refine ⟨rfl, fun k hk => ?_⟩
    rw [Lf_get g.f hk]
    exact ⟨⟨rfl, rfl⟩, rfl⟩
/-! unites. -/
abbrev lA : List Rn := [⟨0, 0, 2⟩, ⟨1, 0, 2⟩]
abbrev lB : List Rn := [⟨1, 2, 4⟩, ⟨2, 2, 4⟩]
abbrev lO : List Rn := [⟨0, 0, 2⟩, ⟨1, 0, 4⟩, ⟨2, 2, 4⟩]
theorem vA : vld lA := by unfold vld okR ltR; decide
theorem vB : vld lB := by unfold vld okR ltR; decide
theorem vO : vld lO := by unfold vld okR ltR; decide
theorem eA : Lf (ReG.f ⟨0, 0, 2, 2⟩) (ReG.n ⟨0, 0, 2, 2⟩) = lA := rfl
theorem eB : Lf (ReG.f ⟨2, 1, 4, 3⟩) (ReG.n ⟨2, 1, 4, 3⟩) = lB := rfl
theorem eO : cbOut or ⟨⟨lA.length, rI lA⟩, ⟨lB.length, rI lB⟩⟩ = lO := by
  refine ofSet_eq vO (fun y x => ?_)
  show mem lO y x = or (mem (Rg.L ⟨lA.length, rI lA⟩) y x) (mem (Rg.L ⟨lB.length, rI lB⟩) y x)
  rw [Rg.L_of, Rg.L_of]
  show (inR ⟨0, 0, 2⟩ y x || (inR ⟨1, 0, 4⟩ y x || (inR ⟨2, 2, 4⟩ y x || false))) = or (inR ⟨0, 0, 2⟩ y x || (inR ⟨1, 0, 2⟩ y x || false)) (inR ⟨1, 2, 4⟩ y x || (inR ⟨2, 2, 4⟩ y x || false))
  simp only [Bool.or_false]
  rw [Bool.eq_iff_iff]
  simp only [Bool.or_eq_true, inR_iff]
  omega
end Go.Proofs.Ytbkgncikjhibiaa.Rgd
