/- Package pull: open, paper, Pull, moved, Fringe: by the evaluation. -/
import Derived.Test.YtbkgncikjhibiaaSom
import Derived.Test.YtbkgncikjhibiaaCel
import Derived.Test.YtbkgncikjhibiaaMop
set_option linter.unusedSimpArgs false
set_option linter.unusedVariables false
namespace Go.Proofs.Ytbkgncikjhibiaa.Pul
open Go.RowKit Sx Num Aff Con Rga Rgl Rgm Rgn Rgb Rgc Rgd Rgo Gat Gar Ows Apl Apt Som Cel Mol Moe Mos
set_option maxRecDepth 100000
/-! Sets of cells of a page. -/
def pg (w h : Nat) : ReG := ⟨0, 0, 16 * w, 16 * h⟩
def rectL (w h : Nat) : List Rn := Lf (pg w h).f (pg w h).n
theorem rect_mem (g : ReG) (y x : Int) : mem (Lf g.f g.n) y x = decide ((g.y0 ≤ y ∧ y < g.y1) ∧ g.x0 ≤ x ∧ x < g.x1) := by
  rw [Bool.eq_iff_iff, mem_iff, decide_eq_true_eq]
  constructor
  · rintro ⟨r, hr, h1, h2, h3⟩
    obtain ⟨k, hk, rfl⟩ := List.mem_map.1 hr
    have hk := List.mem_range.1 hk
    have hk : k < (g.y1 - g.y0).toNat := hk
    have h1 : g.y0 + k = y := h1
    have h2 : g.x0 ≤ x := h2
    have h3 : x < g.x1 := h3
    omega
  · rintro ⟨⟨h1, h2⟩, h3, h4⟩
    refine ⟨g.f (y - g.y0).toNat, List.mem_map.2 ⟨_, List.mem_range.2 (show (y - g.y0).toNat < (g.y1 - g.y0).toNat by omega), rfl⟩, show g.y0 + ((y - g.y0).toNat : Int) = y by omega, h3, h4⟩
theorem rect_vld {g : ReG} (h : g.ok) (h2 : g.y1 ≤ 8192) : vld (Lf g.f g.n) := by
  obtain ⟨⟨a1, a2⟩, ⟨b1, b2⟩, ⟨c1, c2⟩, ⟨d1, d2⟩, hx, hy⟩ := h
  have go : ∀ m, m ≤ g.n → vld (Lf g.f m) := by
    intro m
    induction m with
    | zero => intro _; exact vld_nil
    | succ m ih =>
      intro hm
      have hm : m + 1 ≤ (g.y1 - g.y0).toNat := hm
      rw [Lf_succ, vld_snoc]
      refine ⟨ih (by show m ≤ (g.y1 - g.y0).toNat; omega), ⟨⟨⟨by show -8192 ≤ g.y0 + m; omega, by show g.y0 + (m : Int) < 8192; omega⟩, ⟨a1, a2⟩, c1, c2⟩, hx⟩, fun s hs => ?_⟩
      obtain ⟨k, hk, rfl⟩ := List.mem_map.1 hs
      have hk := List.mem_range.1 hk
      exact .inl (by show g.y0 + (k : Int) < g.y0 + m; omega)
  exact go _ (Nat.le_refl _)
def inPg (w h : Nat) (y x : Int) : Bool := decide ((0 ≤ y ∧ y < 16 * h) ∧ 0 ≤ x ∧ x < 16 * w)
theorem pg_ok {w h : Nat} (hw : 1 ≤ w ∧ w ≤ 256) (hh : 1 ≤ h ∧ h ≤ 256) : (pg w h).ok := by
  refine ⟨?_, ?_, ?_, ?_, ?_, ?_⟩ <;> simp only [pg] <;> omega
theorem rectL_mem (w h : Nat) (y x : Int) : mem (rectL w h) y x = inPg w h y x := rect_mem _ _ _
theorem rectL_vld {w h : Nat} (hw : 1 ≤ w ∧ w ≤ 256) (hh : 1 ≤ h ∧ h ≤ 256) : vld (rectL w h) := rect_vld (pg_ok hw hh) (by show (16 * (h : Int)) ≤ 8192; omega)
theorem smR_vld (b : Vec → Bool) (P : Pcs) : vld (smR b P) := ofSet_vld _
theorem smR_mem {b : Vec → Bool} {P : Pcs} (h : SmOk b P) (y x : Int) : mem (smR b P) y x = mem (sel b P P.n) y x := by
  have e : Rg.L ⟨(sel b P P.n).length, rI (sel b P P.n)⟩ = sel b P P.n := Rg.L_of _
  have := jo_mem (g := ⟨(sel b P P.n).length, rI (sel b P P.n)⟩) (sm_jo h).1 y x
  rw [e] at this
  exact this
/-! open. -/
structure OnG where
  g : ChG
  key : Nat
  ink : Nat
structure OnG.Ok (o : OnG) : Prop where
  c : o.g.Ok
  key : o.key < 8
  ink : o.ink < 8
def pageS (g : ChG) (key : Nat) : SV := .agg 4 (lst [.int .i64 g.w, .int .i64 g.h, pcS g.P, .int .i64 key])
noncomputable def spOpen : FSpec := mkSpec 20 (γ := OnG) (fun | [.int _ w, .int _ h, s, .int _ k, .int _ i] => some ⟨⟨w.toNat, h.toNat, pcD s⟩, k.toNat, i.toNat⟩ | _ => none)
  (fun o => [.int .i64 o.g.w, .int .i64 o.g.h, pcS o.g.P, .int .i64 o.key, .int .i64 o.ink]) OnG.Ok (fun o => okP (pageS o.g o.key))
theorem ok_open : SpecOK Try.prog spOpen := by
  refine spec_sound (specs := [spCheckF]) (all_ok (⟨ok_checkF, trivial⟩)) (eqs := []) (fun _ _ h => (List.not_mem_nil h).elim) Aff.mixed Try.func20 rfl (by kernel_rfl) (fun _ _ => by kernel_rfl) (fun g => A0) (fun g => Nat.le_of_ble_eq_true (by kernel_rfl)) ?_
  rintro o ho
  refine vc_of (B := let z8 := (0 : Int);let z7 := (↑o.g.h : Int);let z6 := (↑o.g.w : Int);let z3 := (↑o.key : Int);let z1 := (IntKind.u8 = IntKind.u8);let z0 := (IntKind.i64 = IntKind.i64); let z2 := (True ∧ (((True ∧ Sx.Ask z0 ∧ Sx.Ask (z8 = z6)) ∧ Sx.Ask z0 ∧ Sx.Ask (z8 = z7)) ∧ Sx.Ask (o.g.P.n = (0 : Nat))) ∧ Sx.Ask z0 ∧ Sx.Ask (z8 = z3));True ∧ True ∧ True ∧ True ∧ True ∧ (((Sx.Ask z0 ∧ Sx.Ask (z6 = (↑z6.toNat : Int))) ∧ (Sx.Ask z0 ∧ Sx.Ask (z7 = (↑z7.toNat : Int))) ∧ (Sx.Ask (o.g.P.n = o.g.P.n) ∧ ∀ (i : Nat), i < o.g.P.n → ((((((((True ∧ Sx.Ask (o.g.P.m i = o.g.P.m i) ∧ ∀ (i_1 : Nat), let z4 := (o.g.P.p i i_1); i_1 < o.g.P.m i → ((True ∧ Sx.Ask z0 ∧ Sx.Ask (z4.y = z4.y)) ∧ Sx.Ask z0 ∧ Sx.Ask (z4.x0 = z4.x0)) ∧ Sx.Ask z0 ∧ Sx.Ask (z4.x1 = z4.x1)) ∧ Sx.Ask z1 ∧ Sx.Ask (o.g.P.ink i (0 : Nat) = o.g.P.ink i (0 : Nat))) ∧ Sx.Ask z1 ∧ Sx.Ask (o.g.P.ink i (1 : Nat) = o.g.P.ink i (1 : Nat))) ∧ Sx.Ask z1 ∧ Sx.Ask (o.g.P.ink i (2 : Nat) = o.g.P.ink i (2 : Nat))) ∧ Sx.Ask z1 ∧ Sx.Ask (o.g.P.ink i (3 : Nat) = o.g.P.ink i (3 : Nat))) ∧ Sx.Ask z1 ∧ Sx.Ask (o.g.P.ink i (4 : Nat) = o.g.P.ink i (4 : Nat))) ∧ Sx.Ask z1 ∧ Sx.Ask (o.g.P.ink i (5 : Nat) = o.g.P.ink i (5 : Nat))) ∧ Sx.Ask z1 ∧ Sx.Ask (o.g.P.ink i (6 : Nat) = o.g.P.ink i (6 : Nat))) ∧ Sx.Ask z1 ∧ Sx.Ask (o.g.P.ink i (7 : Nat) = o.g.P.ink i (7 : Nat))) ∧ True) ∧ Sx.Ask (Apt.ChG.mk z6.toNat z7.toNat o.g.P).Ok) ∧ True ∧ True ∧ True ∧ True ∧ True ∧ True ∧ True ∧ True ∧ Sx.Br (decide ((if (↑o.ink : Int) < z3 then (↑o.ink : Int) else z3) < z8)) (True ∧ True ∧ True ∧ True ∧ (True ∧ True) ∧ z2 ∧ Sx.Ask z0 ∧ Sx.Ask ((3 : Int) = z8)) (True ∧ True ∧ True ∧ True ∧ True ∧ Sx.Br (decide ((8 : Int) ≤ if (↑o.ink : Int) > z3 then (↑o.ink : Int) else z3)) (True ∧ True ∧ True ∧ (True ∧ True) ∧ z2 ∧ Sx.Ask z0 ∧ Sx.Ask ((3 : Int) = z8)) (True ∧ True ∧ True ∧ True ∧ True ∧ True ∧ True ∧ (True ∧ True) ∧ (True ∧ (((True ∧ Sx.Ask z0 ∧ Sx.Ask (z6 = z6)) ∧ Sx.Ask z0 ∧ Sx.Ask (z7 = z7)) ∧ Sx.Ask (o.g.P.n = o.g.P.n) ∧ ∀ (i : Nat), i < o.g.P.n → ((((((((True ∧ Sx.Ask (o.g.P.m i = o.g.P.m i) ∧ ∀ (i_1 : Nat), let z5 := (o.g.P.p i i_1); i_1 < o.g.P.m i → ((True ∧ Sx.Ask z0 ∧ Sx.Ask (z5.y = z5.y)) ∧ Sx.Ask z0 ∧ Sx.Ask (z5.x0 = z5.x0)) ∧ Sx.Ask z0 ∧ Sx.Ask (z5.x1 = z5.x1)) ∧ Sx.Ask z1 ∧ Sx.Ask (o.g.P.ink i (0 : Nat) = o.g.P.ink i (0 : Nat))) ∧ Sx.Ask z1 ∧ Sx.Ask (o.g.P.ink i (1 : Nat) = o.g.P.ink i (1 : Nat))) ∧ Sx.Ask z1 ∧ Sx.Ask (o.g.P.ink i (2 : Nat) = o.g.P.ink i (2 : Nat))) ∧ Sx.Ask z1 ∧ Sx.Ask (o.g.P.ink i (3 : Nat) = o.g.P.ink i (3 : Nat))) ∧ Sx.Ask z1 ∧ Sx.Ask (o.g.P.ink i (4 : Nat) = o.g.P.ink i (4 : Nat))) ∧ Sx.Ask z1 ∧ Sx.Ask (o.g.P.ink i (5 : Nat) = o.g.P.ink i (5 : Nat))) ∧ Sx.Ask z1 ∧ Sx.Ask (o.g.P.ink i (6 : Nat) = o.g.P.ink i (6 : Nat))) ∧ Sx.Ask z1 ∧ Sx.Ask (o.g.P.ink i (7 : Nat) = o.g.P.ink i (7 : Nat))) ∧ Sx.Ask z0 ∧ Sx.Ask (z3 = z3)) ∧ Sx.Ask z0 ∧ Sx.Ask (z8 = z8)))) (by kernel_rfl) ?_
  simp only [ask_iff, br_iff, eq_self, true_and, and_true, implies_true, forall_const, decide_eq_true_eq, decide_eq_false_iff_not, ne_eq, Nat.mul_one, Nat.add_zero, Nat.zero_add, Int.toNat_natCast, Bool.or_false]
  have h1 := ho.key
  have h2 := ho.ink
  exact ⟨ho.c, fun h => by omega, fun _ h => by omega⟩
/-! paper. -/
noncomputable def paperL (g : ChG) : List Rn := un mn (rectL g.w g.h) (smR (fun _ => true) g.P)
structure PaG where
  g : ChG
  key : Nat
noncomputable def spPaper : FSpec := mkSpec 22 (γ := PaG) (fun | [.agg _ c] => some ⟨⟨(Sx.intOf (c 0)).toNat, (Sx.intOf (c 1)).toNat, pcD (c 2)⟩, (Sx.intOf (c 3)).toNat⟩ | _ => none) (fun a => [pageS a.g a.key]) (fun a => a.g.Ok) (fun a => runsS (paperL a.g))
theorem ok_paper : SpecOK Try.prog spPaper := by
  refine spec_sound (specs := [spRect, spPainted, spMinus]) (all_ok (⟨ok_rect, ok_painted, ok_Minus, trivial⟩)) (eqs := []) (fun _ _ h => (List.not_mem_nil h).elim) Aff.mixed Try.func22 rfl (by kernel_rfl) (fun _ _ => by kernel_rfl) (fun g => A0) (fun g => Nat.le_of_ble_eq_true (by kernel_rfl)) ?_
  rintro a ha
  refine vc_of (B := let z9 := (16 : Int);let z7 := (↑a.g.h : Int);let z6 := (↑a.g.w : Int);let z5 := (IntKind.u8 = IntKind.u8);let z4 := (Rgd.ReG.mk (0 : Int) (0 : Int) (z9 * z6) (z9 * z7));let z2 := (IntKind.i64 = IntKind.i64); let z12 := (Sx.Ask z2 ∧ Sx.Ask ((0 : Int) = (0 : Int)));let z1 := (Som.smR (fun (x : Gar.Vec) => true) a.g.P);let z0 := (Rgn.Lf z4.f z4.n); let z3 := (Rgb.cbOut Rgb.mn (Rgm.CbG.mk (Rga.Rg.mk z0.length (Rga.rI z0)) (Rga.Rg.mk z1.length (Rga.rI z1))));True ∧ True ∧ True ∧ True ∧ Sx.Ask ((-9223372036854775808 : Int) ≤ z9 * z6 ∧ z9 * z6 ≤ (9223372036854775807 : Int)) ∧ True ∧ True ∧ Sx.Ask ((-9223372036854775808 : Int) ≤ z9 * z7 ∧ z9 * z7 ≤ (9223372036854775807 : Int)) ∧ ((z12 ∧ z12 ∧ (Sx.Ask z2 ∧ Sx.Ask (z9 * z6 = z9 * z6)) ∧ (Sx.Ask z2 ∧ Sx.Ask (z9 * z7 = z9 * z7)) ∧ True) ∧ Sx.Ask z4.ok) ∧ True ∧ True ∧ True ∧ True ∧ True ∧ True ∧ True ∧ True ∧ True ∧ True ∧ True ∧ (((Sx.Ask z2 ∧ Sx.Ask (z6 = (↑z6.toNat : Int))) ∧ (Sx.Ask z2 ∧ Sx.Ask (z7 = (↑z7.toNat : Int))) ∧ (Sx.Ask (a.g.P.n = a.g.P.n) ∧ ∀ (i : Nat), i < a.g.P.n → ((((((((True ∧ Sx.Ask (a.g.P.m i = a.g.P.m i) ∧ ∀ (i_1 : Nat), let z8 := (a.g.P.p i i_1); i_1 < a.g.P.m i → ((True ∧ Sx.Ask z2 ∧ Sx.Ask (z8.y = z8.y)) ∧ Sx.Ask z2 ∧ Sx.Ask (z8.x0 = z8.x0)) ∧ Sx.Ask z2 ∧ Sx.Ask (z8.x1 = z8.x1)) ∧ Sx.Ask z5 ∧ Sx.Ask (a.g.P.ink i (0 : Nat) = a.g.P.ink i (0 : Nat))) ∧ Sx.Ask z5 ∧ Sx.Ask (a.g.P.ink i (1 : Nat) = a.g.P.ink i (1 : Nat))) ∧ Sx.Ask z5 ∧ Sx.Ask (a.g.P.ink i (2 : Nat) = a.g.P.ink i (2 : Nat))) ∧ Sx.Ask z5 ∧ Sx.Ask (a.g.P.ink i (3 : Nat) = a.g.P.ink i (3 : Nat))) ∧ Sx.Ask z5 ∧ Sx.Ask (a.g.P.ink i (4 : Nat) = a.g.P.ink i (4 : Nat))) ∧ Sx.Ask z5 ∧ Sx.Ask (a.g.P.ink i (5 : Nat) = a.g.P.ink i (5 : Nat))) ∧ Sx.Ask z5 ∧ Sx.Ask (a.g.P.ink i (6 : Nat) = a.g.P.ink i (6 : Nat))) ∧ Sx.Ask z5 ∧ Sx.Ask (a.g.P.ink i (7 : Nat) = a.g.P.ink i (7 : Nat))) ∧ True) ∧ Sx.Ask (Apt.ChG.mk z6.toNat z7.toNat a.g.P).Ok) ∧ True ∧ True ∧ True ∧ True ∧ True ∧ True ∧ True ∧ (((Sx.Ask (z0.length = z0.length) ∧ ∀ (i : Nat), let z10 := (Rga.rI z0 i); i < z0.length → ((True ∧ Sx.Ask z2 ∧ Sx.Ask (z10.y = z10.y)) ∧ Sx.Ask z2 ∧ Sx.Ask (z10.x0 = z10.x0)) ∧ Sx.Ask z2 ∧ Sx.Ask (z10.x1 = z10.x1)) ∧ (Sx.Ask (z1.length = z1.length) ∧ ∀ (i : Nat), let z11 := (Rga.rI z1 i); i < z1.length → ((True ∧ Sx.Ask z2 ∧ Sx.Ask (z11.y = z11.y)) ∧ Sx.Ask z2 ∧ Sx.Ask (z11.x0 = z11.x0)) ∧ Sx.Ask z2 ∧ Sx.Ask (z11.x1 = z11.x1)) ∧ True) ∧ Sx.Ask (Rga.vld (Rga.Rg.mk z0.length (Rga.rI z0)).L ∧ Rga.vld (Rga.Rg.mk z1.length (Rga.rI z1)).L)) ∧ True ∧ True ∧ True ∧ True ∧ True ∧ True ∧ True ∧ True ∧ Sx.Ask (z3.length = (paperL a.g).length) ∧ ∀ (i : Nat), let z13 := (Rga.rI (paperL a.g) i); i < (paperL a.g).length → ((True ∧ Sx.Ask z2 ∧ Sx.Ask ((Rga.rI z3 i).y = z13.y)) ∧ Sx.Ask z2 ∧ Sx.Ask ((Rga.rI z3 i).x0 = z13.x0)) ∧ Sx.Ask z2 ∧ Sx.Ask ((Rga.rI z3 i).x1 = z13.x1)) (by kernel_rfl) ?_
  simp only [ask_iff, br_iff, eq_self, true_and, and_true, implies_true, forall_const, decide_eq_true_eq, decide_eq_false_iff_not, ne_eq, Nat.mul_one, Nat.add_zero, Nat.zero_add, Int.toNat_natCast, Bool.or_false]
  have hw := ha.w
  have hh := ha.h
  exact ⟨by omega, by omega, pg_ok hw hh, ha, ⟨by have := rectL_vld hw hh; rwa [← Rg.L_of (rectL a.g.w a.g.h)] at this, by have := smR_vld (fun _ => true) a.g.P; rwa [← Rg.L_of (smR (fun _ => true) a.g.P)] at this⟩, sm_same rfl⟩
/-! moved, shiftable. -/
structure MvF where
  a : PaG
  n : Nat
  f : Nat → Rn
  dx : Int
  dy : Int
noncomputable def mvL (g : MvF) : List Rn := un and (ShG.L ⟨⟨g.n, g.f⟩, g.dx, g.dy⟩) (rectL g.a.g.w g.a.g.h)
structure MvF.Ok (g : MvF) : Prop where
  c : g.a.g.Ok
  s : ShG.ok ⟨⟨g.n, g.f⟩, g.dx, g.dy⟩
noncomputable def spMoved : FSpec := mkSpec 31 (γ := MvF) (fun | [.agg _ c, s, .agg _ d] => some ⟨⟨⟨(Sx.intOf (c 0)).toNat, (Sx.intOf (c 1)).toNat, pcD (c 2)⟩, (Sx.intOf (c 3)).toNat⟩, slLen s, rgD s, Sx.intOf (d 0), Sx.intOf (d 1)⟩ | _ => none)
  (fun g => [pageS g.a.g g.a.key, rgS ⟨g.n, g.f⟩, .agg 2 (lst [.int .i64 g.dx, .int .i64 g.dy])]) MvF.Ok (fun g => runsS (mvL g))
theorem ok_moved : SpecOK Try.prog spMoved := by
  refine spec_sound (specs := [spShift, spRect, spIntersect]) (all_ok (⟨ok_shift, ok_rect, ok_Intersect, trivial⟩)) (eqs := []) (fun _ _ h => (List.not_mem_nil h).elim) Aff.mixed Try.func31 rfl (by kernel_rfl) (fun _ _ => by kernel_rfl) (fun g => A0) (fun g => Nat.le_of_ble_eq_true (by kernel_rfl)) ?_
  rintro g hg
  refine vc_of (B := let z8 := (↑g.a.g.h : Int);let z7 := (↑g.a.g.w : Int);let z6 := (16 : Int);let z4 := (Rgd.ReG.mk (0 : Int) (0 : Int) (z6 * z7) (z6 * z8));let z2 := (IntKind.i64 = IntKind.i64); let z10 := (Sx.Ask z2 ∧ Sx.Ask ((0 : Int) = (0 : Int)));let z1 := (Rgd.ShG.mk (Rga.Rg.mk g.n g.f) g.dx g.dy); let z11 := (Rga.Rg.mk z1.L.length (Rga.rI z1.L));let z0 := (Rgn.Lf z4.f z4.n); let z3 := (Rgb.cbOut Bool.and (Rgm.CbG.mk z11 (Rga.Rg.mk z0.length (Rga.rI z0))));True ∧ True ∧ True ∧ True ∧ True ∧ True ∧ True ∧ True ∧ (((Sx.Ask (g.n = g.n) ∧ ∀ (i : Nat), i < g.n → ((True ∧ Sx.Ask z2 ∧ Sx.Ask ((g.f i).y = (g.f i).y)) ∧ Sx.Ask z2 ∧ Sx.Ask ((g.f i).x0 = (g.f i).x0)) ∧ Sx.Ask z2 ∧ Sx.Ask ((g.f i).x1 = (g.f i).x1)) ∧ (Sx.Ask z2 ∧ Sx.Ask (g.dx = g.dx)) ∧ (Sx.Ask z2 ∧ Sx.Ask (g.dy = g.dy)) ∧ True) ∧ Sx.Ask z1.ok) ∧ True ∧ True ∧ True ∧ True ∧ True ∧ True ∧ Sx.Ask ((-9223372036854775808 : Int) ≤ z6 * z7 ∧ z6 * z7 ≤ (9223372036854775807 : Int)) ∧ True ∧ True ∧ Sx.Ask ((-9223372036854775808 : Int) ≤ z6 * z8 ∧ z6 * z8 ≤ (9223372036854775807 : Int)) ∧ ((z10 ∧ z10 ∧ (Sx.Ask z2 ∧ Sx.Ask (z6 * z7 = z6 * z7)) ∧ (Sx.Ask z2 ∧ Sx.Ask (z6 * z8 = z6 * z8)) ∧ True) ∧ Sx.Ask z4.ok) ∧ True ∧ True ∧ True ∧ True ∧ True ∧ True ∧ True ∧ (((Sx.Ask (z1.L.length = z1.L.length) ∧ ∀ (i : Nat), let z5 := (Rga.rI z1.L i); i < z1.L.length → ((True ∧ Sx.Ask z2 ∧ Sx.Ask (z5.y = z5.y)) ∧ Sx.Ask z2 ∧ Sx.Ask (z5.x0 = z5.x0)) ∧ Sx.Ask z2 ∧ Sx.Ask (z5.x1 = z5.x1)) ∧ (Sx.Ask (z0.length = z0.length) ∧ ∀ (i : Nat), let z9 := (Rga.rI z0 i); i < z0.length → ((True ∧ Sx.Ask z2 ∧ Sx.Ask (z9.y = z9.y)) ∧ Sx.Ask z2 ∧ Sx.Ask (z9.x0 = z9.x0)) ∧ Sx.Ask z2 ∧ Sx.Ask (z9.x1 = z9.x1)) ∧ True) ∧ Sx.Ask (Rga.vld z11.L ∧ Rga.vld (Rga.Rg.mk z0.length (Rga.rI z0)).L)) ∧ True ∧ True ∧ True ∧ True ∧ True ∧ True ∧ True ∧ True ∧ Sx.Ask (z3.length = (mvL g).length) ∧ ∀ (i : Nat), i < (mvL g).length → ((True ∧ Sx.Ask z2 ∧ Sx.Ask ((Rga.rI z3 i).y = (Rga.rI (mvL g) i).y)) ∧ Sx.Ask z2 ∧ Sx.Ask ((Rga.rI z3 i).x0 = (Rga.rI (mvL g) i).x0)) ∧ Sx.Ask z2 ∧ Sx.Ask ((Rga.rI z3 i).x1 = (Rga.rI (mvL g) i).x1)) (by kernel_rfl) ?_
  simp only [ask_iff, br_iff, eq_self, true_and, and_true, implies_true, forall_const, decide_eq_true_eq, decide_eq_false_iff_not, ne_eq, Nat.mul_one, Nat.add_zero, Nat.zero_add, Int.toNat_natCast, Bool.or_false]
  have hw := hg.c.w
  have hh := hg.c.h
  have hv : vld (ShG.L ⟨⟨g.n, g.f⟩, g.dx, g.dy⟩) := by
    rw [ShG.L_eq]
    refine sh_vld hg.s.v (fun r hr => ?_)
    obtain ⟨i, hi, rfl⟩ := List.mem_map.1 hr
    exact hg.s.r i (List.mem_range.1 hi)
  exact ⟨hg.s, by omega, by omega, pg_ok hw hh, ⟨by rwa [← Rg.L_of (ShG.L ⟨⟨g.n, g.f⟩, g.dx, g.dy⟩)] at hv, by have := rectL_vld hw hh; rwa [← Rg.L_of (rectL g.a.g.w g.a.g.h)] at this⟩, sm_same rfl⟩
def spShiftable : FSpec := mkSpec 29 (γ := Int × Int) (fun | [.agg _ d] => some (Sx.intOf (d 0), Sx.intOf (d 1)) | _ => none) (fun g => [.agg 2 (lst [.int .i64 g.1, .int .i64 g.2])]) (fun g => (-64 ≤ g.1 ∧ g.1 ≤ 64) ∧ -64 ≤ g.2 ∧ g.2 ≤ 64) (fun _ => .bool true)
theorem ok_shiftable : SpecOK Try.prog spShiftable := by
  refine spec_sound (specs := []) (all_ok trivial) (eqs := []) (fun _ _ h => (List.not_mem_nil h).elim) Aff.mixed Try.func29 rfl (by kernel_rfl) (fun _ _ => by kernel_rfl) (fun g => A0) (fun g => Nat.le_of_ble_eq_true (by kernel_rfl)) ?_
  rintro ⟨x, y⟩ hg
  refine vc_of (B := True ∧ True ∧ True ∧ True ∧ True ∧ True ∧ True ∧ True ∧ True ∧ Sx.Br (decide ((if y > x then y else x) ≤ (64 : Int))) (True ∧ True ∧ True ∧ True ∧ True ∧ True ∧ True ∧ True ∧ True ∧ Sx.Ask (decide ((-64 : Int) ≤ if y < x then y else x) = true)) (True ∧ True ∧ True ∧ Sx.Ask (false = true))) (by kernel_rfl) ?_
  simp only [ask_iff, br_iff, eq_self, true_and, and_true, implies_true, forall_const, decide_eq_true_eq, decide_eq_false_iff_not, ne_eq, Nat.mul_one, Nat.add_zero, Nat.zero_add, Int.toNat_natCast, Bool.or_false]
  have hg : (-64 ≤ x ∧ x ≤ 64) ∧ -64 ≤ y ∧ y ≤ 64 := hg
  exact ⟨fun _ => by omega, fun h => absurd (by omega) h⟩
/-! Pull. -/
/-- The key ink alone, where it is solid. -/
def key1 (v : Vec) : Vec := fun j => bif decide (v 0 = 255) then (if j = 0 then 255 else 0) else v j
structure PuG where
  c : ChG
  r : Nat
def xa (r : Rn) : Int := if r.x0 > 0 then r.x0 else 0
def xb (w : Nat) (r : Rn) : Int := if 16 * (w : Int) < r.x1 then 16 * (w : Int) else r.x1
/-- What lies in the page of a run. -/
def inside (h : Nat) (r : Rn) : Bool := decide (0 ≤ r.y) && decide (r.y < 16 * h)
def pul1 (w h : Nat) (c : Nat → Vec) (r : Rn) (x : Int) (i : Nat) : Vec := bif inside h r && decide ((rwAt w r : Int) + xa r ≤ i ∧ (i : Int) < rwAt w r + x) then key1 (c i) else c i
def pulR (w h : Nat) (c : Nat → Vec) (f : Nat → Rn) : Nat → Nat → Vec
  | 0 => c
  | k + 1 => pul1 w h (pulR w h c f k) (f k) (xb w (f k))
noncomputable def PuG.near (g : PuG) : List Rn := DiG.o ⟨Ls (paperL g.c), g.r⟩
noncomputable def PuG.out (g : PuG) : Nat → Vec := pulR g.c.w g.c.h (ceB ⟨g.c.w, g.c.h, g.c.P⟩) (rI g.near) g.near.length
structure PuG.Ok (g : PuG) : Prop where
  c : g.c.Ok
  w : g.c.w ≤ 2
  h : g.c.h ≤ 2
  r : g.r ≤ 8
noncomputable def PuG.cel (g : PuG) (k : Nat) : Nat → Vec := pulR g.c.w g.c.h (ceB ⟨g.c.w, g.c.h, g.c.P⟩) (rI g.near) k
noncomputable def pu1 (g : PuG) : Inv := ⟨Nat, fun k => k ≤ g.near.length, fun k => ⟨[(0, .int .i64 g.c.w), (1, .int .i64 g.c.h), (3, .int .i64 0), (15, .osl 1 0), (46, runsS g.near), (47, .int .i64 g.near.length), (48, .int .i64 k)], [.dead, ceO ⟨g.c.w, g.c.h, g.c.P⟩ (g.cel k)]⟩, fun k => g.near.length - k⟩
noncomputable def pu2 (g : PuG) (k : Nat) : Inv := ⟨Nat, fun x => (k < g.near.length ∧ inside g.c.h (rI g.near k) = true) ∧ xa (rI g.near k) ≤ x ∧ ((x : Int) ≤ xb g.c.w (rI g.near k) ∨ (x : Int) = xa (rI g.near k)),
  fun x => ⟨[(0, .int .i64 g.c.w), (1, .int .i64 g.c.h), (3, .int .i64 0), (15, .osl 1 0), (46, runsS g.near), (47, .int .i64 g.near.length), (48, .int .i64 k), (17, .own 2 0), (18, .int .i64 x)],
  [.dead, ceO ⟨g.c.w, g.c.h, g.c.P⟩ (pul1 g.c.w g.c.h (g.cel k) (rI g.near k) x), .cells 3 (lst (rnL (rI g.near k))) 43]⟩, fun x => (xb g.c.w (rI g.near k) - x).toNat⟩
noncomputable def spPull : FSpec := mkSpec 6 (γ := PuG) (fun | [.int _ w, .int _ h, s, _, .int _ r] => some ⟨⟨w.toNat, h.toNat, pcD s⟩, r.toNat⟩ | _ => none) (fun g => [.int .i64 g.c.w, .int .i64 g.c.h, pcS g.c.P, .int .i64 0, .int .i64 g.r])
  PuG.Ok (fun g => pcA (ofA ⟨g.c.w, g.c.h, 256 * g.c.w * g.c.h, g.out⟩))
theorem pul1_step {w h : Nat} {c : Nat → Vec} {r : Rn} {x : Nat} (hi : inside h r = true) (hx : xa r ≤ x) (i : Nat) : pul1 w h c r ((x + 1 : Nat) : Int) i = bif decide (i = rwAt w r + x) then key1 (c i) else pul1 w h c r x i := by
  unfold pul1
  rw [hi]
  simp only [Bool.true_and]
  by_cases h : i = rwAt w r + x
  · rw [decide_eq_true h, decide_eq_true (by omega)]
    rfl
  · rw [decide_eq_false h]
    rw [show decide ((rwAt w r : Int) + xa r ≤ i ∧ (i : Int) < rwAt w r + ((x + 1 : Nat) : Int)) = decide ((rwAt w r : Int) + xa r ≤ i ∧ (i : Int) < rwAt w r + (x : Int)) from decide_eq_decide.2 (by omega)]
    rfl
theorem pul1_at {w h : Nat} {c : Nat → Vec} {r : Rn} {x : Nat} : pul1 w h c r x (rwAt w r + x) = c (rwAt w r + x) := by
  unfold pul1
  rw [decide_eq_false (by omega), Bool.and_false]
  rfl
theorem pul1_out {w h : Nat} {c : Nat → Vec} {r : Rn} {x : Int} (hi : inside h r = false) : pul1 w h c r x = c := by
  funext i
  unfold pul1
  rw [hi]
  rfl
theorem pul1_end {w h : Nat} {c : Nat → Vec} {r : Rn} {x y : Int} (hh : x = y ∨ (x ≤ xa r ∧ y ≤ xa r)) : pul1 w h c r x = pul1 w h c r y := by
  rcases hh with rfl | ⟨h1, h2⟩
  · rfl
  · funext i
    unfold pul1
    rw [decide_eq_false (by omega), decide_eq_false (by omega)]
theorem key1_not {v : Vec} (h : ¬ v 0 = 255) : key1 v = v := by
  funext j
  unfold key1
  rw [decide_eq_false h]
  rfl
theorem xa_nonneg (r : Rn) : 0 ≤ xa r := by unfold xa; split <;> omega
theorem ce_ok {g : ChG} (h : g.Ok) : (⟨g.w, g.h, g.P⟩ : CeG).Ok where
  w := h.w
  h := h.h
  n := h.P.n
  m k hk := by
    have hl := vld_len (h.P.v k hk)
    have e : (Pcs.L g.P k).length = g.P.m k := Lf_len _ _
    rw [e] at hl
    show g.P.m k ≤ _
    omega
  r k r hk hr := by
    have h1 := h.r k r hk hr
    have h2 := ((h.P.v k hk).1 _ (L_mem hr)).2
    exact ⟨h1.1, ⟨h1.2.1, h2⟩, h1.2.2⟩
theorem paper_vld (g : ChG) : vld (paperL g) := un_vld _ _ _
theorem paper_mem {g : ChG} (hg : g.Ok) (y x : Int) : mem (paperL g) y x = (inPg g.w g.h y x && !mem (sel (fun _ => true) g.P g.P.n) y x) := by
  unfold paperL
  rw [un_mem rfl (rectL_vld hg.w hg.h) (smR_vld _ _), rectL_mem, smR_mem (sm_ok hg.P _)]
  rfl
theorem paper_bx {g : ChG} (hg : g.Ok) (hw : g.w ≤ 2) (hh : g.h ≤ 2) : Bx 50 (paperL g) := ⟨paper_vld g, fun y x hm => by
  rw [paper_mem hg, Bool.and_eq_true] at hm
  have := hm.1
  unfold inPg at this
  rw [decide_eq_true_eq] at this
  omega⟩
theorem ok_pull : SpecOK Try.prog spPull := by
  refine spec_sound (specs := [spOpen, spPaper, Mop.spDilate, spCells, giv spOf]) (all_ok (⟨ok_open, ok_paper, Mop.ok_Dilate, ok_Cells, giv_ok ok_Of, trivial⟩)) (eqs := []) (fun _ _ h => (List.not_mem_nil h).elim) Aff.mixed Try.func6 rfl (by kernel_rfl) (fun _ _ => by kernel_rfl) (fun g => (⟨[(9, .nest (pu1 g) (fun k => [(13, .inv (pu2 g k))]))], []⟩ : Ann)) (fun g => Nat.le_of_ble_eq_true (by kernel_rfl)) ?_
  rintro g hg
  refine vc_of (B := let z53 := (1 : Int);let z48 := (255 : Int);let z41 := (↑g.near.length : Int);let z38 := (16 : Int);let z33 := (7 : Nat);let z32 := (6 : Nat);let z31 := (5 : Nat);let z30 := (4 : Nat);let z29 := (3 : Nat);let z28 := (2 : Nat);let z27 := (256 : Nat); let z58 := (z27 * g.c.w * g.c.h);let z25 := (9223372036854775807 : Int);let z24 := (-9223372036854775808 : Int);let z19 := (1 : Nat);let z15 := (z27 * g.c.w * g.c.h = z27 * g.c.w * g.c.h);let z13 := (0 : Nat);let z11 := (↑g.c.h : Int); let z57 := (↑z11.toNat : Int);let z10 := (↑g.c.w : Int); let z56 := (↑z10.toNat : Int); let z43 := (Apt.ChG.mk z56.toNat z57.toNat g.c.P); let z18 := (Cel.CeG.mk z10.toNat z11.toNat g.c.P);let z9 := (0 : Int); let z45 := (↑(Int.toNat z9) : Int);let z6 := (Gar.ofA (Gar.OfG.mk g.c.w g.c.h z58 g.out)); let z36 := (Gar.Gt.P z6);let z2 := (paperL z43); let z16 := (Mol.DiG.mk (Rga.Rg.mk z2.length (Rga.rI z2)) (↑g.r : Int).toNat);let z1 := (IntKind.u8 = IntKind.u8);let z0 := (IntKind.i64 = IntKind.i64); let z40 := (Sx.Ask z0 ∧ Sx.Ask (z11 = z57)); let z39 := (Sx.Ask z0 ∧ Sx.Ask (z10 = z56)); let z26 := (Sx.Ask z0 ∧ Sx.Ask (z9 = z9)); let z23 := (Sx.Ask z0 ∧ Sx.Ask (z11 = z11)); let z22 := (Sx.Ask z0 ∧ Sx.Ask (z10 = z10)); let z14 := (Sx.Ask z0 ∧ Sx.Ask (z41 = z41)); let z8 := (Sx.Ask (g.c.P.n = g.c.P.n) ∧ ∀ (i : Nat), i < g.c.P.n → ((((((((True ∧ Sx.Ask (g.c.P.m i = g.c.P.m i) ∧ ∀ (i_1 : Nat), let z51 := (g.c.P.p i i_1); i_1 < g.c.P.m i → ((True ∧ Sx.Ask z0 ∧ Sx.Ask (z51.y = z51.y)) ∧ Sx.Ask z0 ∧ Sx.Ask (z51.x0 = z51.x0)) ∧ Sx.Ask z0 ∧ Sx.Ask (z51.x1 = z51.x1)) ∧ Sx.Ask z1 ∧ Sx.Ask (g.c.P.ink i z13 = g.c.P.ink i z13)) ∧ Sx.Ask z1 ∧ Sx.Ask (g.c.P.ink i z19 = g.c.P.ink i z19)) ∧ Sx.Ask z1 ∧ Sx.Ask (g.c.P.ink i z28 = g.c.P.ink i z28)) ∧ Sx.Ask z1 ∧ Sx.Ask (g.c.P.ink i z29 = g.c.P.ink i z29)) ∧ Sx.Ask z1 ∧ Sx.Ask (g.c.P.ink i z30 = g.c.P.ink i z30)) ∧ Sx.Ask z1 ∧ Sx.Ask (g.c.P.ink i z31 = g.c.P.ink i z31)) ∧ Sx.Ask z1 ∧ Sx.Ask (g.c.P.ink i z32 = g.c.P.ink i z32)) ∧ Sx.Ask z1 ∧ Sx.Ask (g.c.P.ink i z33 = g.c.P.ink i z33)); let z4 := (Sx.Ask (g.near.length = g.near.length) ∧ ∀ (i : Nat), let z42 := (Rga.rI g.near i); i < g.near.length → ((True ∧ Sx.Ask z0 ∧ Sx.Ask (z42.y = z42.y)) ∧ Sx.Ask z0 ∧ Sx.Ask (z42.x0 = z42.x0)) ∧ Sx.Ask z0 ∧ Sx.Ask (z42.x1 = z42.x1));True ∧ True ∧ True ∧ True ∧ True ∧ True ∧ True ∧ ((z39 ∧ z40 ∧ z8 ∧ (Sx.Ask z0 ∧ Sx.Ask (z9 = z45)) ∧ (Sx.Ask z0 ∧ Sx.Ask (z9 = z45)) ∧ True) ∧ Sx.Ask (OnG.mk (Apt.ChG.mk z10.toNat z11.toNat g.c.P) (Int.toNat z9) (Int.toNat z9)).Ok) ∧ True ∧ True ∧ True ∧ True ∧ True ∧ True ∧ True ∧ True ∧ True ∧ ((((((True ∧ Sx.Ask z0 ∧ Sx.Ask (z56 = (↑z56.toNat : Int))) ∧ Sx.Ask z0 ∧ Sx.Ask (z57 = (↑z57.toNat : Int))) ∧ Sx.Ask (g.c.P.n = g.c.P.n) ∧ ∀ (i : Nat), i < g.c.P.n → ((((((((True ∧ Sx.Ask (g.c.P.m i = g.c.P.m i) ∧ ∀ (i_1 : Nat), let z52 := (g.c.P.p i i_1); i_1 < g.c.P.m i → ((True ∧ Sx.Ask z0 ∧ Sx.Ask (z52.y = z52.y)) ∧ Sx.Ask z0 ∧ Sx.Ask (z52.x0 = z52.x0)) ∧ Sx.Ask z0 ∧ Sx.Ask (z52.x1 = z52.x1)) ∧ Sx.Ask z1 ∧ Sx.Ask (g.c.P.ink i z13 = g.c.P.ink i z13)) ∧ Sx.Ask z1 ∧ Sx.Ask (g.c.P.ink i z19 = g.c.P.ink i z19)) ∧ Sx.Ask z1 ∧ Sx.Ask (g.c.P.ink i z28 = g.c.P.ink i z28)) ∧ Sx.Ask z1 ∧ Sx.Ask (g.c.P.ink i z29 = g.c.P.ink i z29)) ∧ Sx.Ask z1 ∧ Sx.Ask (g.c.P.ink i z30 = g.c.P.ink i z30)) ∧ Sx.Ask z1 ∧ Sx.Ask (g.c.P.ink i z31 = g.c.P.ink i z31)) ∧ Sx.Ask z1 ∧ Sx.Ask (g.c.P.ink i z32 = g.c.P.ink i z32)) ∧ Sx.Ask z1 ∧ Sx.Ask (g.c.P.ink i z33 = g.c.P.ink i z33)) ∧ Sx.Ask z0 ∧ Sx.Ask (z45 = (↑z45.toNat : Int))) ∧ True) ∧ Sx.Ask z43.Ok) ∧ True ∧ (((Sx.Ask (z2.length = z2.length) ∧ ∀ (i : Nat), let z55 := (Rga.rI z2 i); i < z2.length → ((True ∧ Sx.Ask z0 ∧ Sx.Ask (z55.y = z55.y)) ∧ Sx.Ask z0 ∧ Sx.Ask (z55.x0 = z55.x0)) ∧ Sx.Ask z0 ∧ Sx.Ask (z55.x1 = z55.x1)) ∧ (Sx.Ask z0 ∧ Sx.Ask ((↑g.r : Int) = (↑(↑g.r : Int).toNat : Int))) ∧ True) ∧ Sx.Ask (Mop.DiOk z16)) ∧ True ∧ True ∧ True ∧ True ∧ True ∧ True ∧ True ∧ True ∧ True ∧ True ∧ ((z39 ∧ z40 ∧ z8 ∧ True) ∧ Sx.Ask z18.Ok) ∧ True ∧ True ∧ True ∧ True ∧ (∃ (g_1 : Nat), Sx.Ask ((pu1 g).pre g_1) ∧ (z22 ∧ z23 ∧ z26 ∧ True ∧ (Sx.Ask (z16.o.length = g.near.length) ∧ ∀ (i : Nat), i < g.near.length → ((True ∧ Sx.Ask z0 ∧ Sx.Ask ((Rga.rI z16.o i).y = (Rga.rI g.near i).y)) ∧ Sx.Ask z0 ∧ Sx.Ask ((Rga.rI z16.o i).x0 = (Rga.rI g.near i).x0)) ∧ Sx.Ask z0 ∧ Sx.Ask ((Rga.rI z16.o i).x1 = (Rga.rI g.near i).x1)) ∧ (Sx.Ask z0 ∧ Sx.Ask ((↑z16.o.length : Int) = z41)) ∧ (Sx.Ask z0 ∧ Sx.Ask (z9 = (↑g_1 : Int))) ∧ True) ∧ True ∧ (Sx.Ask (z27 * z10.toNat * z11.toNat = z27 * g.c.w * g.c.h) ∧ ∀ (i : Nat), i < z27 * g.c.w * g.c.h → (((((((True ∧ Sx.Ask z1 ∧ Sx.Ask (Cel.ceB z18 i z13 = g.cel g_1 i z13)) ∧ Sx.Ask z1 ∧ Sx.Ask (Cel.ceB z18 i z19 = g.cel g_1 i z19)) ∧ Sx.Ask z1 ∧ Sx.Ask (Cel.ceB z18 i z28 = g.cel g_1 i z28)) ∧ Sx.Ask z1 ∧ Sx.Ask (Cel.ceB z18 i z29 = g.cel g_1 i z29)) ∧ Sx.Ask z1 ∧ Sx.Ask (Cel.ceB z18 i z30 = g.cel g_1 i z30)) ∧ Sx.Ask z1 ∧ Sx.Ask (Cel.ceB z18 i z31 = g.cel g_1 i z31)) ∧ Sx.Ask z1 ∧ Sx.Ask (Cel.ceB z18 i z32 = g.cel g_1 i z32)) ∧ Sx.Ask z1 ∧ Sx.Ask (Cel.ceB z18 i z33 = g.cel g_1 i z33)) ∧ True) ∧ ∀ (g_1 : Nat), let z54 := (pu2 g g_1); let z35 := (↑g_1 : Int); let z46 := (Sx.Ask z0 ∧ Sx.Ask (z35 = z35)); let z21 := (Rga.rI g.near z35.toNat); let z20 := (z24 ≤ z35 + z53 ∧ z35 + z53 ≤ z25); let z12 := (g.cel g_1); let z5 := (Rga.rI g.near g_1); let z34 := (((True ∧ Sx.Ask z0 ∧ Sx.Ask (z5.y = z5.y)) ∧ Sx.Ask z0 ∧ Sx.Ask (z5.x0 = z5.x0)) ∧ Sx.Ask z0 ∧ Sx.Ask (z5.x1 = z5.x1)); let z3 := (Gar.ofA (Gar.OfG.mk z10.toNat z11.toNat z58 z12)); let z37 := (Gar.Gt.P z3); (pu1 g).pre g_1 → True ∧ Sx.Br (decide (z35 < z41)) (Sx.Ask (z9 ≤ z35 ∧ z35 < z41) ∧ True ∧ True ∧ True ∧ True ∧ True ∧ True ∧ True ∧ Sx.Br (decide (z21.y < z9)) (True ∧ Sx.Ask z20 ∧ True ∧ ∃ (g' : Nat), Sx.Ask ((pu1 g).pre g') ∧ ((z22 ∧ z23 ∧ z26 ∧ True ∧ z4 ∧ z14 ∧ (Sx.Ask z0 ∧ Sx.Ask (z35 + z53 = (↑g' : Int))) ∧ True) ∧ True ∧ (Sx.Ask z15 ∧ ∀ (i : Nat), i < z27 * g.c.w * g.c.h → (((((((True ∧ Sx.Ask z1 ∧ Sx.Ask (g.cel g_1 i z13 = g.cel g' i z13)) ∧ Sx.Ask z1 ∧ Sx.Ask (g.cel g_1 i z19 = g.cel g' i z19)) ∧ Sx.Ask z1 ∧ Sx.Ask (g.cel g_1 i z28 = g.cel g' i z28)) ∧ Sx.Ask z1 ∧ Sx.Ask (g.cel g_1 i z29 = g.cel g' i z29)) ∧ Sx.Ask z1 ∧ Sx.Ask (g.cel g_1 i z30 = g.cel g' i z30)) ∧ Sx.Ask z1 ∧ Sx.Ask (g.cel g_1 i z31 = g.cel g' i z31)) ∧ Sx.Ask z1 ∧ Sx.Ask (g.cel g_1 i z32 = g.cel g' i z32)) ∧ Sx.Ask z1 ∧ Sx.Ask (g.cel g_1 i z33 = g.cel g' i z33)) ∧ True) ∧ Sx.Ask ((pu1 g).meas g' < (pu1 g).meas g_1)) (True ∧ True ∧ True ∧ Sx.Ask (z24 ≤ z38 * z11 ∧ z38 * z11 ≤ z25) ∧ True ∧ True ∧ Sx.Br (decide (z38 * z11 ≤ z21.y)) (Sx.Ask z20 ∧ True ∧ ∃ (g' : Nat), Sx.Ask ((pu1 g).pre g') ∧ ((z22 ∧ z23 ∧ z26 ∧ True ∧ z4 ∧ z14 ∧ (Sx.Ask z0 ∧ Sx.Ask (z35 + z53 = (↑g' : Int))) ∧ True) ∧ True ∧ (Sx.Ask z15 ∧ ∀ (i : Nat), i < z27 * g.c.w * g.c.h → (((((((True ∧ Sx.Ask z1 ∧ Sx.Ask (g.cel g_1 i z13 = g.cel g' i z13)) ∧ Sx.Ask z1 ∧ Sx.Ask (g.cel g_1 i z19 = g.cel g' i z19)) ∧ Sx.Ask z1 ∧ Sx.Ask (g.cel g_1 i z28 = g.cel g' i z28)) ∧ Sx.Ask z1 ∧ Sx.Ask (g.cel g_1 i z29 = g.cel g' i z29)) ∧ Sx.Ask z1 ∧ Sx.Ask (g.cel g_1 i z30 = g.cel g' i z30)) ∧ Sx.Ask z1 ∧ Sx.Ask (g.cel g_1 i z31 = g.cel g' i z31)) ∧ Sx.Ask z1 ∧ Sx.Ask (g.cel g_1 i z32 = g.cel g' i z32)) ∧ Sx.Ask z1 ∧ Sx.Ask (g.cel g_1 i z33 = g.cel g' i z33)) ∧ True) ∧ Sx.Ask ((pu1 g).meas g' < (pu1 g).meas g_1)) (True ∧ True ∧ True ∧ True ∧ (∃ (g_2 : Nat), let z44 := (↑g_2 : Int); Sx.Ask (z54.pre g_2) ∧ (z22 ∧ z23 ∧ z26 ∧ True ∧ z4 ∧ z14 ∧ z46 ∧ Sx.Ask (z13 = z13) ∧ (Sx.Ask z0 ∧ Sx.Ask ((if z21.x0 > z9 then z21.x0 else z9) = z44)) ∧ True) ∧ True ∧ (Sx.Ask z15 ∧ ∀ (i : Nat), i < z27 * g.c.w * g.c.h → (((((((True ∧ Sx.Ask z1 ∧ Sx.Ask (g.cel g_1 i z13 = pul1 g.c.w g.c.h z12 z5 z44 i z13)) ∧ Sx.Ask z1 ∧ Sx.Ask (g.cel g_1 i z19 = pul1 g.c.w g.c.h z12 z5 z44 i z19)) ∧ Sx.Ask z1 ∧ Sx.Ask (g.cel g_1 i z28 = pul1 g.c.w g.c.h z12 z5 z44 i z28)) ∧ Sx.Ask z1 ∧ Sx.Ask (g.cel g_1 i z29 = pul1 g.c.w g.c.h z12 z5 z44 i z29)) ∧ Sx.Ask z1 ∧ Sx.Ask (g.cel g_1 i z30 = pul1 g.c.w g.c.h z12 z5 z44 i z30)) ∧ Sx.Ask z1 ∧ Sx.Ask (g.cel g_1 i z31 = pul1 g.c.w g.c.h z12 z5 z44 i z31)) ∧ Sx.Ask z1 ∧ Sx.Ask (g.cel g_1 i z32 = pul1 g.c.w g.c.h z12 z5 z44 i z32)) ∧ Sx.Ask z1 ∧ Sx.Ask (g.cel g_1 i z33 = pul1 g.c.w g.c.h z12 z5 z44 i z33)) ∧ (((True ∧ Sx.Ask z0 ∧ Sx.Ask (z21.y = z5.y)) ∧ Sx.Ask z0 ∧ Sx.Ask (z21.x0 = z5.x0)) ∧ Sx.Ask z0 ∧ Sx.Ask (z21.x1 = z5.x1)) ∧ True) ∧ ∀ (g_2 : Nat), let z17 := (↑g_2 : Int); let z7 := (z5.y * z38 * z10 + z17); let z47 := (z7.toNat < z27 * g.c.w * g.c.h); z54.pre g_2 → True ∧ True ∧ True ∧ True ∧ Sx.Ask (z24 ≤ z38 * z10 ∧ z38 * z10 ≤ z25) ∧ True ∧ True ∧ Sx.Br (decide (z17 < if z38 * z10 < z5.x1 then z38 * z10 else z5.x1)) (True ∧ True ∧ True ∧ Sx.Ask (z24 ≤ z5.y * z38 ∧ z5.y * z38 ≤ z25) ∧ True ∧ Sx.Ask (z24 ≤ z5.y * z38 * z10 ∧ z5.y * z38 * z10 ≤ z25) ∧ True ∧ Sx.Ask (z24 ≤ z5.y * z38 * z10 + z17 ∧ z5.y * z38 * z10 + z17 ≤ z25) ∧ Sx.Ask (z9 ≤ z5.y * z38 * z10 + z17 ∧ z5.y * z38 * z10 + z17 < (↑z58 : Int)) ∧ True ∧ True ∧ True ∧ True ∧ Sx.Ask (z9 ≤ z9 ∧ z9 < (↑(8 : Nat) : Int)) ∧ Sx.Ask z47 ∧ True ∧ Sx.Br (decide (pul1 g.c.w g.c.h z12 z5 z17 z7.toNat (z13 + Int.toNat z9 * z19) = z48)) (True ∧ True ∧ True ∧ Sx.Ask z47 ∧ True ∧ True ∧ True ∧ Sx.Ask (z9 ≤ z9 ∧ z9 < (↑(8 : Nat) : Int)) ∧ Sx.Ask z47 ∧ True ∧ Sx.Ask (z24 ≤ z17 + z53 ∧ z17 + z53 ≤ z25) ∧ True ∧ ∃ (g' : Nat), let z49 := (↑g' : Int); Sx.Ask (z54.pre g') ∧ ((z22 ∧ z23 ∧ z26 ∧ True ∧ z4 ∧ z14 ∧ z46 ∧ Sx.Ask (z13 = z13) ∧ (Sx.Ask z0 ∧ Sx.Ask (z17 + z53 = z49)) ∧ True) ∧ True ∧ (Sx.Ask z15 ∧ ∀ (i : Nat), i < z27 * g.c.w * g.c.h → (((((((True ∧ Sx.Ask z1 ∧ Sx.Ask ((bif decide (i = z7.toNat ∧ z13 + Int.toNat z9 * z19 ≤ z13 ∧ z13 < z13 + Int.toNat z9 * z19 + z19) then z48 else bif decide (i = z7.toNat ∧ z13 ≤ z13 ∧ z13 < z13 + [Go.Value.int IntKind.u8 z9, Go.Value.int IntKind.u8 z9, Go.Value.int IntKind.u8 z9, Go.Value.int IntKind.u8 z9, Go.Value.int IntKind.u8 z9, Go.Value.int IntKind.u8 z9, Go.Value.int IntKind.u8 z9, Go.Value.int IntKind.u8 z9].length) then z9 else pul1 g.c.w g.c.h z12 z5 z17 i z13) = pul1 g.c.w g.c.h z12 z5 z49 i z13)) ∧ Sx.Ask z1 ∧ Sx.Ask ((bif decide (i = z7.toNat ∧ z13 + Int.toNat z9 * z19 ≤ z19 ∧ z19 < z13 + Int.toNat z9 * z19 + z19) then z48 else bif decide (i = z7.toNat ∧ z13 ≤ z19 ∧ z19 < z13 + [Go.Value.int IntKind.u8 z9, Go.Value.int IntKind.u8 z9, Go.Value.int IntKind.u8 z9, Go.Value.int IntKind.u8 z9, Go.Value.int IntKind.u8 z9, Go.Value.int IntKind.u8 z9, Go.Value.int IntKind.u8 z9, Go.Value.int IntKind.u8 z9].length) then z9 else pul1 g.c.w g.c.h z12 z5 z17 i z19) = pul1 g.c.w g.c.h z12 z5 z49 i z19)) ∧ Sx.Ask z1 ∧ Sx.Ask ((bif decide (i = z7.toNat ∧ z13 + Int.toNat z9 * z19 ≤ z28 ∧ z28 < z13 + Int.toNat z9 * z19 + z19) then z48 else bif decide (i = z7.toNat ∧ z13 ≤ z28 ∧ z28 < z13 + [Go.Value.int IntKind.u8 z9, Go.Value.int IntKind.u8 z9, Go.Value.int IntKind.u8 z9, Go.Value.int IntKind.u8 z9, Go.Value.int IntKind.u8 z9, Go.Value.int IntKind.u8 z9, Go.Value.int IntKind.u8 z9, Go.Value.int IntKind.u8 z9].length) then z9 else pul1 g.c.w g.c.h z12 z5 z17 i z28) = pul1 g.c.w g.c.h z12 z5 z49 i z28)) ∧ Sx.Ask z1 ∧ Sx.Ask ((bif decide (i = z7.toNat ∧ z13 + Int.toNat z9 * z19 ≤ z29 ∧ z29 < z13 + Int.toNat z9 * z19 + z19) then z48 else bif decide (i = z7.toNat ∧ z13 ≤ z29 ∧ z29 < z13 + [Go.Value.int IntKind.u8 z9, Go.Value.int IntKind.u8 z9, Go.Value.int IntKind.u8 z9, Go.Value.int IntKind.u8 z9, Go.Value.int IntKind.u8 z9, Go.Value.int IntKind.u8 z9, Go.Value.int IntKind.u8 z9, Go.Value.int IntKind.u8 z9].length) then z9 else pul1 g.c.w g.c.h z12 z5 z17 i z29) = pul1 g.c.w g.c.h z12 z5 z49 i z29)) ∧ Sx.Ask z1 ∧ Sx.Ask ((bif decide (i = z7.toNat ∧ z13 + Int.toNat z9 * z19 ≤ z30 ∧ z30 < z13 + Int.toNat z9 * z19 + z19) then z48 else bif decide (i = z7.toNat ∧ z13 ≤ z30 ∧ z30 < z13 + [Go.Value.int IntKind.u8 z9, Go.Value.int IntKind.u8 z9, Go.Value.int IntKind.u8 z9, Go.Value.int IntKind.u8 z9, Go.Value.int IntKind.u8 z9, Go.Value.int IntKind.u8 z9, Go.Value.int IntKind.u8 z9, Go.Value.int IntKind.u8 z9].length) then z9 else pul1 g.c.w g.c.h z12 z5 z17 i z30) = pul1 g.c.w g.c.h z12 z5 z49 i z30)) ∧ Sx.Ask z1 ∧ Sx.Ask ((bif decide (i = z7.toNat ∧ z13 + Int.toNat z9 * z19 ≤ z31 ∧ z31 < z13 + Int.toNat z9 * z19 + z19) then z48 else bif decide (i = z7.toNat ∧ z13 ≤ z31 ∧ z31 < z13 + [Go.Value.int IntKind.u8 z9, Go.Value.int IntKind.u8 z9, Go.Value.int IntKind.u8 z9, Go.Value.int IntKind.u8 z9, Go.Value.int IntKind.u8 z9, Go.Value.int IntKind.u8 z9, Go.Value.int IntKind.u8 z9, Go.Value.int IntKind.u8 z9].length) then z9 else pul1 g.c.w g.c.h z12 z5 z17 i z31) = pul1 g.c.w g.c.h z12 z5 z49 i z31)) ∧ Sx.Ask z1 ∧ Sx.Ask ((bif decide (i = z7.toNat ∧ z13 + Int.toNat z9 * z19 ≤ z32 ∧ z32 < z13 + Int.toNat z9 * z19 + z19) then z48 else bif decide (i = z7.toNat ∧ z13 ≤ z32 ∧ z32 < z13 + [Go.Value.int IntKind.u8 z9, Go.Value.int IntKind.u8 z9, Go.Value.int IntKind.u8 z9, Go.Value.int IntKind.u8 z9, Go.Value.int IntKind.u8 z9, Go.Value.int IntKind.u8 z9, Go.Value.int IntKind.u8 z9, Go.Value.int IntKind.u8 z9].length) then z9 else pul1 g.c.w g.c.h z12 z5 z17 i z32) = pul1 g.c.w g.c.h z12 z5 z49 i z32)) ∧ Sx.Ask z1 ∧ Sx.Ask ((bif decide (i = z7.toNat ∧ z13 + Int.toNat z9 * z19 ≤ z33 ∧ z33 < z13 + Int.toNat z9 * z19 + z19) then z48 else bif decide (i = z7.toNat ∧ z13 ≤ z33 ∧ z33 < z13 + [Go.Value.int IntKind.u8 z9, Go.Value.int IntKind.u8 z9, Go.Value.int IntKind.u8 z9, Go.Value.int IntKind.u8 z9, Go.Value.int IntKind.u8 z9, Go.Value.int IntKind.u8 z9, Go.Value.int IntKind.u8 z9, Go.Value.int IntKind.u8 z9].length) then z9 else pul1 g.c.w g.c.h z12 z5 z17 i z33) = pul1 g.c.w g.c.h z12 z5 z49 i z33)) ∧ z34 ∧ True) ∧ Sx.Ask (z54.meas g' < z54.meas g_2)) (True ∧ Sx.Ask (z24 ≤ z17 + z53 ∧ z17 + z53 ≤ z25) ∧ True ∧ ∃ (g' : Nat), let z50 := (↑g' : Int); Sx.Ask (z54.pre g') ∧ ((z22 ∧ z23 ∧ z26 ∧ True ∧ z4 ∧ z14 ∧ z46 ∧ Sx.Ask (z13 = z13) ∧ (Sx.Ask z0 ∧ Sx.Ask (z17 + z53 = z50)) ∧ True) ∧ True ∧ (Sx.Ask z15 ∧ ∀ (i : Nat), i < z27 * g.c.w * g.c.h → (((((((True ∧ Sx.Ask z1 ∧ Sx.Ask (pul1 g.c.w g.c.h z12 z5 z17 i z13 = pul1 g.c.w g.c.h z12 z5 z50 i z13)) ∧ Sx.Ask z1 ∧ Sx.Ask (pul1 g.c.w g.c.h z12 z5 z17 i z19 = pul1 g.c.w g.c.h z12 z5 z50 i z19)) ∧ Sx.Ask z1 ∧ Sx.Ask (pul1 g.c.w g.c.h z12 z5 z17 i z28 = pul1 g.c.w g.c.h z12 z5 z50 i z28)) ∧ Sx.Ask z1 ∧ Sx.Ask (pul1 g.c.w g.c.h z12 z5 z17 i z29 = pul1 g.c.w g.c.h z12 z5 z50 i z29)) ∧ Sx.Ask z1 ∧ Sx.Ask (pul1 g.c.w g.c.h z12 z5 z17 i z30 = pul1 g.c.w g.c.h z12 z5 z50 i z30)) ∧ Sx.Ask z1 ∧ Sx.Ask (pul1 g.c.w g.c.h z12 z5 z17 i z31 = pul1 g.c.w g.c.h z12 z5 z50 i z31)) ∧ Sx.Ask z1 ∧ Sx.Ask (pul1 g.c.w g.c.h z12 z5 z17 i z32 = pul1 g.c.w g.c.h z12 z5 z50 i z32)) ∧ Sx.Ask z1 ∧ Sx.Ask (pul1 g.c.w g.c.h z12 z5 z17 i z33 = pul1 g.c.w g.c.h z12 z5 z50 i z33)) ∧ z34 ∧ True) ∧ Sx.Ask (z54.meas g' < z54.meas g_2))) (Sx.Ask z20 ∧ True ∧ ∃ (g' : Nat), Sx.Ask ((pu1 g).pre g') ∧ ((z22 ∧ z23 ∧ z26 ∧ True ∧ z4 ∧ z14 ∧ (Sx.Ask z0 ∧ Sx.Ask (z35 + z53 = (↑g' : Int))) ∧ True) ∧ True ∧ (Sx.Ask z15 ∧ ∀ (i : Nat), i < z27 * g.c.w * g.c.h → (((((((True ∧ Sx.Ask z1 ∧ Sx.Ask (pul1 g.c.w g.c.h z12 z5 z17 i z13 = g.cel g' i z13)) ∧ Sx.Ask z1 ∧ Sx.Ask (pul1 g.c.w g.c.h z12 z5 z17 i z19 = g.cel g' i z19)) ∧ Sx.Ask z1 ∧ Sx.Ask (pul1 g.c.w g.c.h z12 z5 z17 i z28 = g.cel g' i z28)) ∧ Sx.Ask z1 ∧ Sx.Ask (pul1 g.c.w g.c.h z12 z5 z17 i z29 = g.cel g' i z29)) ∧ Sx.Ask z1 ∧ Sx.Ask (pul1 g.c.w g.c.h z12 z5 z17 i z30 = g.cel g' i z30)) ∧ Sx.Ask z1 ∧ Sx.Ask (pul1 g.c.w g.c.h z12 z5 z17 i z31 = g.cel g' i z31)) ∧ Sx.Ask z1 ∧ Sx.Ask (pul1 g.c.w g.c.h z12 z5 z17 i z32 = g.cel g' i z32)) ∧ Sx.Ask z1 ∧ Sx.Ask (pul1 g.c.w g.c.h z12 z5 z17 i z33 = g.cel g' i z33)) ∧ True) ∧ Sx.Ask ((pu1 g).meas g' < (pu1 g).meas g_1))))) (True ∧ True ∧ True ∧ ((z39 ∧ z40 ∧ (Sx.Ask z15 ∧ ∀ (i : Nat), i < z27 * g.c.w * g.c.h → (((((((True ∧ Sx.Ask z1 ∧ Sx.Ask (g.cel g_1 i z13 = g.cel g_1 i z13)) ∧ Sx.Ask z1 ∧ Sx.Ask (g.cel g_1 i z19 = g.cel g_1 i z19)) ∧ Sx.Ask z1 ∧ Sx.Ask (g.cel g_1 i z28 = g.cel g_1 i z28)) ∧ Sx.Ask z1 ∧ Sx.Ask (g.cel g_1 i z29 = g.cel g_1 i z29)) ∧ Sx.Ask z1 ∧ Sx.Ask (g.cel g_1 i z30 = g.cel g_1 i z30)) ∧ Sx.Ask z1 ∧ Sx.Ask (g.cel g_1 i z31 = g.cel g_1 i z31)) ∧ Sx.Ask z1 ∧ Sx.Ask (g.cel g_1 i z32 = g.cel g_1 i z32)) ∧ Sx.Ask z1 ∧ Sx.Ask (g.cel g_1 i z33 = g.cel g_1 i z33)) ∧ True) ∧ Sx.Ask ((z19 ≤ z10.toNat ∧ z10.toNat ≤ z27) ∧ (z19 ≤ z11.toNat ∧ z11.toNat ≤ z27) ∧ z27 * g.c.w * g.c.h = z27 * z10.toNat * z11.toNat)) ∧ True ∧ True ∧ True ∧ True ∧ True ∧ (True ∧ Sx.Ask ((bif z3.full then z13 else z3.n) = bif z6.full then z13 else z6.n) ∧ ∀ (i : Nat), (i < bif z6.full then z13 else z6.n) → ((((((((True ∧ Sx.Ask (z37.m i = z36.m i) ∧ ∀ (i_1 : Nat), i_1 < z36.m i → ((True ∧ Sx.Ask z0 ∧ Sx.Ask ((z37.p i i_1).y = (z36.p i i_1).y)) ∧ Sx.Ask z0 ∧ Sx.Ask ((z37.p i i_1).x0 = (z36.p i i_1).x0)) ∧ Sx.Ask z0 ∧ Sx.Ask ((z37.p i i_1).x1 = (z36.p i i_1).x1)) ∧ Sx.Ask z1 ∧ Sx.Ask (z37.ink i z13 = z36.ink i z13)) ∧ Sx.Ask z1 ∧ Sx.Ask (z37.ink i z19 = z36.ink i z19)) ∧ Sx.Ask z1 ∧ Sx.Ask (z37.ink i z28 = z36.ink i z28)) ∧ Sx.Ask z1 ∧ Sx.Ask (z37.ink i z29 = z36.ink i z29)) ∧ Sx.Ask z1 ∧ Sx.Ask (z37.ink i z30 = z36.ink i z30)) ∧ Sx.Ask z1 ∧ Sx.Ask (z37.ink i z31 = z36.ink i z31)) ∧ Sx.Ask z1 ∧ Sx.Ask (z37.ink i z32 = z36.ink i z32)) ∧ Sx.Ask z1 ∧ Sx.Ask (z37.ink i z33 = z36.ink i z33)) ∧ Sx.Ask z0 ∧ Sx.Ask ((bif z3.full then (2 : Int) else z9) = bif z6.full then (2 : Int) else z9))) (by kernel_rfl) ?_
  simp only [ask_iff, br_iff, eq_self, true_and, and_true, implies_true, forall_const, decide_eq_true_eq, decide_eq_false_iff_not, ne_eq, Nat.mul_one, Nat.add_zero, Nat.zero_add, Int.toNat_natCast, Bool.or_false]
  have hw := hg.c.w
  have hh := hg.c.h
  have hw2 := hg.w
  have hh2 := hg.h
  have hdi := (paper_bx hg.c hw2 hh2).diOk (by decide) (w := g.r) (by have := hg.r; omega)
  have nearb : g.near.length ≤ 300000000 := vld_len (DiG.o_vld _)
  have e3 : 256 * g.c.w * g.c.h ≤ 256 * 2 * 2 := Nat.mul_le_mul (Nat.mul_le_mul_left _ hw2) hh2
  have hout : ∀ k, g.cel (k + 1) = pul1 g.c.w g.c.h (g.cel k) (rI g.near k) (xb g.c.w (rI g.near k)) := fun k => rfl
  have skip : ∀ k : Nat, (k : Int) < g.near.length → inside g.c.h (rI g.near k) = false → ∃ g' : Nat, (pu1 g).pre g' ∧ ((k : Int) + 1 = (g' : Int) ∧ ∀ i, i < 256 * g.c.w * g.c.h → ((((((g.cel k i 0 = g.cel g' i 0 ∧ g.cel k i 1 = g.cel g' i 1) ∧ g.cel k i 2 = g.cel g' i 2) ∧ g.cel k i 3 = g.cel g' i 3) ∧ g.cel k i 4 = g.cel g' i 4) ∧ g.cel k i 5 = g.cel g' i 5) ∧ g.cel k i 6 = g.cel g' i 6) ∧ g.cel k i 7 = g.cel g' i 7) ∧ (pu1 g).meas g' < (pu1 g).meas k := fun k hk hin =>
    ⟨k + 1, by show k + 1 ≤ g.near.length; omega, ⟨by simp, fun i _ => eight (fun j _ => by rw [hout, pul1_out hin])⟩, by show g.near.length - (k + 1) < g.near.length - k; omega⟩
  have hgc : (⟨g.c.w, g.c.h, g.c.P⟩ : ChG).Ok := hg.c
  have hce : (⟨g.c.w, g.c.h, g.c.P⟩ : CeG).Ok := ce_ok hg.c
  refine ⟨⟨⟨rfl, rfl⟩, hgc, by show 0 < 8; decide, by show 0 < 8; decide⟩, hgc, hdi, hce, ⟨0, Nat.zero_le _, ⟨sm_same rfl, rfl, rfl⟩, fun i _ => eight (fun _ _ => rfl)⟩, fun k hk => ⟨fun hlt => ⟨by omega, fun hy => ⟨by omega, skip k hlt ?_⟩, fun hy => ⟨by omega, fun hy2 => ⟨by omega, skip k hlt ?_⟩, fun hy2 => ?_⟩⟩, fun hge => ?_⟩⟩
  · unfold inside; rw [decide_eq_false (by omega)]; rfl
  · unfold inside; rw [decide_eq_false (show ¬ (rI g.near k).y < 16 * (g.c.h : Int) by omega), Bool.and_false]
  · have hin : inside g.c.h (rI g.near k) = true := by
      unfold inside
      rw [decide_eq_true (by omega), decide_eq_true (by omega)]
      rfl
    have hkn : k < g.near.length := by omega
    generalize hR : rI g.near k = R at hy hy2 hin
    have hxa := xa_nonneg R
    have ey : ((R.y.toNat : Nat) : Int) = R.y := Int.toNat_of_nonneg (by omega)
    have c2 : R.y * 16 * g.c.w = ((rwAt g.c.w R : Nat) : Int) := by
      unfold rwAt
      rw [← ey]
      simp [Int.mul_assoc]
    have h1 : (R.y.toNat + 1) * (16 * g.c.w) ≤ 256 * g.c.w * g.c.h := by
      refine Nat.le_trans (Nat.mul_le_mul_right _ (show R.y.toNat + 1 ≤ 16 * g.c.h by omega)) (Nat.le_of_eq ?_)
      grind
    have h2 : rwAt g.c.w R + 16 * g.c.w ≤ 256 * g.c.w * g.c.h := by
      unfold rwAt
      rw [Nat.add_mul, Nat.one_mul] at h1
      exact h1
    have exa : (if R.x0 > 0 then R.x0 else 0) = xa R := rfl
    have exb : (if 16 * (g.c.w : Int) < R.x1 then 16 * (g.c.w : Int) else R.x1) = xb g.c.w R := rfl
    have hxb : xb g.c.w R ≤ 16 * g.c.w := by unfold xb; split <;> omega
    rw [exa, exb, c2]
    have hpre : ∀ x : Nat, xa R ≤ x → ((x : Int) ≤ xb g.c.w R ∨ (x : Int) = xa R) → (pu2 g k).pre x := fun x a b => ⟨⟨hkn, by rw [hR]; exact hin⟩, by rw [hR]; exact a, by rw [hR]; exact b⟩
    refine ⟨⟨(xa R).toNat, hpre _ (by omega) (.inr (by omega)), by omega, fun i _ => eight (fun j _ => ?_)⟩, fun x hx => ⟨by omega, fun hlt2 => ?_, fun hge2 => ⟨by omega, k + 1, hkn, ⟨by omega, fun i _ => eight (fun j _ => ?_)⟩, by show g.near.length - (k + 1) < g.near.length - k; omega⟩⟩⟩
    · have : pul1 g.c.w g.c.h (g.cel k) R ((xa R).toNat : Int) i = g.cel k i := by
        unfold pul1
        rw [decide_eq_false (by omega), Bool.and_false]
        rfl
      rw [this]
    · obtain ⟨_, hx1, hx2⟩ := hx
      rw [hR] at hx1 hx2
      have ei : (((rwAt g.c.w R : Nat) : Int) + x).toNat = rwAt g.c.w R + x := by omega
      have hm : ((pu2 g k).meas (x + 1 : Nat) : Nat) < (pu2 g k).meas x := by
        show (xb g.c.w (rI g.near k) - ((x + 1 : Nat) : Int)).toNat < (xb g.c.w (rI g.near k) - (x : Int)).toNat
        rw [hR]
        omega
      rw [ei]
      refine ⟨by omega, by omega, by omega, by omega, by decide, by omega, fun hc => ⟨by omega, by decide, by omega, by omega, x + 1, hpre _ (by omega) (.inl (by omega)), ⟨by omega, fun i _ => ?_⟩, hm⟩, fun hc => ⟨by omega, x + 1, hpre _ (by omega) (.inl (by omega)), ⟨by omega, fun i _ => eight (fun j _ => ?_)⟩, hm⟩⟩
      · refine eight (a := fun j => bif decide (i = rwAt g.c.w R + x ∧ Int.toNat 0 ≤ j ∧ j < Int.toNat 0 + 1) then 255 else bif decide (i = rwAt g.c.w R + x ∧ 0 ≤ j ∧ j < 8) then 0 else pul1 g.c.w g.c.h (g.cel k) R x i j) (b := pul1 g.c.w g.c.h (g.cel k) R ((x + 1 : Nat) : Int) i) (fun j hj => ?_)
        rw [pul1_step hin hx1]
        by_cases hi : i = rwAt g.c.w R + x
        · rw [decide_eq_true hi, decide_eq_true (show i = rwAt g.c.w R + x ∧ 0 ≤ j ∧ j < 8 from ⟨hi, Nat.zero_le _, hj⟩)]
          rw [pul1_at] at hc
          have hc : g.cel k (rwAt g.c.w R + x) 0 = 255 := hc
          show _ = key1 (g.cel k i) j
          unfold key1
          rw [hi, decide_eq_true hc]
          simp only [cond_true]
          by_cases hj0 : j = 0
          · subst hj0; rfl
          · rw [if_neg hj0]
            simp [hj0]
        · rw [decide_eq_false hi, decide_eq_false (fun h => hi h.1), decide_eq_false (fun h => hi h.1)]
          rfl
      · rw [pul1_step hin hx1]
        by_cases hi : i = rwAt g.c.w R + x
        · rw [decide_eq_true hi]
          rw [pul1_at] at hc
          show _ = key1 (g.cel k i) j
          rw [hi, pul1_at, key1_not hc]
        · rw [decide_eq_false hi]
          rfl
    · obtain ⟨_, hx1, hx2⟩ := hx
      rw [hR] at hx1 hx2
      rw [hout, hR, pul1_end (x := (x : Int)) (y := xb g.c.w R) (by omega)]
  · have hk2 : k ≤ g.near.length := hk
    have e : g.cel k = g.out := by
      show g.cel k = g.cel g.near.length
      rw [show g.near.length = k by omega]
    rw [e]
    refine ⟨⟨hw, hh⟩, ⟨rfl, fun i _ => ?_⟩, rfl⟩
    repeat' (first | rfl | trivial | apply And.intro | intro _)
/-! Fringe. -/
structure FrG where
  c : ChG
  ink : Nat
  dx : Int
  dy : Int
structure FrG.Ok (g : FrG) : Prop where
  c : g.c.Ok
  ink : 1 ≤ g.ink ∧ g.ink < 8
  w : g.c.w ≤ 2
  h : g.c.h ≤ 2
  v : ∀ k, k < g.c.P.n → ∀ j, 0 ≤ g.c.P.ink k j ∧ g.c.P.ink k j ≤ 255
  x : -64 ≤ g.dx ∧ g.dx ≤ 64
  y : -64 ≤ g.dy ∧ g.dy ≤ 64
/-- Where the ink lies under solid key ink. -/
noncomputable def FrG.under (g : FrG) : List Rn := un and (smR (has ⟨0, 255⟩) g.c.P) (smR (has ⟨g.ink, 1⟩) g.c.P)
noncomputable def FrG.out (g : FrG) : List Rn := un and (paperL g.c) (un and (shL g.dx g.dy g.under) (rectL g.c.w g.c.h))
noncomputable def spFringe : FSpec := mkSpec 11 (γ := FrG) (fun | [.int _ w, .int _ h, s, _, .int _ i, .agg _ d] => some ⟨⟨w.toNat, h.toNat, pcD s⟩, i.toNat, Sx.intOf (d 0), Sx.intOf (d 1)⟩ | _ => none)
  (fun g => [.int .i64 g.c.w, .int .i64 g.c.h, pcS g.c.P, .int .i64 0, .int .i64 g.ink, .agg 2 (lst [.int .i64 g.dx, .int .i64 g.dy])]) FrG.Ok (fun g => okP (runsS g.out))
theorem sel_in {g : ChG} (hg : g.Ok) {b : Vec → Bool} {y x : Int} (h : mem (sel b g.P g.P.n) y x = true) : inPg g.w g.h y x = true := by
  obtain ⟨r, hr, h1, h2, h3⟩ := (mem_iff _ _ _).1 h
  obtain ⟨k, i, hk, _, hi, rfl⟩ := sel_mem.1 hr
  have := hg.r k i hk hi
  unfold inPg
  rw [decide_eq_true_eq]
  omega
theorem mv_eq (a : PaG) (L : List Rn) (dx dy : Int) : mvL ⟨a, L.length, rI L, dx, dy⟩ = un and (shL dx dy L) (rectL a.g.w a.g.h) := by
  unfold mvL
  rw [ShG.L_eq, Rg.L_of]
theorem under_mem {g : FrG} (hg : g.Ok) (y x : Int) : mem g.under y x = (mem (sel (has ⟨0, 255⟩) g.c.P g.c.P.n) y x && mem (sel (has ⟨g.ink, 1⟩) g.c.P g.c.P.n) y x) := by
  unfold FrG.under
  rw [un_mem rfl (smR_vld _ _) (smR_vld _ _), smR_mem (sm_ok hg.c.P _), smR_mem (sm_ok hg.c.P _)]
theorem under_bx {g : FrG} (hg : g.Ok) : Bx 50 g.under := ⟨un_vld _ _ _, fun y x hm => by
  rw [under_mem hg, Bool.and_eq_true] at hm
  have := sel_in hg.c hm.1
  unfold inPg at this
  rw [decide_eq_true_eq] at this
  have h1 := hg.w
  have h2 := hg.h
  omega⟩
theorem vldR {L : List Rn} (h : vld L) : vld (Rg.L ⟨L.length, rI L⟩) := by rw [Rg.L_of]; exact h
theorem shift_ok {L : List Rn} (h : Bx 50 L) {dx dy : Int} (hx : -64 ≤ dx ∧ dx ≤ 64) (hy : -64 ≤ dy ∧ dy ≤ 64) : ShG.ok ⟨⟨L.length, rI L⟩, dx, dy⟩ := by
  refine ⟨vldR h.v, by show -16384 ≤ dx ∧ dx ≤ 16384; omega, by show -16384 ≤ dy ∧ dy ≤ 16384; omega, fun i hi => ?_⟩
  have hi : i < L.length := hi
  have hm : rI L i ∈ L := by
    unfold rI
    rw [List.getD_eq_getElem?_getD, List.getElem?_eq_getElem hi]
    exact List.getElem_mem hi
  have hr := h.run hm
  exact ⟨⟨⟨by show -8192 ≤ (rI L i).y + dy; omega, by show (rI L i).y + dy < 8192; omega⟩, ⟨by show -8192 ≤ (rI L i).x0 + dx; omega, by show (rI L i).x0 + dx ≤ 8192; omega⟩, by show -8192 ≤ (rI L i).x1 + dx; omega, by show (rI L i).x1 + dx ≤ 8192; omega⟩, by show (rI L i).x0 + dx < (rI L i).x1 + dx; omega⟩
theorem ok_fringe : SpecOK Try.prog spFringe := by
  refine spec_sound (specs := [spOpen, spShiftable, spInk, spPaper, spMoved, spIntersect]) (all_ok (⟨ok_open, ok_shiftable, ok_ink, ok_paper, ok_moved, ok_Intersect, trivial⟩)) (eqs := []) (fun _ _ h => (List.not_mem_nil h).elim) Aff.mixed Try.func11 rfl (by kernel_rfl) (fun _ _ => by kernel_rfl) (fun g => A0) (fun g => Nat.le_of_ble_eq_true (by kernel_rfl)) ?_
  rintro g hg
  refine vc_of (B := let z29 := (↑g.c.h : Int);let z28 := (↑g.c.w : Int);let z17 := (↑g.ink : Int);let z15 := (↑z28.toNat : Int);let z14 := (↑z29.toNat : Int);let z10 := (Int.toNat (0 : Int));let z9 := (IntKind.u8 = IntKind.u8);let z7 := (Som.smR (Som.has (Som.InG.mk z17.toNat (1 : Int))) g.c.P);let z6 := (Som.smR (Som.has (Som.InG.mk z10 (255 : Int))) g.c.P);let z5 := (IntKind.i64 = IntKind.i64); let z27 := (Sx.Ask z5 ∧ Sx.Ask (z17 = (↑z17.toNat : Int))); let z26 := (Sx.Ask z5 ∧ Sx.Ask ((0 : Int) = (↑z10 : Int))); let z16 := ((True ∧ Sx.Ask z5 ∧ Sx.Ask (g.dx = g.dx)) ∧ Sx.Ask z5 ∧ Sx.Ask (g.dy = g.dy)); let z12 := (Sx.Ask z5 ∧ Sx.Ask (z29 = z14)); let z11 := (Sx.Ask z5 ∧ Sx.Ask (z28 = z15));let z4 := ((((True ∧ Sx.Ask z5 ∧ Sx.Ask (z15 = (↑z15.toNat : Int))) ∧ Sx.Ask z5 ∧ Sx.Ask (z14 = (↑z14.toNat : Int))) ∧ Sx.Ask (g.c.P.n = g.c.P.n) ∧ ∀ (i : Nat), i < g.c.P.n → ((((((((True ∧ Sx.Ask (g.c.P.m i = g.c.P.m i) ∧ ∀ (i_1 : Nat), let z19 := (g.c.P.p i i_1); i_1 < g.c.P.m i → ((True ∧ Sx.Ask z5 ∧ Sx.Ask (z19.y = z19.y)) ∧ Sx.Ask z5 ∧ Sx.Ask (z19.x0 = z19.x0)) ∧ Sx.Ask z5 ∧ Sx.Ask (z19.x1 = z19.x1)) ∧ Sx.Ask z9 ∧ Sx.Ask (g.c.P.ink i (0 : Nat) = g.c.P.ink i (0 : Nat))) ∧ Sx.Ask z9 ∧ Sx.Ask (g.c.P.ink i (1 : Nat) = g.c.P.ink i (1 : Nat))) ∧ Sx.Ask z9 ∧ Sx.Ask (g.c.P.ink i (2 : Nat) = g.c.P.ink i (2 : Nat))) ∧ Sx.Ask z9 ∧ Sx.Ask (g.c.P.ink i (3 : Nat) = g.c.P.ink i (3 : Nat))) ∧ Sx.Ask z9 ∧ Sx.Ask (g.c.P.ink i (4 : Nat) = g.c.P.ink i (4 : Nat))) ∧ Sx.Ask z9 ∧ Sx.Ask (g.c.P.ink i (5 : Nat) = g.c.P.ink i (5 : Nat))) ∧ Sx.Ask z9 ∧ Sx.Ask (g.c.P.ink i (6 : Nat) = g.c.P.ink i (6 : Nat))) ∧ Sx.Ask z9 ∧ Sx.Ask (g.c.P.ink i (7 : Nat) = g.c.P.ink i (7 : Nat))) ∧ Sx.Ask z5 ∧ Sx.Ask ((↑z10 : Int) = (↑(↑z10 : Int).toNat : Int)));let z2 := (Sx.Ask (g.c.P.n = g.c.P.n) ∧ ∀ (i : Nat), i < g.c.P.n → ((((((((True ∧ Sx.Ask (g.c.P.m i = g.c.P.m i) ∧ ∀ (i_1 : Nat), let z20 := (g.c.P.p i i_1); i_1 < g.c.P.m i → ((True ∧ Sx.Ask z5 ∧ Sx.Ask (z20.y = z20.y)) ∧ Sx.Ask z5 ∧ Sx.Ask (z20.x0 = z20.x0)) ∧ Sx.Ask z5 ∧ Sx.Ask (z20.x1 = z20.x1)) ∧ Sx.Ask z9 ∧ Sx.Ask (g.c.P.ink i (0 : Nat) = g.c.P.ink i (0 : Nat))) ∧ Sx.Ask z9 ∧ Sx.Ask (g.c.P.ink i (1 : Nat) = g.c.P.ink i (1 : Nat))) ∧ Sx.Ask z9 ∧ Sx.Ask (g.c.P.ink i (2 : Nat) = g.c.P.ink i (2 : Nat))) ∧ Sx.Ask z9 ∧ Sx.Ask (g.c.P.ink i (3 : Nat) = g.c.P.ink i (3 : Nat))) ∧ Sx.Ask z9 ∧ Sx.Ask (g.c.P.ink i (4 : Nat) = g.c.P.ink i (4 : Nat))) ∧ Sx.Ask z9 ∧ Sx.Ask (g.c.P.ink i (5 : Nat) = g.c.P.ink i (5 : Nat))) ∧ Sx.Ask z9 ∧ Sx.Ask (g.c.P.ink i (6 : Nat) = g.c.P.ink i (6 : Nat))) ∧ Sx.Ask z9 ∧ Sx.Ask (g.c.P.ink i (7 : Nat) = g.c.P.ink i (7 : Nat)));let z1 := (Apt.ChG.mk z15.toNat z14.toNat g.c.P); let z21 := (paperL z1);let z0 := (Rgb.cbOut Bool.and (Rgm.CbG.mk (Rga.Rg.mk z6.length (Rga.rI z6)) (Rga.Rg.mk z7.length (Rga.rI z7)))); let z18 := (MvF.mk (PaG.mk z1 (↑z10 : Int).toNat) z0.length (Rga.rI z0) g.dx g.dy); let z3 := (mvL z18); let z8 := (Rgb.cbOut Bool.and (Rgm.CbG.mk (Rga.Rg.mk z21.length (Rga.rI z21)) (Rga.Rg.mk z3.length (Rga.rI z3))));True ∧ True ∧ True ∧ True ∧ True ∧ True ∧ True ∧ True ∧ ((z11 ∧ z12 ∧ z2 ∧ z26 ∧ z27 ∧ True) ∧ Sx.Ask (OnG.mk (Apt.ChG.mk z28.toNat z29.toNat g.c.P) z10 z17.toNat).Ok) ∧ True ∧ True ∧ True ∧ True ∧ True ∧ True ∧ True ∧ True ∧ True ∧ ((z16 ∧ True) ∧ Sx.Ask (((-64 : Int) ≤ g.dx ∧ g.dx ≤ (64 : Int)) ∧ (-64 : Int) ≤ g.dy ∧ g.dy ≤ (64 : Int))) ∧ True ∧ True ∧ True ∧ True ∧ Sx.Br (decide (z17 = (0 : Int))) (True ∧ True ∧ True ∧ (True ∧ Sx.Ask (g.out.length = (0 : Nat))) ∧ Sx.Ask z5 ∧ Sx.Ask ((0 : Int) = (0 : Int))) (True ∧ True ∧ True ∧ True ∧ ((z11 ∧ z12 ∧ z2 ∧ z26 ∧ (Sx.Ask z5 ∧ Sx.Ask ((255 : Int) = (255 : Int))) ∧ True) ∧ Sx.Ask (Som.IkG.mk z28.toNat z29.toNat g.c.P (Som.InG.mk z10 (255 : Int))).Ok) ∧ True ∧ True ∧ True ∧ True ∧ True ∧ True ∧ True ∧ True ∧ True ∧ ((z11 ∧ z12 ∧ z2 ∧ z27 ∧ (Sx.Ask z5 ∧ Sx.Ask ((1 : Int) = (1 : Int))) ∧ True) ∧ Sx.Ask (Som.IkG.mk z28.toNat z29.toNat g.c.P (Som.InG.mk z17.toNat (1 : Int))).Ok) ∧ True ∧ True ∧ True ∧ True ∧ True ∧ True ∧ True ∧ (((Sx.Ask (z6.length = z6.length) ∧ ∀ (i : Nat), let z22 := (Rga.rI z6 i); i < z6.length → ((True ∧ Sx.Ask z5 ∧ Sx.Ask (z22.y = z22.y)) ∧ Sx.Ask z5 ∧ Sx.Ask (z22.x0 = z22.x0)) ∧ Sx.Ask z5 ∧ Sx.Ask (z22.x1 = z22.x1)) ∧ (Sx.Ask (z7.length = z7.length) ∧ ∀ (i : Nat), let z23 := (Rga.rI z7 i); i < z7.length → ((True ∧ Sx.Ask z5 ∧ Sx.Ask (z23.y = z23.y)) ∧ Sx.Ask z5 ∧ Sx.Ask (z23.x0 = z23.x0)) ∧ Sx.Ask z5 ∧ Sx.Ask (z23.x1 = z23.x1)) ∧ True) ∧ Sx.Ask (Rga.vld (Rga.Rg.mk z6.length (Rga.rI z6)).L ∧ Rga.vld (Rga.Rg.mk z7.length (Rga.rI z7)).L)) ∧ True ∧ True ∧ True ∧ True ∧ True ∧ True ∧ ((z4 ∧ True) ∧ Sx.Ask z1.Ok) ∧ True ∧ True ∧ True ∧ ((z4 ∧ (Sx.Ask (z0.length = z0.length) ∧ ∀ (i : Nat), let z24 := (Rga.rI z0 i); i < z0.length → ((True ∧ Sx.Ask z5 ∧ Sx.Ask (z24.y = z24.y)) ∧ Sx.Ask z5 ∧ Sx.Ask (z24.x0 = z24.x0)) ∧ Sx.Ask z5 ∧ Sx.Ask (z24.x1 = z24.x1)) ∧ z16 ∧ True) ∧ Sx.Ask z18.Ok) ∧ (((Sx.Ask (z21.length = z21.length) ∧ ∀ (i : Nat), let z13 := (Rga.rI z21 i); i < z21.length → ((True ∧ Sx.Ask z5 ∧ Sx.Ask (z13.y = z13.y)) ∧ Sx.Ask z5 ∧ Sx.Ask (z13.x0 = z13.x0)) ∧ Sx.Ask z5 ∧ Sx.Ask (z13.x1 = z13.x1)) ∧ (Sx.Ask (z3.length = z3.length) ∧ ∀ (i : Nat), let z25 := (Rga.rI z3 i); i < z3.length → ((True ∧ Sx.Ask z5 ∧ Sx.Ask (z25.y = z25.y)) ∧ Sx.Ask z5 ∧ Sx.Ask (z25.x0 = z25.x0)) ∧ Sx.Ask z5 ∧ Sx.Ask (z25.x1 = z25.x1)) ∧ True) ∧ Sx.Ask (Rga.vld (Rga.Rg.mk z21.length (Rga.rI z21)).L ∧ Rga.vld (Rga.Rg.mk z3.length (Rga.rI z3)).L)) ∧ True ∧ True ∧ True ∧ True ∧ True ∧ True ∧ True ∧ True ∧ True ∧ (True ∧ Sx.Ask (z8.length = g.out.length) ∧ ∀ (i : Nat), i < g.out.length → ((True ∧ Sx.Ask z5 ∧ Sx.Ask ((Rga.rI z8 i).y = (Rga.rI g.out i).y)) ∧ Sx.Ask z5 ∧ Sx.Ask ((Rga.rI z8 i).x0 = (Rga.rI g.out i).x0)) ∧ Sx.Ask z5 ∧ Sx.Ask ((Rga.rI z8 i).x1 = (Rga.rI g.out i).x1)) ∧ Sx.Ask z5 ∧ Sx.Ask ((0 : Int) = (0 : Int)))) (by kernel_rfl) ?_
  simp only [ask_iff, br_iff, eq_self, true_and, and_true, implies_true, forall_const, decide_eq_true_eq, decide_eq_false_iff_not, ne_eq, Nat.mul_one, Nat.add_zero, Nat.zero_add, Int.toNat_natCast, Bool.or_false]
  have hgc : (⟨g.c.w, g.c.h, g.c.P⟩ : ChG).Ok := hg.c
  have hi := hg.ink
  have hv := hg.v
  have hsh := shift_ok (under_bx hg) hg.x hg.y
  have hmv := mv_eq ⟨⟨g.c.w, g.c.h, g.c.P⟩, Int.toNat 0⟩ g.under g.dx g.dy
  refine ⟨⟨rfl, hgc, by show 0 < 8; decide, hi.2⟩, ⟨hg.x, hg.y⟩, fun h => absurd h (by omega), fun _ => ⟨⟨rfl, hgc, by show 0 < 8; decide, by show 1 ≤ (255 : Int) ∧ (255 : Int) ≤ 255; decide, fun k hk => hv k hk 0⟩, ⟨hgc, hi.2, by show 1 ≤ (1 : Int) ∧ (1 : Int) ≤ 255; decide, fun k hk => hv k hk g.ink⟩, ⟨vldR (smR_vld _ _), vldR (smR_vld _ _)⟩, hgc, ⟨hgc, hsh⟩, ⟨vldR (paper_vld _), vldR (un_vld _ _ _)⟩, ?_⟩⟩
  refine sm_same ?_
  show un and (paperL g.c) (mvL ⟨⟨⟨g.c.w, g.c.h, g.c.P⟩, Int.toNat 0⟩, g.under.length, rI g.under, g.dx, g.dy⟩) = g.out
  rw [hmv]
  rfl
end Go.Proofs.Ytbkgncikjhibiaa.Pul
