/- Package stroke: disc, by the evaluation. -/
import Derived.Test.YtfjbjbmbdadmhaaSto
import Derived.Test.YtfjbjbmbdadmhaaDsh
import Derived.Test.YtfjbjbmbdadmhaaRgg
set_option linter.unusedSimpArgs false
set_option linter.unusedVariables false
namespace Go.Proofs.Ytfjbjbmbdadmhaa.Ste
open Go.RowKit Sx Num Aff Con Rga Fla Flf Sta Stb Stc Sto
set_option maxRecDepth 100000
/-! disc. -/
def dH (w : Int) : Int := w.tdiv 2 + 1
def dY0 (c : Pt) (w : Int) : Int := if (-8192 : Int) > c.y - dH w then -8192 else c.y - dH w
def dY1 (c : Pt) (w : Int) : Int := if (8191 : Int) < c.y + dH w then 8191 else c.y + dH w
def dRest (c : Pt) (w y : Int) : Int := w * w - (2 * y + 1 - 2 * c.y) * (2 * y + 1 - 2 * c.y)
def dK (c : Pt) (w y : Int) : Int := ((isq (dRest c w y).toNat : Int) + 1).tdiv 2
def dX0 (c : Pt) (w y : Int) : Int := if (-8192 : Int) > c.x - dK c w y then -8192 else c.x - dK c w y
def dX1 (c : Pt) (w y : Int) : Int := if (8192 : Int) < c.x + dK c w y then 8192 else c.x + dK c w y
def dRow (c : Pt) (w y : Int) : List Rn := if dRest c w y < 1 then [] else if dX0 c w y < dX1 c w y then [⟨y, dX0 c w y, dX1 c w y⟩] else []
def dsk (c : Pt) (w : Int) : Nat → List Rn
  | 0 => []
  | i + 1 => dsk c w i ++ dRow c w (dY0 c w + i)
def dN (c : Pt) (w : Int) : Nat := (dY1 c w + 1 - dY0 c w).toNat
theorem rI_add (L M : List Rn) (i : Nat) : rI (L ++ M) i = if i < L.length then rI L i else rI M (i - L.length) := by
  unfold rI
  rw [List.getD_eq_getElem?_getD, List.getElem?_append]
  split
  · rw [List.getD_eq_getElem?_getD]
  · rw [List.getD_eq_getElem?_getD]
theorem rApp (L : List Rn) (r : Rn) : ∀ i, i < (L ++ [r]).length → ((bif decide (i < L.length) then (rI L i).y else r.y) = (rI (L ++ [r]) i).y ∧ (bif decide (i < L.length) then (rI L i).x0 else r.x0) = (rI (L ++ [r]) i).x0) ∧ (bif decide (i < L.length) then (rI L i).x1 else r.x1) = (rI (L ++ [r]) i).x1 := fun i hi => by
  rw [List.length_append] at hi
  have hi : i < L.length + 1 := hi
  rw [rI_app L r i hi]
  by_cases h : i < L.length
  · rw [decide_eq_true h, if_pos h]; exact ⟨⟨rfl, rfl⟩, rfl⟩
  · rw [decide_eq_false h, if_neg h]; exact ⟨⟨rfl, rfl⟩, rfl⟩
theorem rSame {L M : List Rn} (h : L = M) : L.length = M.length ∧ ∀ i, i < M.length → ((rI L i).y = (rI M i).y ∧ (rI L i).x0 = (rI M i).x0) ∧ (rI L i).x1 = (rI M i).x1 := by
  subst h
  exact ⟨rfl, fun i _ => ⟨⟨rfl, rfl⟩, rfl⟩⟩
theorem dsk_len (c : Pt) (w : Int) : ∀ i, (dsk c w i).length ≤ i
  | 0 => Nat.le_refl _
  | i + 1 => by
    show (dsk c w i ++ dRow c w _).length ≤ i + 1
    rw [List.length_append]
    have := dsk_len c w i
    have h : (dRow c w (dY0 c w + i)).length ≤ 1 := by
      unfold dRow
      split
      · exact Nat.zero_le _
      · split
        · exact Nat.le_refl _
        · exact Nat.zero_le _
    omega
structure DcG where
  n : Nat
  f : Nat → Rn
  c : Pt
  w : Int
def DcG.L (g : DcG) (i : Nat) : List Rn := Rg.L ⟨g.n, g.f⟩ ++ dsk g.c g.w i
def DcG.ok (g : DcG) : Prop := g.n ≤ 4294967296 ∧ small 32767 g.c ∧ 1 ≤ g.w ∧ g.w ≤ 1024
def rRow (v : Nat) (L : List Rn) : SO := .row v L.length 3 (fun i => lst (rnL (rI L i))) 48
def dcI (g : DcG) : Inv := ⟨Nat, fun i => i ≤ dN g.c g.w, fun i => ⟨[(0, .osl 0 1), (2, .int .i64 g.w), (4, .own 1 0), (7, .int .i64 (dH g.w)), (8, .int .i64 (dY0 g.c g.w + i))], [rRow 1 (g.L i), .cells 2 (lst (ptL g.c)) 34]⟩, fun i => dN g.c g.w - i⟩
def spDisc : FSpec := mkSpecM 57 [.arg 0] (γ := DcG) (fun | [_, .agg _ c, .int _ w], [.row _ n _ g _] => some ⟨n, fun i => rnD (g i), ptD c, w⟩ | _, _ => none) (fun g => [.osl 0 0, ptS g.c, .int .i64 g.w])
  (fun g => [.row 0 g.n 3 (fun i => lst (rnL (g.f i))) 48]) DcG.ok (fun _ => .osl 0 1) (fun g => [rRow 1 (g.L (dN g.c g.w))])
theorem ok_disc : SpecOK Try.prog spDisc := by
  refine spec_soundM (specs := [Dsh.spSqrt]) (all_ok (⟨Dsh.ok_sqrt, trivial⟩)) (eqs := []) (fun _ _ h => (List.not_mem_nil h).elim) Aff.mixed Try.func57 rfl (by kernel_rfl) (fun _ _ => by kernel_rfl) (fun g => (⟨[(3, .inv (dcI g))], []⟩ : Ann)) true (fun g => Nat.le_of_ble_eq_true (by kernel_rfl)) ?_
  rintro ⟨n, f, c, w⟩ hg
  refine vc_of (B := let z17 := ((0 : Nat) = (0 : Nat));let z14 := (-8192 : Int);let z10 := (1 : Int);let z7 := (2 : Int); let z16 := (w.tdiv z7 + z10);let z6 := (9223372036854775807 : Int);let z5 := (-9223372036854775808 : Int);let z4 := (DcG.mk n f c w); let z15 := (z4.L (dN c w));let z3 := (IntKind.i64 = IntKind.i64); let z13 := (Sx.Ask z3 ∧ Sx.Ask (w = w)); let z8 := ((True ∧ Sx.Ask z3 ∧ Sx.Ask (c.x = c.x)) ∧ Sx.Ask z3 ∧ Sx.Ask (c.y = c.y));True ∧ True ∧ True ∧ Sx.Ask (z7 ≠ (0 : Int) ∧ z5 ≤ w.tdiv z7 ∧ w.tdiv z7 ≤ z6) ∧ Sx.Ask (z5 ≤ w.tdiv z7 + z10 ∧ w.tdiv z7 + z10 ≤ z6) ∧ True ∧ True ∧ True ∧ True ∧ Sx.Ask (z5 ≤ c.y - z16 ∧ c.y - z16 ≤ z6) ∧ True ∧ True ∧ (∃ (g : Nat), Sx.Ask ((dcI z4).pre g) ∧ True ∧ (True ∧ z13 ∧ Sx.Ask z17 ∧ (Sx.Ask z3 ∧ Sx.Ask (w.tdiv z7 + z10 = dH w)) ∧ (Sx.Ask z3 ∧ Sx.Ask ((if z14 > c.y - z16 then z14 else c.y - z16) = dY0 c w + (↑g : Int))) ∧ True) ∧ (Sx.Ask (n = (z4.L g).length) ∧ ∀ (i : Nat), i < (z4.L g).length → ((True ∧ Sx.Ask z3 ∧ Sx.Ask ((f i).y = (Rga.rI (z4.L g) i).y)) ∧ Sx.Ask z3 ∧ Sx.Ask ((f i).x0 = (Rga.rI (z4.L g) i).x0)) ∧ Sx.Ask z3 ∧ Sx.Ask ((f i).x1 = (Rga.rI (z4.L g) i).x1)) ∧ z8 ∧ True) ∧ ∀ (g : Nat), let z18 := (↑g : Int); let z12 := (z5 ≤ dY0 c w + z18 + z10 ∧ dY0 c w + z18 + z10 ≤ z6); let z9 := (dY0 c w + z18); let z1 := (True ∧ Sx.Ask z12 ∧ True ∧ ∃ (g' : Nat), Sx.Ask ((dcI z4).pre g') ∧ True ∧ ((True ∧ z13 ∧ Sx.Ask z17 ∧ (Sx.Ask z3 ∧ Sx.Ask (dH w = dH w)) ∧ (Sx.Ask z3 ∧ Sx.Ask (dY0 c w + z18 + z10 = dY0 c w + (↑g' : Int))) ∧ True) ∧ (Sx.Ask ((z4.L g).length = (z4.L g').length) ∧ ∀ (i : Nat), let z20 := (Rga.rI (z4.L g') i); i < (z4.L g').length → ((True ∧ Sx.Ask z3 ∧ Sx.Ask ((Rga.rI (z4.L g) i).y = z20.y)) ∧ Sx.Ask z3 ∧ Sx.Ask ((Rga.rI (z4.L g) i).x0 = z20.x0)) ∧ Sx.Ask z3 ∧ Sx.Ask ((Rga.rI (z4.L g) i).x1 = z20.x1)) ∧ z8 ∧ True) ∧ Sx.Ask ((dcI z4).meas g' < (dcI z4).meas g)); let z0 := (z7 * z9 + z10 - z7 * c.y); let z11 := (↑(isq (w * w - z0 * z0).toNat) : Int); let z2 := (z11 + z10); (dcI z4).pre g → True ∧ True ∧ True ∧ True ∧ Sx.Ask (z5 ≤ c.y + dH w ∧ c.y + dH w ≤ z6) ∧ True ∧ True ∧ Sx.Br (decide (dY0 c w + z18 ≤ if (8191 : Int) < c.y + dH w then (8191 : Int) else c.y + dH w)) (True ∧ Sx.Ask (z5 ≤ z7 * z9 ∧ z7 * z9 ≤ z6) ∧ Sx.Ask (z5 ≤ z7 * z9 + z10 ∧ z7 * z9 + z10 ≤ z6) ∧ True ∧ True ∧ Sx.Ask (z5 ≤ z7 * c.y ∧ z7 * c.y ≤ z6) ∧ Sx.Ask (z5 ≤ z7 * z9 + z10 - z7 * c.y ∧ z7 * z9 + z10 - z7 * c.y ≤ z6) ∧ True ∧ True ∧ True ∧ Sx.Ask (z5 ≤ w * w ∧ w * w ≤ z6) ∧ True ∧ True ∧ Sx.Ask (z5 ≤ z0 * z0 ∧ z0 * z0 ≤ z6) ∧ Sx.Ask (z5 ≤ w * w - z0 * z0 ∧ w * w - z0 * z0 ≤ z6) ∧ True ∧ True ∧ True ∧ Sx.Br (decide (w * w - z0 * z0 < z10)) z1 (True ∧ (((Sx.Ask z3 ∧ Sx.Ask (w * w - z0 * z0 = w * w - z0 * z0)) ∧ True) ∧ Sx.Ask ((0 : Int) ≤ w * w - z0 * z0 ∧ w * w - z0 * z0 ≤ (4611686018427387904 : Int))) ∧ Sx.Ask (z5 ≤ z11 + z10 ∧ z11 + z10 ≤ z6) ∧ Sx.Ask (z7 ≠ (0 : Int) ∧ z5 ≤ z2.tdiv z7 ∧ z2.tdiv z7 ≤ z6) ∧ True ∧ True ∧ True ∧ True ∧ Sx.Ask (z5 ≤ c.x - z2.tdiv z7 ∧ c.x - z2.tdiv z7 ≤ z6) ∧ True ∧ True ∧ True ∧ True ∧ Sx.Ask (z5 ≤ c.x + z2.tdiv z7 ∧ c.x + z2.tdiv z7 ≤ z6) ∧ True ∧ True ∧ True ∧ True ∧ True ∧ True ∧ Sx.Br (decide ((if z14 > c.x - z2.tdiv z7 then z14 else c.x - z2.tdiv z7) < if (8192 : Int) < c.x + z2.tdiv z7 then (8192 : Int) else c.x + z2.tdiv z7)) (True ∧ True ∧ True ∧ True ∧ True ∧ True ∧ Sx.Ask ((z4.L g).length + (1 : Nat) ≤ (9223372036854775807 : Nat) ∧ ((z4.L g).length + (1 : Nat)) * (24 : Nat) ≤ (140737488355328 : Nat)) ∧ True ∧ True ∧ Sx.Ask z12 ∧ True ∧ ∃ (g' : Nat), Sx.Ask ((dcI z4).pre g') ∧ True ∧ ((True ∧ z13 ∧ Sx.Ask z17 ∧ (Sx.Ask z3 ∧ Sx.Ask (dH w = dH w)) ∧ (Sx.Ask z3 ∧ Sx.Ask (dY0 c w + z18 + z10 = dY0 c w + (↑g' : Int))) ∧ True) ∧ (Sx.Ask ((z4.L g).length + (1 : Nat) = (z4.L g').length) ∧ ∀ (i : Nat), let z21 := (Rga.rI (z4.L g') i); let z19 := (i < (z4.L g).length); i < (z4.L g').length → ((True ∧ Sx.Ask z3 ∧ Sx.Ask ((bif decide z19 then (Rga.rI (z4.L g) i).y else dY0 c w + z18) = z21.y)) ∧ Sx.Ask z3 ∧ Sx.Ask ((bif decide z19 then (Rga.rI (z4.L g) i).x0 else if z14 > c.x - z2.tdiv z7 then z14 else c.x - z2.tdiv z7) = z21.x0)) ∧ Sx.Ask z3 ∧ Sx.Ask ((bif decide z19 then (Rga.rI (z4.L g) i).x1 else if (8192 : Int) < c.x + z2.tdiv z7 then (8192 : Int) else c.x + z2.tdiv z7) = z21.x1)) ∧ z8 ∧ True) ∧ Sx.Ask ((dcI z4).meas g' < (dcI z4).meas g)) z1)) (True ∧ True ∧ True ∧ True ∧ (True ∧ True) ∧ (Sx.Ask ((z4.L g).length = z15.length) ∧ ∀ (i : Nat), i < z15.length → ((True ∧ Sx.Ask z3 ∧ Sx.Ask ((Rga.rI (z4.L g) i).y = (Rga.rI z15 i).y)) ∧ Sx.Ask z3 ∧ Sx.Ask ((Rga.rI (z4.L g) i).x0 = (Rga.rI z15 i).x0)) ∧ Sx.Ask z3 ∧ Sx.Ask ((Rga.rI (z4.L g) i).x1 = (Rga.rI z15 i).x1)) ∧ True)) (by kernel_rfl) ?_
  simp only [ask_iff, br_iff, eq_self, true_and, and_true, implies_true, forall_const, decide_eq_true_eq, decide_eq_false_iff_not, ne_eq, Nat.mul_one, Nat.add_zero, Nat.zero_add, Int.toNat_natCast, and_self, false_and, and_false]
  obtain ⟨hn, ⟨⟨c1, c2⟩, c3, c4⟩, w0, w1⟩ : n ≤ 4294967296 ∧ small 32767 c ∧ 1 ≤ w ∧ w ≤ 1024 := hg
  have eh : w.tdiv 2 = w / 2 := Int.tdiv_eq_ediv_of_nonneg (by omega)
  have hH : dH w = w / 2 + 1 := by unfold dH; omega
  have hL0 : DcG.L ⟨n, f, c, w⟩ 0 = Rg.L ⟨n, f⟩ := List.append_nil _
  have hY : -8192 ≤ dY0 c w ∧ c.y - dH w ≤ dY0 c w ∧ dY0 c w ≤ 32767 := by unfold dY0; split <;> omega
  have hY1 : dY1 c w ≤ 8191 ∧ dY1 c w ≤ c.y + dH w := by unfold dY1; split <;> omega
  have hw2 := Fla.mul_in (a := w) (x := w) (A := 1024) (X := 1024) ⟨by omega, by omega⟩ ⟨by omega, by omega⟩
  have hLn : ∀ g, g ≤ dN c w → (DcG.L ⟨n, f, c, w⟩ g).length ≤ n + 16384 := fun g hg => by
    have := dsk_len c w g
    have hg : g ≤ (dY1 c w + 1 - dY0 c w).toNat := hg
    have e : (DcG.L ⟨n, f, c, w⟩ g).length = (Rg.L ⟨n, f⟩).length + (dsk c w g).length := List.length_append
    rw [Rg.len] at e
    have e : (DcG.L ⟨n, f, c, w⟩ g).length = n + (dsk c w g).length := e
    omega
  refine ⟨by omega, by omega, by omega, ⟨0, Nat.zero_le _, ⟨rfl, (Int.add_zero _).symm⟩, ?_, fun i hi => ?_⟩, fun g hg => ⟨by omega, fun hle => ?_, fun hgt => ?_⟩⟩
  · rw [hL0, Rg.len]
  · rw [hL0] at hi ⊢
    rw [Rg.len] at hi
    rw [Rg.rI hi]
    exact ⟨⟨rfl, rfl⟩, rfl⟩
  · have hg : g ≤ (dY1 c w + 1 - dY0 c w).toNat := hg
    have hle : dY0 c w + g ≤ dY1 c w := hle
    have hd := Fla.mul_in (a := 2 * (dY0 c w + g) + 1 - 2 * c.y) (x := 2 * (dY0 c w + g) + 1 - 2 * c.y) (A := 1030) (X := 1030) ⟨by omega, by omega⟩ ⟨by omega, by omega⟩
    have hd0 := sqn (2 * (dY0 c w + g) + 1 - 2 * c.y)
    have hpre : (dcI ⟨n, f, c, w⟩).pre (g + 1) := by show g + 1 ≤ (dY1 c w + 1 - dY0 c w).toNat; omega
    have hms : (dcI ⟨n, f, c, w⟩).meas (g + 1) < (dcI ⟨n, f, c, w⟩).meas g := by show (dY1 c w + 1 - dY0 c w).toNat - (g + 1) < (dY1 c w + 1 - dY0 c w).toNat - g; omega
    have hlen := hLn g hg
    have hM : DcG.L ⟨n, f, c, w⟩ (g + 1) = DcG.L ⟨n, f, c, w⟩ g ++ dRow c w (dY0 c w + g) := (List.append_assoc _ _ _).symm
    refine ⟨by omega, by omega, by omega, by omega, by omega, by omega, by omega, fun hr => ?_, fun hr => ?_⟩
    · have e : dRow c w (dY0 c w + g) = [] := if_pos hr
      rw [e, List.append_nil] at hM
      exact ⟨by omega, g + 1, hpre, ⟨by omega, rSame hM.symm⟩, hms⟩
    · have hq := Dsh.isq_le (w * w - (2 * (dY0 c w + g) + 1 - 2 * c.y) * (2 * (dY0 c w + g) + 1 - 2 * c.y)).toNat
      have ek : (((isq (w * w - (2 * (dY0 c w + g) + 1 - 2 * c.y) * (2 * (dY0 c w + g) + 1 - 2 * c.y)).toNat : Nat) : Int) + 1).tdiv 2 = (((isq (w * w - (2 * (dY0 c w + g) + 1 - 2 * c.y) * (2 * (dY0 c w + g) + 1 - 2 * c.y)).toNat : Nat) : Int) + 1) / 2 := Int.tdiv_eq_ediv_of_nonneg (by omega)
      refine ⟨by omega, by omega, by omega, by omega, by omega, fun hx => ?_, fun hx => ?_⟩
      · have e : dRow c w (dY0 c w + g) = [⟨dY0 c w + g, dX0 c w (dY0 c w + g), dX1 c w (dY0 c w + g)⟩] := (if_neg hr).trans (if_pos hx)
        rw [e] at hM
        refine ⟨by omega, by omega, g + 1, hpre, ⟨by omega, by rw [hM]; simp, ?_⟩, hms⟩
        rw [hM]
        exact rApp _ _
      · have e : dRow c w (dY0 c w + g) = [] := (if_neg hr).trans (if_neg hx)
        rw [e, List.append_nil] at hM
        exact ⟨by omega, g + 1, hpre, ⟨by omega, rSame hM.symm⟩, hms⟩
  · have hg : g ≤ (dY1 c w + 1 - dY0 c w).toNat := hg
    have hgt : ¬ dY0 c w + g ≤ dY1 c w := hgt
    rw [show g = dN c w by unfold dN; omega]
    exact rSame rfl
/-! Stroke. -/
noncomputable def outX (s : Sty) (l : Li) : Olr := Classical.choose (⟨_, rfl⟩ : ∃ o, o = outO s l)
theorem outX_eq (s : Sty) (l : Li) : outX s l = outO s l := Classical.choose_spec (⟨_, rfl⟩ : ∃ o, o = outO s l)
noncomputable def spOutX : FSpec := mkSpec 55 (γ := OuG) (fun | [.agg _ l, .agg _ g] => some ⟨liD l, styD g⟩ | _ => none) (fun g => [liS g.l, styS g.s]) OuG.ok (fun g => .tup 2 (lst [olS (outX g.s g.l), .int .i64 0]))
theorem ok_outX : SpecOK Try.prog spOutX := by
  have e : spOutX = spOutl := by
    unfold spOutX spOutl
    rw [show (fun g : OuG => SV.tup 2 (lst [olS (outX g.s g.l), .int .i64 0])) = fun g => .tup 2 (lst [olS (outO g.s g.l), .int .i64 0]) from funext fun g => by rw [outX_eq]]
    all_goals rfl
  rw [e]
  exact ok_outl
def winL (o : Olr) (i : Nat) : Lns := ⟨(Int.ofNat (i + 1) - Int.ofNat i).toNat, fun k => ⟨o.m ((Int.ofNat i).toNat + k), o.p ((Int.ofNat i).toNat + k), true⟩⟩
theorem winL_eq (o : Olr) (i : Nat) : winL o i = ⟨1, fun k => o.li (i + k)⟩ := by
  unfold winL
  have e : (Int.ofNat (i + 1) - Int.ofNat i).toNat = 1 := by simp only [Int.ofNat_eq_natCast]; omega
  rw [e]
  rfl
noncomputable def fR (o : Olr) : Nat → List Rn
  | 0 => []
  | i + 1 => fR o i ++ fillL ins1 (winL o i)
def dR (o : Olr) (w : Int) : Nat → List Rn
  | 0 => []
  | i + 1 => dR o w i ++ dsk (o.d i) w (dN (o.d i) w)
noncomputable def lineR (s : Sty) (l : Li) : List Rn := fR (outX s l) (outX s l).n ++ dR (outX s l) s.w (outX s l).k
noncomputable def sR (s : Sty) (g : Lns) : Nat → List Rn
  | 0 => []
  | i + 1 => sR s g i ++ lineR s (g.f i)
structure StrOK (h : StrG) : Prop where
  ok : h.ok
  out : ∀ i, i < h.g.n → OuG.ok ⟨h.g.f i, h.s⟩
  k : ∀ i, i < h.g.n → (outX h.s (h.g.f i)).n ≤ 1024 ∧ (outX h.s (h.g.f i)).k ≤ 1048576
  fin : ∀ i, i < h.g.n → ∀ t, t < (outX h.s (h.g.f i)).n → Li.fin ((outX h.s (h.g.f i)).li t)
  disc : ∀ i, i < h.g.n → ∀ t, t < (outX h.s (h.g.f i)).k → small 32767 ((outX h.s (h.g.f i)).d t)
  len : (sR h.s h.g h.g.n).length ≤ 100000000
  run : ∀ r ∈ sR h.s h.g h.g.n, okR r
def styB (s : Sty) : SO := .cells 4 (lst (styL s)) 60
noncomputable def stO (h : StrG) : Inv := ⟨Nat, fun i => i ≤ h.g.n, fun i => ⟨[(3, .own 0 0), (7, .osl 1 0), (23, lnsS h.g), (24, .int .i64 h.g.n), (25, .int .i64 i)], [styB h.s, rRow 0 (sR h.s h.g i)]⟩, fun i => h.g.n - i⟩
noncomputable def stP (h : StrG) (i : Nat) : Inv := ⟨Nat, fun k => k ≤ (outX h.s (h.g.f i)).n, fun k => ⟨[(3, .own 0 0), (7, .osl 1 0), (10, olS (outX h.s (h.g.f i))), (23, lnsS h.g), (24, .int .i64 h.g.n), (25, .int .i64 i), (42, .int .i64 (outX h.s (h.g.f i)).n), (43, .int .i64 k)],
  [styB h.s, rRow 0 (sR h.s h.g i ++ fR (outX h.s (h.g.f i)) k)]⟩, fun k => (outX h.s (h.g.f i)).n - k⟩
noncomputable def stD (h : StrG) (i : Nat) : Inv := ⟨Nat, fun k => k ≤ (outX h.s (h.g.f i)).k, fun k => ⟨[(3, .own 0 0), (7, .osl 1 0), (23, lnsS h.g), (24, .int .i64 h.g.n), (25, .int .i64 i), (65, discsS (outX h.s (h.g.f i))), (66, .int .i64 (outX h.s (h.g.f i)).k), (67, .int .i64 k)],
  [styB h.s, rRow 0 (sR h.s h.g i ++ (fR (outX h.s (h.g.f i)) (outX h.s (h.g.f i)).n ++ dR (outX h.s (h.g.f i)) h.s.w k))]⟩, fun k => (outX h.s (h.g.f i)).k - k⟩
noncomputable def outR (h : StrG) : List Rn := Rgg.joOut ⟨(sR h.s h.g h.g.n).length, rI (sR h.s h.g h.g.n)⟩
theorem rAdd (L M : List Rn) : ∀ i, i < (L ++ M).length → ((bif decide (i < L.length) then (rI L i).y else (rI M (i - L.length)).y) = (rI (L ++ M) i).y ∧ (bif decide (i < L.length) then (rI L i).x0 else (rI M (i - L.length)).x0) = (rI (L ++ M) i).x0) ∧ (bif decide (i < L.length) then (rI L i).x1 else (rI M (i - L.length)).x1) = (rI (L ++ M) i).x1 := fun i _ => by
  rw [rI_add L M i]
  by_cases h : i < L.length
  · rw [decide_eq_true h, if_pos h]; exact ⟨⟨rfl, rfl⟩, rfl⟩
  · rw [decide_eq_false h, if_neg h]; exact ⟨⟨rfl, rfl⟩, rfl⟩
theorem grow {F : Nat → List Rn} (h : ∀ i, ∃ M, F (i + 1) = F i ++ M) {i n : Nat} (hi : i ≤ n) : (F i).length ≤ (F n).length := by
  induction n with
  | zero => rw [show i = 0 by omega]; exact Nat.le_refl _
  | succ n ih =>
    by_cases e : i = n + 1
    · rw [e]; exact Nat.le_refl _
    · obtain ⟨M, hM⟩ := h n
      rw [hM, List.length_append]
      have := ih (by omega)
      omega
theorem rI_in {L : List Rn} {i : Nat} (h : i < L.length) : rI L i ∈ L := by
  unfold rI
  rw [List.getD_eq_getElem?_getD, List.getElem?_eq_getElem h]
  exact List.getElem_mem _
noncomputable def spStr : FSpec := mkSpec 35 (γ := StrG) (fun | [s, .agg _ g] => some ⟨⟨slLen s, lnsD s⟩, styD g⟩ | _ => none) (fun h => [lnsS h.g, styS h.s]) StrOK (fun h => .tup 2 (lst [runsS (outR h), .int .i64 0]))
theorem ok_str : SpecOK Try.prog spStr := by
  refine spec_sound (specs := [spCk, spOutX, spFill1, spDisc, Rgg.spJoin]) (all_ok (⟨ok_ck, ok_outX, ok_fill1, ok_disc, Rgg.ok_join, trivial⟩)) (eqs := []) (fun _ _ h => (List.not_mem_nil h).elim) Aff.mixed Try.func35 rfl (by kernel_rfl) (fun _ _ => by kernel_rfl) (fun g => (⟨[(6, .nest (stO g) (fun i => [(12, .inv (stP g i)), (18, .inv (stD g i))]))], [(5, [.own 7 48 3]), (23, [.tmp 7])]⟩ : Ann)) (fun g => Nat.le_of_ble_eq_true (by kernel_rfl)) ?_
  rintro ⟨g, s⟩ hg
  refine vc_of (B := let z36 := (1 : Int);let z33 := (0 : Int);let z32 := (9223372036854775807 : Int);let z28 := (-9223372036854775808 : Int);let z21 := ((0 : Nat) = (0 : Nat));let z11 := (Sto.StrG.mk g s);let z1 := (IntKind.i64 = IntKind.i64); let z9 := (Sx.Ask z1 ∧ Sx.Ask ((↑g.n : Int) = (↑g.n : Int))); let z4 := ((((True ∧ Sx.Ask z1 ∧ Sx.Ask (s.w = s.w)) ∧ Sx.Ask z1 ∧ Sx.Ask (s.cap = s.cap)) ∧ Sx.Ask z1 ∧ Sx.Ask (s.join = s.join)) ∧ Sx.Ask z1 ∧ Sx.Ask (s.limit = s.limit)); let z2 := (Sx.Ask (g.n = g.n) ∧ ∀ (i : Nat), i < g.n → (True ∧ Sx.Ask ((g.f i).n = (g.f i).n) ∧ ∀ (i_1 : Nat), let z42 := ((g.f i).f i_1); i_1 < (g.f i).n → (True ∧ Sx.Ask z1 ∧ Sx.Ask (z42.x = z42.x)) ∧ Sx.Ask z1 ∧ Sx.Ask (z42.y = z42.y)) ∧ Sx.Ask ((g.f i).c = (g.f i).c));True ∧ True ∧ True ∧ True ∧ True ∧ ((z2 ∧ z4 ∧ True) ∧ Sx.Ask z11.ok) ∧ True ∧ True ∧ True ∧ True ∧ True ∧ True ∧ True ∧ (∃ (g_1 : Nat), Sx.Ask ((stO z11).pre g_1) ∧ (Sx.Ask z21 ∧ True ∧ z2 ∧ z9 ∧ (Sx.Ask z1 ∧ Sx.Ask (z33 = (↑g_1 : Int))) ∧ True) ∧ z4 ∧ (Sx.Ask ((0 : Nat) = (sR s g g_1).length) ∧ ∀ (i : Nat), i < (sR s g g_1).length → ((True ∧ False) ∧ False) ∧ False) ∧ True) ∧ ∀ (g_1 : Nat), let z37 := (stP z11 g_1); let z26 := (↑g_1 : Int); let z19 := (sR s g g_1); let z15 := (Sx.Ask z1 ∧ Sx.Ask (z26 = z26)); let z10 := (Rga.Rg.mk z19.length (Rga.rI z19)); let z6 := (g.f z26.toNat); let z25 := (outX s z6); let z0 := (outX s (g.f g_1)); let z38 := (↑z0.n : Int); let z30 := (Sx.Ask z1 ∧ Sx.Ask ((↑z0.k : Int) = (↑z0.k : Int))); let z14 := (Sx.Ask (z0.k = z0.k) ∧ ∀ (i : Nat), i < z0.k → (True ∧ Sx.Ask z1 ∧ Sx.Ask ((z0.d i).x = (z0.d i).x)) ∧ Sx.Ask z1 ∧ Sx.Ask ((z0.d i).y = (z0.d i).y)); (stO z11).pre g_1 → True ∧ Sx.Br (decide (z26 < (↑g.n : Int))) (Sx.Ask (z33 ≤ z26 ∧ z26 < (↑g.n : Int)) ∧ True ∧ True ∧ True ∧ True ∧ True ∧ ((((True ∧ Sx.Ask (z6.n = z6.n) ∧ ∀ (i : Nat), i < z6.n → (True ∧ Sx.Ask z1 ∧ Sx.Ask ((z6.f i).x = (z6.f i).x)) ∧ Sx.Ask z1 ∧ Sx.Ask ((z6.f i).y = (z6.f i).y)) ∧ Sx.Ask (z6.c = z6.c)) ∧ z4 ∧ True) ∧ Sx.Ask (Sto.OuG.mk z6 s).ok) ∧ True ∧ True ∧ True ∧ True ∧ True ∧ True ∧ True ∧ True ∧ True ∧ True ∧ True ∧ True ∧ True ∧ (∃ (g_2 : Nat), let z23 := (sR s g g_1 ++ fR z0 g_2); Sx.Ask (z37.pre g_2) ∧ (Sx.Ask z21 ∧ True ∧ ((((((True ∧ Sx.Ask z1 ∧ Sx.Ask (z25.w = z0.w)) ∧ Sx.Ask z1 ∧ Sx.Ask (z25.cap = z0.cap)) ∧ Sx.Ask z1 ∧ Sx.Ask (z25.join = z0.join)) ∧ Sx.Ask z1 ∧ Sx.Ask (z25.limit = z0.limit)) ∧ Sx.Ask (z25.n = z0.n) ∧ ∀ (i : Nat), i < z0.n → (True ∧ Sx.Ask (z25.m i = z0.m i) ∧ ∀ (i_1 : Nat), i_1 < z0.m i → (True ∧ Sx.Ask z1 ∧ Sx.Ask ((z25.p i i_1).x = (z0.p i i_1).x)) ∧ Sx.Ask z1 ∧ Sx.Ask ((z25.p i i_1).y = (z0.p i i_1).y)) ∧ Sx.Ask (true = true)) ∧ Sx.Ask (z25.k = z0.k) ∧ ∀ (i : Nat), i < z0.k → (True ∧ Sx.Ask z1 ∧ Sx.Ask ((z25.d i).x = (z0.d i).x)) ∧ Sx.Ask z1 ∧ Sx.Ask ((z25.d i).y = (z0.d i).y)) ∧ z2 ∧ z9 ∧ z15 ∧ (Sx.Ask z1 ∧ Sx.Ask ((↑z25.n : Int) = z38)) ∧ (Sx.Ask z1 ∧ Sx.Ask (z33 = (↑g_2 : Int))) ∧ True) ∧ z4 ∧ (Sx.Ask (z19.length = z23.length) ∧ ∀ (i : Nat), i < z23.length → ((True ∧ Sx.Ask z1 ∧ Sx.Ask ((Rga.rI z19 i).y = (Rga.rI z23 i).y)) ∧ Sx.Ask z1 ∧ Sx.Ask ((Rga.rI z19 i).x0 = (Rga.rI z23 i).x0)) ∧ Sx.Ask z1 ∧ Sx.Ask ((Rga.rI z19 i).x1 = (Rga.rI z23 i).x1)) ∧ True) ∧ ∀ (g_2 : Nat), let z20 := (z28 ≤ (↑g_2 : Int) + z36 ∧ (↑g_2 : Int) + z36 ≤ z32); let z18 := (Int.ofNat (g_2 + (1 : Nat)) - Int.ofNat g_2); let z7 := (sR s g g_1 ++ fR z0 g_2); let z3 := (Fla.Lns.mk z18.toNat fun (i : Nat) => Fla.Li.mk (z0.m ((Int.ofNat g_2).toNat + i)) (z0.p ((Int.ofNat g_2).toNat + i)) true); let z22 := (Flf.fillL Flf.ins1 z3); z37.pre g_2 → True ∧ Sx.Br (decide ((↑g_2 : Int) < z38)) (True ∧ True ∧ True ∧ True ∧ True ∧ True ∧ True ∧ True ∧ Sx.Ask z20 ∧ Sx.Ask (z33 ≤ Int.ofNat g_2 ∧ Int.ofNat g_2 ≤ Int.ofNat (g_2 + (1 : Nat)) ∧ Int.ofNat (g_2 + (1 : Nat)) ≤ Int.ofNat z0.n ∧ Int.ofNat z0.n ≤ z38) ∧ (((Sx.Ask (z18.toNat = z18.toNat) ∧ ∀ (i : Nat), let z16 := ((Int.ofNat g_2).toNat + i); i < z18.toNat → (True ∧ Sx.Ask (z0.m z16 = z0.m z16) ∧ ∀ (i_1 : Nat), i_1 < z0.m z16 → (True ∧ Sx.Ask z1 ∧ Sx.Ask ((z0.p z16 i_1).x = (z0.p z16 i_1).x)) ∧ Sx.Ask z1 ∧ Sx.Ask ((z0.p z16 i_1).y = (z0.p z16 i_1).y)) ∧ Sx.Ask (true = true)) ∧ (Sx.Ask z1 ∧ Sx.Ask (z33 = z33)) ∧ True) ∧ Sx.Ask (z3.fin ∧ z3.E.length ≤ (1048576 : Nat))) ∧ True ∧ True ∧ True ∧ True ∧ True ∧ True ∧ True ∧ Sx.Ask (z7.length + z22.length ≤ (9223372036854775807 : Nat) ∧ (z7.length + z22.length) * (24 : Nat) ≤ (140737488355328 : Nat)) ∧ True ∧ Sx.Ask z20 ∧ True ∧ ∃ (g' : Nat), let z24 := (sR s g g_1 ++ fR z0 g'); Sx.Ask (z37.pre g') ∧ ((Sx.Ask z21 ∧ True ∧ ((((((True ∧ Sx.Ask z1 ∧ Sx.Ask (z0.w = z0.w)) ∧ Sx.Ask z1 ∧ Sx.Ask (z0.cap = z0.cap)) ∧ Sx.Ask z1 ∧ Sx.Ask (z0.join = z0.join)) ∧ Sx.Ask z1 ∧ Sx.Ask (z0.limit = z0.limit)) ∧ Sx.Ask (z0.n = z0.n) ∧ ∀ (i : Nat), i < z0.n → (True ∧ Sx.Ask (z0.m i = z0.m i) ∧ ∀ (i_1 : Nat), i_1 < z0.m i → (True ∧ Sx.Ask z1 ∧ Sx.Ask ((z0.p i i_1).x = (z0.p i i_1).x)) ∧ Sx.Ask z1 ∧ Sx.Ask ((z0.p i i_1).y = (z0.p i i_1).y)) ∧ Sx.Ask (true = true)) ∧ Sx.Ask (z0.k = z0.k) ∧ ∀ (i : Nat), i < z0.k → (True ∧ Sx.Ask z1 ∧ Sx.Ask ((z0.d i).x = (z0.d i).x)) ∧ Sx.Ask z1 ∧ Sx.Ask ((z0.d i).y = (z0.d i).y)) ∧ z2 ∧ z9 ∧ z15 ∧ (Sx.Ask z1 ∧ Sx.Ask (z38 = z38)) ∧ (Sx.Ask z1 ∧ Sx.Ask ((↑g_2 : Int) + z36 = (↑g' : Int))) ∧ True) ∧ z4 ∧ (Sx.Ask (z7.length + z22.length = z24.length) ∧ ∀ (i : Nat), let z29 := (Rga.rI z22 (i - z7.length)); i < z24.length → ((True ∧ Sx.Ask z1 ∧ Sx.Ask ((bif decide (i < z7.length) then (Rga.rI z7 i).y else z29.y) = (Rga.rI z24 i).y)) ∧ Sx.Ask z1 ∧ Sx.Ask ((bif decide (i < z7.length) then (Rga.rI z7 i).x0 else z29.x0) = (Rga.rI z24 i).x0)) ∧ Sx.Ask z1 ∧ Sx.Ask ((bif decide (i < z7.length) then (Rga.rI z7 i).x1 else z29.x1) = (Rga.rI z24 i).x1)) ∧ True) ∧ Sx.Ask (z37.meas g' < z37.meas g_2)) (True ∧ True ∧ True ∧ True ∧ True ∧ True ∧ (∃ (g_3 : Nat), let z12 := (sR s g g_1 ++ (fR z0 z0.n ++ dR z0 s.w g_3)); Sx.Ask (g_3 ≤ z0.k) ∧ (Sx.Ask z21 ∧ True ∧ z2 ∧ z9 ∧ z15 ∧ z14 ∧ z30 ∧ (Sx.Ask z1 ∧ Sx.Ask (z33 = (↑g_3 : Int))) ∧ True) ∧ z4 ∧ (Sx.Ask (z7.length = z12.length) ∧ ∀ (i : Nat), i < z12.length → ((True ∧ Sx.Ask z1 ∧ Sx.Ask ((Rga.rI z7 i).y = (Rga.rI z12 i).y)) ∧ Sx.Ask z1 ∧ Sx.Ask ((Rga.rI z7 i).x0 = (Rga.rI z12 i).x0)) ∧ Sx.Ask z1 ∧ Sx.Ask ((Rga.rI z7 i).x1 = (Rga.rI z12 i).x1)) ∧ True) ∧ ∀ (g_3 : Nat), let z31 := (↑g_3 : Int); let z17 := (z0.d z31.toNat); let z5 := (sR s g g_1 ++ (fR z0 z0.n ++ dR z0 s.w g_3)); let z40 := (DcG.mk z5.length (Rga.rI z5) z17 s.w); let z8 := (z40.L (dN z17 s.w)); g_3 ≤ z0.k → True ∧ Sx.Br (decide (z31 < (↑z0.k : Int))) (Sx.Ask (z33 ≤ z31 ∧ z31 < (↑z0.k : Int)) ∧ True ∧ True ∧ True ∧ True ∧ True ∧ True ∧ True ∧ ((True ∧ (True ∧ ((True ∧ Sx.Ask z1 ∧ Sx.Ask (z17.x = z17.x)) ∧ Sx.Ask z1 ∧ Sx.Ask (z17.y = z17.y)) ∧ (Sx.Ask z1 ∧ Sx.Ask (s.w = s.w)) ∧ True) ∧ (Sx.Ask (z5.length = z5.length) ∧ ∀ (i : Nat), let z34 := (Rga.rI z5 i); i < z5.length → ((True ∧ Sx.Ask z1 ∧ Sx.Ask (z34.y = z34.y)) ∧ Sx.Ask z1 ∧ Sx.Ask (z34.x0 = z34.x0)) ∧ Sx.Ask z1 ∧ Sx.Ask (z34.x1 = z34.x1)) ∧ True) ∧ Sx.Ask z40.ok) ∧ True ∧ Sx.Ask (z28 ≤ z31 + z36 ∧ z31 + z36 ≤ z32) ∧ True ∧ ∃ (g' : Nat), let z13 := (sR s g g_1 ++ (fR z0 z0.n ++ dR z0 s.w g')); Sx.Ask (g' ≤ z0.k) ∧ ((Sx.Ask z21 ∧ True ∧ z2 ∧ z9 ∧ z15 ∧ z14 ∧ z30 ∧ (Sx.Ask z1 ∧ Sx.Ask (z31 + z36 = (↑g' : Int))) ∧ True) ∧ z4 ∧ (Sx.Ask (z8.length = z13.length) ∧ ∀ (i : Nat), i < z13.length → ((True ∧ Sx.Ask z1 ∧ Sx.Ask ((Rga.rI z8 i).y = (Rga.rI z13 i).y)) ∧ Sx.Ask z1 ∧ Sx.Ask ((Rga.rI z8 i).x0 = (Rga.rI z13 i).x0)) ∧ Sx.Ask z1 ∧ Sx.Ask ((Rga.rI z8 i).x1 = (Rga.rI z13 i).x1)) ∧ True) ∧ Sx.Ask (z0.k - g' < z0.k - g_3)) (Sx.Ask (z28 ≤ z26 + z36 ∧ z26 + z36 ≤ z32) ∧ True ∧ ∃ (g' : Nat), Sx.Ask ((stO z11).pre g') ∧ ((Sx.Ask z21 ∧ True ∧ z2 ∧ z9 ∧ (Sx.Ask z1 ∧ Sx.Ask (z26 + z36 = (↑g' : Int))) ∧ True) ∧ z4 ∧ (Sx.Ask (z5.length = (sR s g g').length) ∧ ∀ (i : Nat), let z39 := (Rga.rI (sR s g g') i); i < (sR s g g').length → ((True ∧ Sx.Ask z1 ∧ Sx.Ask ((Rga.rI z5 i).y = z39.y)) ∧ Sx.Ask z1 ∧ Sx.Ask ((Rga.rI z5 i).x0 = z39.x0)) ∧ Sx.Ask z1 ∧ Sx.Ask ((Rga.rI z5 i).x1 = z39.x1)) ∧ True) ∧ Sx.Ask ((stO z11).meas g' < (stO z11).meas g_1)))) (True ∧ (((Sx.Ask (z19.length = z19.length) ∧ ∀ (i : Nat), let z27 := (Rga.rI z19 i); i < z19.length → ((True ∧ Sx.Ask z1 ∧ Sx.Ask (z27.y = z27.y)) ∧ Sx.Ask z1 ∧ Sx.Ask (z27.x0 = z27.x0)) ∧ Sx.Ask z1 ∧ Sx.Ask (z27.x1 = z27.x1)) ∧ True) ∧ Sx.Ask (Rgg.joOk z10)) ∧ True ∧ True ∧ True ∧ (True ∧ Sx.Ask ((Rgg.joOut z10).length = (outR z11).length) ∧ ∀ (i : Nat), let z41 := (Rga.rI (outR z11) i); let z35 := (Rga.rI (Rgg.joOut z10) i); i < (outR z11).length → ((True ∧ Sx.Ask z1 ∧ Sx.Ask (z35.y = z41.y)) ∧ Sx.Ask z1 ∧ Sx.Ask (z35.x0 = z41.x0)) ∧ Sx.Ask z1 ∧ Sx.Ask (z35.x1 = z41.x1)) ∧ Sx.Ask z1 ∧ Sx.Ask (z33 = z33))) (by kernel_rfl) ?_
  simp only [ask_iff, br_iff, eq_self, true_and, and_true, implies_true, forall_const, decide_eq_true_eq, decide_eq_false_iff_not, ne_eq, Nat.mul_one, Nat.add_zero, Nat.zero_add, Int.toNat_natCast, and_self, false_and, and_false]
  obtain ⟨hok, hout, hk, hfin, hdisc, hlen, hrun⟩ := hg
  simp only at hok hout hk hfin hdisc hlen hrun
  obtain ⟨hgf, ⟨⟨w0, w1⟩, -⟩, -⟩ : g.fin ∧ Sty.ok s := id hok
  have hgn : g.n ≤ 1024 := hgf.1
  have gS : ∀ i, i ≤ g.n → (sR s g i).length ≤ 100000000 := fun i hi => Nat.le_trans (grow (F := sR s g) (fun _ => ⟨_, rfl⟩) hi) hlen
  refine ⟨⟨hgf, hok.2⟩, ⟨0, Nat.zero_le _, rfl, rfl, fun i hi => absurd hi (Nat.not_lt_zero _)⟩, fun i hi => ⟨fun hlt => ⟨by omega, hout i (by omega), ⟨0, Nat.zero_le _, rfl, rSame (List.append_nil _).symm⟩, fun k hk2 => ⟨fun hkl => ?_, fun hkg => ⟨⟨0, Nat.zero_le _, rfl, ?_⟩, fun j hj => ⟨fun hjl => ?_, fun hjg => ?_⟩⟩⟩⟩, fun hge => ?_⟩⟩
  · have hi2 : i < g.n := by omega
    have hk2 : k < (outX s (g.f i)).n := by omega
    have hn := hk i hi2
    have wf : (winL (outX s (g.f i)) k).fin := by
      rw [winL_eq]
      refine ⟨show 1 ≤ 1024 by omega, fun t ht => ?_⟩
      have ht : t < 1 := ht
      exact hfin i hi2 _ (by omega)
    have we : (winL (outX s (g.f i)) k).E.length ≤ 1048576 := by
      have h := Lns.ed_len wf _ (Nat.le_refl _)
      have h1 : (winL (outX s (g.f i)) k).n = 1 := by rw [winL_eq]
      have h2 : (winL (outX s (g.f i)) k).E.length ≤ 1024 * (winL (outX s (g.f i)) k).n := h
      rw [h1] at h2
      omega
    have eF : sR s g i ++ fR (outX s (g.f i)) (k + 1) = (sR s g i ++ fR (outX s (g.f i)) k) ++ fillL ins1 (winL (outX s (g.f i)) k) := (List.append_assoc _ _ _).symm
    have hb : (sR s g i ++ fR (outX s (g.f i)) k).length + (fillL ins1 (winL (outX s (g.f i)) k)).length ≤ 100000000 := by
      rw [← List.length_append, ← eF]
      have h1 := gS (i + 1) hi2
      have h2 : (sR s g (i + 1)).length = (sR s g i ++ lineR s (g.f i)).length := rfl
      unfold lineR at h2
      have h3 := grow (F := fR (outX s (g.f i))) (fun _ => ⟨_, rfl⟩) (show k + 1 ≤ (outX s (g.f i)).n by omega)
      rw [List.length_append, List.length_append] at h2
      rw [List.length_append]
      omega
    refine ⟨by omega, by simp only [Int.ofNat_eq_natCast]; omega, ⟨wf, we⟩, ?_, by omega, k + 1, show k + 1 ≤ (outX s (g.f i)).n by omega, ⟨by omega, ?_, ?_⟩, show (outX s (g.f i)).n - (k + 1) < (outX s (g.f i)).n - k by omega⟩
    · show (sR s g i ++ fR (outX s (g.f i)) k).length + (fillL ins1 (winL (outX s (g.f i)) k)).length ≤ 9223372036854775807 ∧ ((sR s g i ++ fR (outX s (g.f i)) k).length + (fillL ins1 (winL (outX s (g.f i)) k)).length) * 24 ≤ 140737488355328
      omega
    · rw [eF]
      exact List.length_append.symm
    · rw [eF]
      exact rAdd _ _
  · have hk2 : k ≤ (outX s (g.f i)).n := hk2
    rw [show k = (outX s (g.f i)).n by omega]
    exact rSame (by rw [show dR (outX s (g.f i)) s.w 0 = [] from rfl, List.append_nil])
  · have hi2 : i < g.n := by omega
    have hn := hk i hi2
    have hb : (sR s g i ++ (fR (outX s (g.f i)) (outX s (g.f i)).n ++ dR (outX s (g.f i)) s.w j)).length ≤ 100000000 := by
      have h1 := gS (i + 1) hi2
      have h2 : (sR s g (i + 1)).length = (sR s g i ++ lineR s (g.f i)).length := rfl
      unfold lineR at h2
      have h3 := grow (F := dR (outX s (g.f i)) s.w) (fun _ => ⟨_, rfl⟩) (show j ≤ (outX s (g.f i)).k by omega)
      rw [List.length_append, List.length_append] at h2 ⊢
      omega
    refine ⟨by omega, ⟨Nat.le_trans hb (by omega), hdisc i hi2 j (by omega), w0, w1⟩, by omega, j + 1, by omega, ⟨by omega, rSame ?_⟩, by omega⟩
    show Rg.L ⟨_, rI _⟩ ++ _ = _
    rw [Rg.L_of]
    show _ = sR s g i ++ (fR (outX s (g.f i)) (outX s (g.f i)).n ++ (dR (outX s (g.f i)) s.w j ++ dsk _ _ _))
    simp only [List.append_assoc]
  · refine ⟨by omega, i + 1, show i + 1 ≤ g.n by omega, ⟨by omega, rSame ?_⟩, show g.n - (i + 1) < g.n - i by omega⟩
    rw [show j = (outX s (g.f i)).k by omega]
    rfl
  · have hi : i ≤ g.n := hi
    rw [show i = g.n by omega]
    exact ⟨⟨fun t ht => hrun _ (rI_in ht), hlen⟩, rSame rfl⟩
end Go.Proofs.Ytfjbjbmbdadmhaa.Ste
