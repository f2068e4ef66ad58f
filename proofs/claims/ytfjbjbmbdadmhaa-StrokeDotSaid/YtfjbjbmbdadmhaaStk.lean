/- Discs; the law StrokeDot: by the evaluation. -/
import Derived.Test.YtfjbjbmbdadmhaaStm
set_option linter.unusedSimpArgs false
set_option linter.unusedVariables false
namespace Go.Proofs.Ytfjbjbmbdadmhaa.Stk
open Go.RowKit Sx Num Aff Con Rga Rgl Rgn Rgc Rgd Fla Flg Flu Sta Stb Stc Sto Ste Stl Stm
set_option maxRecDepth 100000
/-! Rectangles that may be empty. -/
structure ReOK (h : ReG) : Prop where
  x0 : -8192 ≤ h.x0 ∧ h.x0 ≤ 8192
  y0 : -8192 ≤ h.y0 ∧ h.y0 ≤ 8192
  x1 : -8192 ≤ h.x1 ∧ h.x1 ≤ 8192
  y1 : -8192 ≤ h.y1 ∧ h.y1 ≤ 8192
  x : h.x0 ≤ h.x1
  y : h.y0 ≤ h.y1
  e : h.x0 = h.x1 → h.y0 = h.y1
def spRectD : FSpec := mkSpec 38 (γ := ReG) (fun | [.int _ x0, .int _ y0, .int _ x1, .int _ y1] => some ⟨x0, y0, x1, y1⟩ | _ => none) (fun h => [.int .i64 h.x0, .int .i64 h.y0, .int .i64 h.x1, .int .i64 h.y1]) ReOK (fun h => okP (runsS (Lf h.f h.n)))
theorem ok_rectD : SpecOK Try.prog spRectD := by
  refine spec_sound (specs := [spBorder, spAddR]) (all_ok (⟨ok_border, ok_addR, trivial⟩)) (eqs := []) (fun _ _ h => (List.not_mem_nil h).elim) Aff.mixed Try.func38 rfl (by kernel_rfl) (fun _ _ => by kernel_rfl) (fun g => (⟨[(7, .inv (reInv g))], [(6, [.ownC 0 0 48 3])]⟩ : Ann)) (fun g => Nat.le_of_ble_eq_true (by kernel_rfl)) ?_
  rintro g hg
  refine vc_of (B := let z10 := (Rgd.reInv g);let z9 := ((0 : Nat) = (0 : Nat));let z7 := ((3 : Int) = (0 : Int));let z5 := (Rgn.Lf g.f g.n);let z2 := (True ∧ Sx.Ask (z5.length = (0 : Nat)));let z0 := (IntKind.i64 = IntKind.i64); let z6 := (Sx.Ask z0 ∧ Sx.Ask (g.y1 = g.y1)); let z4 := (Sx.Ask z0 ∧ Sx.Ask (g.x1 = g.x1)); let z3 := (Sx.Ask z0 ∧ Sx.Ask (g.x0 = g.x0));True ∧ True ∧ True ∧ ((z3 ∧ True) ∧ Sx.Ask True) ∧ True ∧ True ∧ Sx.Br (!(decide ((-8192 : Int) ≤ g.x0) && decide (g.x0 ≤ (8192 : Int)))) (True ∧ True ∧ True ∧ True ∧ True ∧ True ∧ True ∧ True ∧ z2 ∧ Sx.Ask z0 ∧ Sx.Ask z7) (True ∧ (((Sx.Ask z0 ∧ Sx.Ask (g.y0 = g.y0)) ∧ True) ∧ Sx.Ask True) ∧ True ∧ True ∧ True ∧ Sx.Br (!(decide ((-8192 : Int) ≤ g.y0) && decide (g.y0 ≤ (8192 : Int)))) (True ∧ True ∧ True ∧ True ∧ True ∧ True ∧ z2 ∧ Sx.Ask z0 ∧ Sx.Ask z7) (True ∧ ((z4 ∧ True) ∧ Sx.Ask True) ∧ True ∧ True ∧ True ∧ Sx.Br (!(decide ((-8192 : Int) ≤ g.x1) && decide (g.x1 ≤ (8192 : Int)))) (True ∧ True ∧ True ∧ True ∧ z2 ∧ Sx.Ask z0 ∧ Sx.Ask z7) (True ∧ ((z6 ∧ True) ∧ Sx.Ask True) ∧ True ∧ True ∧ Sx.Br (!(decide ((-8192 : Int) ≤ g.y1) && decide (g.y1 ≤ (8192 : Int)))) (True ∧ True ∧ True ∧ z2 ∧ Sx.Ask z0 ∧ Sx.Ask z7) (True ∧ True ∧ True ∧ True ∧ Sx.Br (decide (g.x1 < g.x0)) (True ∧ True ∧ True ∧ True ∧ z2 ∧ Sx.Ask z0 ∧ Sx.Ask ((18 : Int) = (0 : Int))) (True ∧ True ∧ True ∧ True ∧ Sx.Br (decide (g.y1 < g.y0)) (True ∧ True ∧ True ∧ z2 ∧ Sx.Ask z0 ∧ Sx.Ask ((18 : Int) = (0 : Int))) (True ∧ True ∧ True ∧ (∃ (g_1 : Nat), Sx.Ask (z10.pre g_1) ∧ (z3 ∧ z4 ∧ z6 ∧ Sx.Ask z9 ∧ (Sx.Ask z0 ∧ Sx.Ask (g.y0 = g.y0 + (↑g_1 : Int))) ∧ True) ∧ (True ∧ True) ∧ (Sx.Ask ((0 : Nat) = g_1) ∧ ∀ (i : Nat), i < g_1 → ((True ∧ False) ∧ False) ∧ False) ∧ True) ∧ ∀ (g_1 : Nat), let z8 := (↑g_1 : Int); let z1 := (Rga.AdG.mk g_1 (fun (i : Nat) => Rga.Rn.mk (g.y0 + (↑i : Int)) g.x0 g.x1) (Rga.Rn.mk (g.y0 + z8) g.x0 g.x1)); z10.pre g_1 → True ∧ True ∧ True ∧ Sx.Br (decide (g.y0 + z8 < g.y1)) (True ∧ True ∧ True ∧ ((True ∧ (Sx.Ask z9 ∧ (Sx.Ask z0 ∧ Sx.Ask (g.y0 + z8 = g.y0 + z8)) ∧ z3 ∧ z4 ∧ True) ∧ (True ∧ True) ∧ (Sx.Ask (g_1 = g_1) ∧ ∀ (i : Nat), i < g_1 → ((True ∧ Sx.Ask z0 ∧ Sx.Ask (g.y0 + (↑i : Int) = g.y0 + (↑i : Int))) ∧ Sx.Ask z0 ∧ Sx.Ask (g.x0 = g.x0)) ∧ Sx.Ask z0 ∧ Sx.Ask (g.x1 = g.x1)) ∧ True) ∧ Sx.Ask (g_1 ≤ (4294967296 : Nat))) ∧ True ∧ Sx.Ask ((-9223372036854775808 : Int) ≤ g.y0 + z8 + (1 : Int) ∧ g.y0 + z8 + (1 : Int) ≤ (9223372036854775807 : Int)) ∧ True ∧ ∃ (g' : Nat), Sx.Ask (z10.pre g') ∧ ((z3 ∧ z4 ∧ z6 ∧ Sx.Ask z9 ∧ (Sx.Ask z0 ∧ Sx.Ask (g.y0 + z8 + (1 : Int) = g.y0 + (↑g' : Int))) ∧ True) ∧ (True ∧ True) ∧ (Sx.Ask (z1.L.length = g') ∧ ∀ (i : Nat), i < g' → ((True ∧ Sx.Ask z0 ∧ Sx.Ask ((Rga.rI z1.L i).y = g.y0 + (↑i : Int))) ∧ Sx.Ask z0 ∧ Sx.Ask ((Rga.rI z1.L i).x0 = g.x0)) ∧ Sx.Ask z0 ∧ Sx.Ask ((Rga.rI z1.L i).x1 = g.x1)) ∧ True) ∧ Sx.Ask (z10.meas g' < z10.meas g_1)) (True ∧ True ∧ True ∧ True ∧ True ∧ (True ∧ Sx.Ask (g_1 = z5.length) ∧ ∀ (i : Nat), i < z5.length → ((True ∧ Sx.Ask z0 ∧ Sx.Ask (g.y0 + (↑i : Int) = (Rga.rI z5 i).y)) ∧ Sx.Ask z0 ∧ Sx.Ask (g.x0 = (Rga.rI z5 i).x0)) ∧ Sx.Ask z0 ∧ Sx.Ask (g.x1 = (Rga.rI z5 i).x1)) ∧ Sx.Ask z0 ∧ Sx.Ask ((0 : Int) = (0 : Int)))))))))) (by kernel_rfl) ?_
  simp only [ask_iff, br_iff, eq_self, true_and, and_true, implies_true, forall_const, decide_eq_true_eq, decide_eq_false_iff_not, ne_eq, Nat.mul_one, Nat.add_zero, Nat.zero_add, Int.toNat_natCast, and_self, List.append_assoc, false_and, and_false]
  obtain ⟨⟨a1, a2⟩, ⟨b1, b2⟩, ⟨c1, c2⟩, ⟨d1, d2⟩, hx, hy, he⟩ := hg
  rw [decide_eq_true a1, decide_eq_true a2, decide_eq_true b1, decide_eq_true b2, decide_eq_true c1, decide_eq_true c2, decide_eq_true d1, decide_eq_true d2]
  refine ⟨fun h => absurd h (by decide), fun _ => ⟨fun h => absurd h (by decide), fun _ => ⟨fun h => absurd h (by decide), fun _ => ⟨fun h => absurd h (by decide), fun _ => ⟨fun h => by omega, fun _ => ⟨fun h => by omega, fun _ => ⟨⟨0, by show g.y0 + 0 ≤ g.y1; omega, by omega, rfl, fun k hk => absurd hk (Nat.not_lt_zero _)⟩, fun i hi => ⟨fun hlt => ?_, fun hge => ?_⟩⟩⟩⟩⟩⟩⟩⟩
  · have hi : g.y0 + i ≤ g.y1 := hi
    have hx' : g.x0 < g.x1 := by omega
    have e : Rga.AdG.L ⟨i, fun i => ⟨g.y0 + i, g.x0, g.x1⟩, ⟨g.y0 + i, g.x0, g.x1⟩⟩ = Lf g.f (i + 1) := by
      refine add_next (f := g.f) (n := i) hx' (fun h0 => .inl ?_)
      show g.y0 + ((i - 1 : Nat) : Int) < g.y0 + i
      omega
    refine ⟨by omega, by omega, i + 1, ?_, ⟨by omega, ?_, fun k hk => ?_⟩, ?_⟩
    · show g.y0 + ((i + 1 : Nat) : Int) ≤ g.y1
      omega
    · rw [e, Lf_len]
    · rw [e, Lf_get g.f hk]
      exact ⟨⟨rfl, rfl⟩, rfl⟩
    · show (g.y1 - g.y0).toNat - (i + 1) < (g.y1 - g.y0).toNat - i
      omega
  · have hi : g.y0 + i ≤ g.y1 := hi
    have e : i = g.n := by unfold ReG.n; omega
    subst e
    rw [Lf_len]
    refine ⟨rfl, fun k hk => ?_⟩
    rw [Lf_get g.f hk]
    exact ⟨⟨rfl, rfl⟩, rfl⟩
theorem mem_rect (h : ReG) (y x : Int) : mem (Lf h.f h.n) y x = true ↔ (h.y0 ≤ y ∧ y < h.y1) ∧ h.x0 ≤ x ∧ x < h.x1 := by
  rw [mem_iff]
  constructor
  · rintro ⟨r, hr, h1, h2, h3⟩
    obtain ⟨k, hk, rfl⟩ := List.mem_map.1 hr
    have hk : k < (h.y1 - h.y0).toNat := List.mem_range.1 hk
    have h1 : h.y0 + k = y := h1
    exact ⟨by omega, h2, h3⟩
  · rintro ⟨⟨h1, h2⟩, h3, h4⟩
    refine ⟨h.f (y - h.y0).toNat, List.mem_map.2 ⟨_, List.mem_range.2 (show (y - h.y0).toNat < (h.y1 - h.y0).toNat by omega), rfl⟩, ?_, h3, h4⟩
    show h.y0 + ((y - h.y0).toNat : Int) = y
    omega
theorem vld_rect {h : ReG} (ok : ReOK h) : vld (Lf h.f h.n) := by
  obtain ⟨⟨a1, a2⟩, ⟨b1, b2⟩, ⟨c1, c2⟩, ⟨d1, d2⟩, hx, hy, he⟩ := ok
  refine ⟨fun r hr => ?_, ?_⟩
  · obtain ⟨k, hk, rfl⟩ := List.mem_map.1 hr
    have hk : k < (h.y1 - h.y0).toNat := List.mem_range.1 hk
    exact ⟨⟨⟨show -8192 ≤ h.y0 + k by omega, show h.y0 + k < 8192 by omega⟩, ⟨a1, a2⟩, c1, c2⟩, show h.x0 < h.x1 by omega⟩
  · unfold Lf
    rw [List.pairwise_map]
    refine List.Pairwise.imp (R := fun a b => a < b) (fun {a b} hab => ?_) List.pairwise_lt_range
    exact .inl (show h.y0 + (a : Int) < h.y0 + b by omega)
/-! A disc. -/
theorem mem_dsk (c : Pt) (w : Int) (y x : Int) : ∀ i, mem (dsk c w i) y x = true ↔ (dY0 c w ≤ y ∧ y < dY0 c w + i) ∧ 1 ≤ dRest c w y ∧ dX0 c w y ≤ x ∧ x < dX1 c w y
  | 0 => by
    show false = true ↔ _
    refine ⟨fun h => (by cases h), fun h => ?_⟩
    have := h.1
    omega
  | i + 1 => by
    show mem (dsk c w i ++ dRow c w (dY0 c w + i)) y x = true ↔ _
    rw [mem_app, Bool.or_eq_true, mem_dsk c w y x i]
    have hrow : mem (dRow c w (dY0 c w + i)) y x = true ↔ y = dY0 c w + i ∧ 1 ≤ dRest c w y ∧ dX0 c w y ≤ x ∧ x < dX1 c w y := by
      unfold dRow
      split
      · rename_i hr
        refine ⟨fun h => (by cases h), fun h => ?_⟩
        rw [h.1] at h
        omega
      · rename_i hr
        split
        · rw [mem_one, inR_iff]
          constructor
          · rintro ⟨h1, h2, h3⟩
            have h1 : dY0 c w + i = y := h1
            rw [← h1]
            exact ⟨rfl, by omega, h2, h3⟩
          · rintro ⟨h1, h2, h3, h4⟩
            rw [← h1]
            exact ⟨rfl, h3, h4⟩
        · rename_i hx
          refine ⟨fun h => (by cases h), fun h => ?_⟩
          rw [← h.1] at hx
          omega
    rw [hrow]
    constructor
    · rintro (⟨h1, h2⟩ | ⟨h1, h2⟩)
      · exact ⟨by omega, h2⟩
      · exact ⟨by omega, h2⟩
    · rintro ⟨h1, h2⟩
      by_cases e : y = dY0 c w + i
      · exact .inr ⟨e, h2⟩
      · exact .inl ⟨by omega, h2⟩
structure DotG where
  c : Pt
  w : Int
def DotG.ok (g : DotG) : Prop := small 5000 g.c ∧ 2 ≤ g.w ∧ g.w ≤ 300
noncomputable def DotG.D (g : DotG) : List Rn := dsk g.c g.w (dN g.c g.w)
theorem h_eq {w : Int} (h : 2 ≤ w) : dH w = w / 2 + 1 := by
  unfold dH
  rw [Int.tdiv_eq_ediv_of_nonneg (by omega)]
theorem mem_D {g : DotG} (h : g.ok) (y x : Int) : mem g.D y x = true ↔ (g.c.y - dH g.w ≤ y ∧ y ≤ g.c.y + dH g.w) ∧ 1 ≤ dRest g.c g.w y ∧ g.c.x - dK g.c g.w y ≤ x ∧ x < g.c.x + dK g.c g.w y := by
  obtain ⟨⟨⟨c1, c2⟩, c3, c4⟩, w1, w2⟩ := h
  have hh := h_eq w1
  have e0 : dY0 g.c g.w = g.c.y - dH g.w := if_neg (by omega)
  have e1 : dY1 g.c g.w = g.c.y + dH g.w := if_neg (by omega)
  unfold DotG.D
  rw [mem_dsk]
  unfold dN
  rw [e0, e1]
  by_cases hr : 1 ≤ dRest g.c g.w y
  · have hk : 0 ≤ dK g.c g.w y ∧ dK g.c g.w y ≤ 301 := by
      have hd := sqn (2 * y + 1 - 2 * g.c.y)
      have hw := Fla.mul_in (a := g.w) (x := g.w) (A := 300) (X := 300) ⟨by omega, by omega⟩ ⟨by omega, by omega⟩
      have hR : dRest g.c g.w y ≤ 90000 := by unfold dRest; omega
      have hs := (isq_spec (dRest g.c g.w y).toNat).1
      have hq : isq (dRest g.c g.w y).toNat ≤ 300 := by
        refine Nat.le_of_not_lt fun hc => ?_
        have := Nat.mul_le_mul (show 301 ≤ _ from hc) (show 301 ≤ _ from hc)
        omega
      unfold dK
      rw [Int.tdiv_eq_ediv_of_nonneg (by omega)]
      omega
    have ex0 : dX0 g.c g.w y = g.c.x - dK g.c g.w y := if_neg (by omega)
    have ex1 : dX1 g.c g.w y = g.c.x + dK g.c g.w y := if_neg (by omega)
    rw [ex0, ex1]
    constructor
    · rintro ⟨h1, h2⟩; exact ⟨by omega, h2⟩
    · rintro ⟨h1, h2⟩; exact ⟨by omega, h2⟩
  · constructor
    · rintro ⟨h1, h2, h3⟩; exact absurd h2 hr
    · rintro ⟨h1, h2, h3⟩; exact absurd h2 hr
/-- Half the width of a row. -/
theorem k_of {g : DotG} (h : g.ok) {y a : Int} (ha : 1 ≤ a) (hs : (2 * a - 1) * (2 * a - 1) ≤ dRest g.c g.w y) : a ≤ dK g.c g.w y := by
  have hq : (2 * a - 1).toNat ≤ isq (dRest g.c g.w y).toNat := isq_ge (by
    have e : (((2 * a - 1).toNat * (2 * a - 1).toNat : Nat) : Int) = (2 * a - 1) * (2 * a - 1) := by
      rw [Int.natCast_mul, show (((2 * a - 1).toNat : Nat) : Int) = 2 * a - 1 by omega]
    omega)
  unfold dK
  rw [Int.tdiv_eq_ediv_of_nonneg (by omega)]
  omega
theorem k_le {g : DotG} (h : g.ok) {y : Int} : dK g.c g.w y ≤ g.w / 2 + 1 := by
  obtain ⟨-, w1, w2⟩ := h
  have hd := sqn (2 * y + 1 - 2 * g.c.y)
  have hR : dRest g.c g.w y ≤ g.w * g.w := by unfold dRest; omega
  have hs := (isq_spec (dRest g.c g.w y).toNat).1
  have hq : (isq (dRest g.c g.w y).toNat : Int) ≤ g.w := by
    refine Int.not_lt.1 fun hc => ?_
    have h1 : (g.w + 1) * (g.w + 1) ≤ (isq (dRest g.c g.w y).toNat : Int) * (isq (dRest g.c g.w y).toNat : Int) := Int.mul_le_mul (by omega) (by omega) (by omega) (by omega)
    have h2 : ((isq (dRest g.c g.w y).toNat : Int) * (isq (dRest g.c g.w y).toNat : Int)) ≤ ((dRest g.c g.w y).toNat : Int) := by rw [← Int.natCast_mul]; omega
    rw [Int.add_mul, Int.mul_add] at h1
    have h3 : 0 ≤ g.w * g.w := sqn g.w
    omega
  unfold dK
  rw [Int.tdiv_eq_ediv_of_nonneg (by omega)]
  omega
def outer (g : DotG) : ReG := ⟨g.c.x - g.w.tdiv 2 - 1, g.c.y - g.w.tdiv 2 - 1, g.c.x + g.w.tdiv 2 + 1, g.c.y + g.w.tdiv 2 + 1⟩
def inner (g : DotG) : ReG := ⟨g.c.x - (g.w * 7).tdiv 20, g.c.y - (g.w * 7).tdiv 20, g.c.x + (g.w * 7).tdiv 20, g.c.y + (g.w * 7).tdiv 20⟩
theorem d_outer {g : DotG} (h : g.ok) {y x : Int} (hm : mem g.D y x = true) : mem (Lf (outer g).f (outer g).n) y x = true := by
  obtain ⟨⟨h1, h2⟩, h3, h4, h5⟩ := (mem_D h y x).1 hm
  have hk := k_le h (y := y)
  obtain ⟨-, w1, w2⟩ := id h
  have hh := h_eq w1
  have e2 : g.w.tdiv 2 = g.w / 2 := Int.tdiv_eq_ediv_of_nonneg (by omega)
  refine (mem_rect (outer g) y x).2 ⟨⟨?_, ?_⟩, ?_, ?_⟩
  · show g.c.y - g.w.tdiv 2 - 1 ≤ y
    omega
  · show y < g.c.y + g.w.tdiv 2 + 1
    refine Int.not_le.1 fun hc => ?_
    have ey : 2 * y + 1 - 2 * g.c.y = 2 * dH g.w + 1 := by omega
    have hsq : (g.w + 1) * (g.w + 1) ≤ (2 * dH g.w + 1) * (2 * dH g.w + 1) := Int.mul_le_mul (by omega) (by omega) (by omega) (by omega)
    rw [Int.add_mul, Int.mul_add] at hsq
    unfold dRest at h3
    rw [ey] at h3
    omega
  · show g.c.x - g.w.tdiv 2 - 1 ≤ x
    omega
  · show x < g.c.x + g.w.tdiv 2 + 1
    omega
theorem d_inner {g : DotG} (h : g.ok) {y x : Int} (hm : mem (Lf (inner g).f (inner g).n) y x = true) : mem g.D y x = true := by
  obtain ⟨⟨h1, h2⟩, h3, h4⟩ := (mem_rect (inner g) y x).1 hm
  obtain ⟨-, w1, w2⟩ := id h
  have hh := h_eq w1
  have e2 : (g.w * 7).tdiv 20 = g.w * 7 / 20 := Int.tdiv_eq_ediv_of_nonneg (by omega)
  have h1 : g.c.y - (g.w * 7).tdiv 20 ≤ y := h1
  have h2 : y < g.c.y + (g.w * 7).tdiv 20 := h2
  have h3 : g.c.x - (g.w * 7).tdiv 20 ≤ x := h3
  have h4 : x < g.c.x + (g.w * 7).tdiv 20 := h4
  have ha : 1 ≤ g.w * 7 / 20 := by omega
  have b1 : (2 * (g.w * 7 / 20) - 1) * (2 * (g.w * 7 / 20) - 1) * 100 ≤ (7 * g.w) * (7 * g.w) := by
    have := Int.mul_le_mul (show 10 * (2 * (g.w * 7 / 20) - 1) ≤ 7 * g.w by omega) (show 10 * (2 * (g.w * 7 / 20) - 1) ≤ 7 * g.w by omega) (by omega) (by omega)
    have e : 10 * (2 * (g.w * 7 / 20) - 1) * (10 * (2 * (g.w * 7 / 20) - 1)) = (2 * (g.w * 7 / 20) - 1) * (2 * (g.w * 7 / 20) - 1) * 100 := by grind
    omega
  have e3 : (7 * g.w) * (7 * g.w) = 49 * (g.w * g.w) := by grind
  have b2 : (2 * y + 1 - 2 * g.c.y) * (2 * y + 1 - 2 * g.c.y) ≤ (2 * (g.w * 7 / 20) - 1) * (2 * (g.w * 7 / 20) - 1) := by
    have := Fla.mul_in (a := 2 * y + 1 - 2 * g.c.y) (x := 2 * y + 1 - 2 * g.c.y) (A := 2 * (g.w * 7 / 20) - 1) (X := 2 * (g.w * 7 / 20) - 1) ⟨by omega, by omega⟩ ⟨by omega, by omega⟩
    exact this.2
  have b3 := sqn (2 * (g.w * 7 / 20) - 1)
  have b4 := Int.mul_le_mul (show 1 ≤ 2 * (g.w * 7 / 20) - 1 by omega) (show 1 ≤ 2 * (g.w * 7 / 20) - 1 by omega) (by omega) (by omega)
  have hk : g.w * 7 / 20 ≤ dK g.c g.w y := k_of h ha (by unfold dRest; omega)
  exact (mem_D h y x).2 ⟨by omega, by unfold dRest; omega, by omega, by omega⟩
theorem d_some {g : DotG} (h : g.ok) : mem g.D g.c.y g.c.x = true := by
  obtain ⟨-, w1, w2⟩ := id h
  have hh := h_eq w1
  have b := Int.mul_le_mul (show 2 ≤ g.w by omega) (show 2 ≤ g.w by omega) (by omega) (by omega)
  have e : 2 * g.c.y + 1 - 2 * g.c.y = 1 := by omega
  have hR : dRest g.c g.w g.c.y = g.w * g.w - 1 := by unfold dRest; rw [e]; rfl
  have hk : 1 ≤ dK g.c g.w g.c.y := k_of h (Int.le_refl 1) (by rw [hR]; omega)
  exact (mem_D h _ _).2 ⟨by omega, by rw [hR]; omega, by omega, by omega⟩
/-! strokes. -/
noncomputable def spStks : FSpec := mkSpec 30 (γ := Unit) (fun | [] => some () | _ => none) (fun _ => []) (fun _ => True) (fun _ => .lit true)
theorem ok_stks : SpecOK Try.prog spStks := by
  refine spec_sound (specs := [giv spStr, Rgd.spRect, Rgc.spEqR]) (all_ok (⟨giv_ok ok_str, Rgd.ok_rect, Rgc.ok_eqR, trivial⟩)) (eqs := []) (fun _ _ h => (List.not_mem_nil h).elim) Aff.mixed Try.func30 rfl (by kernel_rfl) (fun _ _ => by kernel_rfl) (fun g => A0) (fun g => Nat.le_of_ble_eq_true (by kernel_rfl)) ?_
  rintro g hg
  refine vc_of (B := let z7 := (1 : Nat);let z5 := (0 : Int);let z3 := (Rgd.ReG.mk z5 (-2 : Int) (10 : Int) (2 : Int));let z2 := (IntKind.i64 = IntKind.i64);let z1 := (Rgn.Lf z3.f z3.n);let z0 := (Sto.StrG.mk (Fla.Lns.mk z7 fun (i : Nat) => Fla.Li.mk (2 : Nat) (fun (i : Nat) => Con.Pt.mk (bif decide (i = z7) then (10 : Int) else z5) (bif decide (i = z7) then z5 else z5)) false) (Sto.Sty.mk (4 : Int) z5 z5 (64 : Int))); let z6 := (Ste.outR z0);True ∧ True ∧ True ∧ True ∧ True ∧ True ∧ True ∧ (((Sx.Ask (z7 = z7) ∧ ∀ (i : Nat), i < z7 → (True ∧ Sx.Ask ((2 : Nat) = (2 : Nat)) ∧ ∀ (i : Nat), i < (2 : Nat) → (True ∧ Sx.Ask z2 ∧ Sx.Ask ((bif decide (i = z7) then (10 : Int) else z5) = bif decide (i = z7) then (10 : Int) else z5)) ∧ Sx.Ask z2 ∧ Sx.Ask ((bif decide (i = z7) then z5 else z5) = bif decide (i = z7) then z5 else z5)) ∧ Sx.Ask (false = false)) ∧ ((((True ∧ Sx.Ask z2 ∧ Sx.Ask ((4 : Int) = (4 : Int))) ∧ Sx.Ask z2 ∧ Sx.Ask (z5 = z5)) ∧ Sx.Ask z2 ∧ Sx.Ask (z5 = z5)) ∧ Sx.Ask z2 ∧ Sx.Ask ((64 : Int) = (64 : Int))) ∧ True) ∧ Sx.Ask (Ste.StrOK z0)) ∧ True ∧ True ∧ True ∧ True ∧ True ∧ (((Sx.Ask z2 ∧ Sx.Ask (z5 = z5)) ∧ (Sx.Ask z2 ∧ Sx.Ask ((-2 : Int) = (-2 : Int))) ∧ (Sx.Ask z2 ∧ Sx.Ask ((10 : Int) = (10 : Int))) ∧ (Sx.Ask z2 ∧ Sx.Ask ((2 : Int) = (2 : Int))) ∧ True) ∧ Sx.Ask z3.ok) ∧ True ∧ True ∧ True ∧ True ∧ True ∧ True ∧ True ∧ True ∧ True ∧ True ∧ True ∧ True ∧ True ∧ Sx.Br (decide ((↑z6.length : Int) = (4 : Int))) (True ∧ True ∧ (((Sx.Ask (z6.length = z6.length) ∧ ∀ (i : Nat), let z4 := (Rga.rI z6 i); i < z6.length → ((True ∧ Sx.Ask z2 ∧ Sx.Ask (z4.y = z4.y)) ∧ Sx.Ask z2 ∧ Sx.Ask (z4.x0 = z4.x0)) ∧ Sx.Ask z2 ∧ Sx.Ask (z4.x1 = z4.x1)) ∧ (Sx.Ask (z1.length = z1.length) ∧ ∀ (i : Nat), let z8 := (Rga.rI z1 i); i < z1.length → ((True ∧ Sx.Ask z2 ∧ Sx.Ask (z8.y = z8.y)) ∧ Sx.Ask z2 ∧ Sx.Ask (z8.x0 = z8.x0)) ∧ Sx.Ask z2 ∧ Sx.Ask (z8.x1 = z8.x1)) ∧ True) ∧ Sx.Ask (Rgc.EqG.mk (Rga.Rg.mk z6.length (Rga.rI z6)) (Rga.Rg.mk z1.length (Rga.rI z1))).ok) ∧ True ∧ True ∧ True ∧ Sx.Ask (true = true)) (True ∧ True ∧ True ∧ Sx.Ask (false = true))) (by kernel_rfl) ?_
  simp only [ask_iff, br_iff, eq_self, true_and, and_true, implies_true, forall_const, decide_eq_true_eq, decide_eq_false_iff_not, ne_eq, Nat.mul_one, Nat.add_zero, Nat.zero_add, Int.toNat_natCast, and_self, List.append_assoc, false_and, and_false]
  have e : outR ⟨⟨1, fun _ => ⟨2, fun i => ⟨bif decide (i = 1) then 10 else 0, bif decide (i = 1) then 0 else 0⟩, false⟩⟩, ⟨4, 0, 0, 64⟩⟩ = Stm.lB := out0 rfl ⟨rfl, rfl, rfl, rfl⟩
  rw [e]
  refine ⟨ok0 rfl ⟨rfl, rfl, rfl, rfl⟩, ⟨by decide, by decide, by decide, by decide, by decide, by decide⟩, fun _ => ?_, fun h => absurd rfl h⟩
  show vld (Rg.L ⟨Stm.lB.length, rI Stm.lB⟩) ∧ Rg.L ⟨Stm.lB.length, rI Stm.lB⟩ = _
  rw [Rg.L_of]
  exact ⟨Stm.vB, rfl⟩
/-! A line of one point. -/
structure IsD (l : Li) (c : Pt) : Prop where
  n : l.n = 2
  p0 : l.f 0 = c
  p1 : l.f 1 = c
  s : l.c = false
def sD (w : Int) : Sty := ⟨w, 1, 0, 16⟩
theorem IsD.clean {l : Li} {c : Pt} (h : IsD l c) : clean l = [c] := by
  have e1 : dd l.f 1 = [l.f 0] := if_pos (.inl rfl)
  have e2 : dd l.f 2 = if (dd l.f 1).length = 0 ∨ ¬ eqPt (lastP (dd l.f 1)) (l.f 1) then dd l.f 1 ++ [l.f 1] else dd l.f 1 := rfl
  rw [e1] at e2
  have e3 : lastP [l.f 0] = l.f 0 := rfl
  rw [e3, h.p0, h.p1, if_neg (fun hc => hc.elim (fun h => by cases h) (fun h => h ⟨rfl, rfl⟩))] at e2
  unfold Sta.clean
  rw [h.s, if_neg (by decide), h.n, e2]
theorem IsD.ln {l : Li} {c : Pt} (h : IsD l c) (w : Int) : lnO (sD w) l = (o0 (sD w)).dsc c := by
  unfold lnO Olr.ln
  rw [h.clean]
  rfl
theorem IsD.out {l : Li} {c : Pt} (h : IsD l c) (w : Int) : outX (sD w) l = ((o0 (sD w)).dsc c).flip 0 := by
  rw [outX_eq]
  unfold outO
  rw [h.ln]
  rfl
theorem dot_R {g : Lns} {c : Pt} {w : Int} (hn : g.n = 1) (h : IsD (g.f 0) c) : sR (sD w) g g.n = dsk c w (dN c w) := by
  rw [hn]
  show ([] : List Rn) ++ (fR (outX (sD w) (g.f 0)) (outX (sD w) (g.f 0)).n ++ dR (outX (sD w) (g.f 0)) w (outX (sD w) (g.f 0)).k) = _
  rw [h.out]
  rfl
theorem dot_ok {g : Lns} {c : Pt} {w : Int} (hn : g.n = 1) (h : IsD (g.f 0) c) (hc : small 5000 c) (hw : 2 ≤ w ∧ w ≤ 300) : StrOK ⟨g, sD w⟩ := by
  have only : ∀ i, i < g.n → i = 0 := fun i hi => by omega
  have hin : ∀ j, j < (g.f 0).n → (g.f 0).f j = c := fun j hj => by
    rw [h.n] at hj
    match j, hj with
    | 0, _ => exact h.p0
    | 1, _ => exact h.p1
  have hs : Sty.ok (sD w) := ⟨⟨⟨show 1 ≤ w by omega, show w ≤ 1024 by omega⟩, show (0 : Int) ≤ 1 by decide, show (1 : Int) ≤ 2 by decide⟩, ⟨show (0 : Int) ≤ 0 by decide, show (0 : Int) ≤ 2 by decide⟩, show (16 : Int) ≤ 16 by decide, show (16 : Int) ≤ 1024 by decide⟩
  have hc2 : small 32767 c := sm_le hc (by omega)
  refine ⟨⟨⟨show g.n ≤ 1024 by omega, fun i hi => ?_⟩, hs⟩, fun i hi => ?_, fun i hi => ?_, fun i hi t ht => ?_, fun i hi t ht => ?_, ?_, sR_ok _ g g.n⟩
  · rw [only i hi]
    exact ⟨by rw [h.n]; decide, fun j hj => by rw [hin j hj]; exact hc2⟩
  · have hi : i < g.n := hi
    show OuG.ok ⟨g.f i, sD w⟩
    rw [only i hi]
    refine ⟨⟨⟨by rw [h.n]; decide, fun j hj => by rw [hin j hj]; exact hc2⟩, hs⟩, ?_⟩
    show (lnO (sD w) (g.f 0)).lns.fin
    rw [h.ln]
    exact ⟨Nat.zero_le _, fun t ht => absurd ht (Nat.not_lt_zero _)⟩
  · have hi : i < g.n := hi
    show (outX (sD w) (g.f i)).n ≤ 1024 ∧ (outX (sD w) (g.f i)).k ≤ 1048576
    rw [only i hi, h.out]
    exact ⟨Nat.zero_le _, show 0 + 1 ≤ 1048576 by decide⟩
  · have hi : i < g.n := hi
    have ht : t < (outX (sD w) (g.f i)).n := ht
    rw [only i hi, h.out] at ht
    exact absurd ht (Nat.not_lt_zero _)
  · have hi : i < g.n := hi
    have ht : t < (outX (sD w) (g.f i)).k := ht
    show small 32767 ((outX (sD w) (g.f i)).d t)
    rw [only i hi, h.out] at ht ⊢
    exact hc2
  · show (sR (sD w) g g.n).length ≤ _
    rw [dot_R hn h]
    have h1 := dsk_len c w (dN c w)
    have h2 := dN_le (c := c) (w := w)
    omega
theorem dot_out {g : Lns} {c : Pt} {w : Int} (hn : g.n = 1) (h : IsD (g.f 0) c) (y x : Int) : mem (outR ⟨g, sD w⟩) y x = mem (DotG.D ⟨c, w⟩) y x := by
  rw [out_mem, dot_R hn h]
  rfl
theorem minus_nil {a b : List Rn} (h : ∀ y x, mem a y x = true → mem b y x = true) : Rgb.cbOut Rgb.mn ⟨⟨a.length, rI a⟩, ⟨b.length, rI b⟩⟩ = [] := by
  refine ofSet_eq vld_nil fun y x => ?_
  show false = Rgb.mn (mem (Rg.L ⟨a.length, rI a⟩) y x) (mem (Rg.L ⟨b.length, rI b⟩) y x)
  rw [Rg.L_of, Rg.L_of]
  unfold Rgb.mn
  have := h y x
  cases h1 : mem a y x
  · rfl
  · rw [this h1]; rfl
structure DoG where
  p : Pt
  w : Int
noncomputable def spDot : FSpec := mkSpec 10 (γ := DoG) (fun | [.agg _ p, .int _ w] => some ⟨ptD p, w⟩ | _ => none) (fun g => [ptS g.p, .int .i64 g.w]) (fun _ => True) (fun _ => .bool true)
theorem ok_sdot : SpecOK Try.prog spDot := by
  refine spec_sound (specs := [spStks, giv spFew, spCut, spStr, spRectD, Rgc.spMinus]) (all_ok (⟨ok_stks, giv_ok ok_few, ok_cut, ok_str, ok_rectD, Rgc.ok_Minus, trivial⟩)) (eqs := []) (fun _ _ h => (List.not_mem_nil h).elim) Aff.mixed Try.func10 rfl (by kernel_rfl) (fun _ _ => by kernel_rfl) (fun g => A0) (fun g => Nat.le_of_ble_eq_true (by kernel_rfl)) ?_
  rintro ⟨p, w⟩ hg
  refine vc_of (B := let z29 := (2 : Nat);let z23 := (300 : Int);let z22 := (0 : Int); let z25 := (z22 ≤ z22 ∧ z22 < (↑(Min.min z29 (8 : Nat)) : Int));let z20 := (1 : Nat); let z28 := (z22 ≤ z22 ∧ z22 < (↑(Min.min z20 (4 : Nat)) : Int));let z19 := (1 : Int);let z18 := (20 : Int);let z12 := (2 : Int);let z9 := (9223372036854775807 : Int);let z8 := (-9223372036854775808 : Int);let z7 := (5000 : Int);let z6 := (-5000 : Int);let z5 := (IntKind.i64 = IntKind.i64);let z4 := (cutI w z12 z23 * (7 : Int));let z3 := (cutI w z12 z23); let z17 := (z12 ≠ z22 ∧ z8 ≤ z3.tdiv z12 ∧ z3.tdiv z12 ≤ z9);let z2 := (Sto.StrG.mk (Fla.Lns.mk (Min.min z20 (4 : Nat)) fun (i : Nat) => Fla.Li.mk (Min.min z29 (8 : Nat)) (fun (i : Nat) => Con.Pt.mk (cutI (bif decide (i = z20) then p.x else p.x) z6 z7) (cutI (bif decide (i = z20) then p.y else p.y) z6 z7)) false) (Sto.Sty.mk z3 z19 z22 (16 : Int))); let z24 := (Ste.outR z2); let z11 := (Sx.Ask (z24.length = z24.length) ∧ ∀ (i : Nat), let z21 := (Rga.rI z24 i); i < z24.length → ((True ∧ Sx.Ask z5 ∧ Sx.Ask (z21.y = z21.y)) ∧ Sx.Ask z5 ∧ Sx.Ask (z21.x0 = z21.x0)) ∧ Sx.Ask z5 ∧ Sx.Ask (z21.x1 = z21.x1)); let z10 := (Rga.Rg.mk z24.length (Rga.rI z24));let z1 := (Rgd.ReG.mk (cutI p.x z6 z7 - z3.tdiv z12 - z19) (cutI p.y z6 z7 - z3.tdiv z12 - z19) (cutI p.x z6 z7 + z3.tdiv z12 + z19) (cutI p.y z6 z7 + z3.tdiv z12 + z19)); let z15 := (Rgn.Lf z1.f z1.n); let z13 := (↑(Rgb.cbOut Rgb.mn (Rgm.CbG.mk z10 (Rga.Rg.mk z15.length (Rga.rI z15)))).length : Int);let z0 := (Rgd.ReG.mk (cutI p.x z6 z7 - z4.tdiv z18) (cutI p.y z6 z7 - z4.tdiv z18) (cutI p.x z6 z7 + z4.tdiv z18) (cutI p.y z6 z7 + z4.tdiv z18)); let z16 := (Rgn.Lf z0.f z0.n); let z14 := (↑(Rgb.cbOut Rgb.mn (Rgm.CbG.mk (Rga.Rg.mk z16.length (Rga.rI z16)) z10)).length : Int);True ∧ True ∧ (True ∧ Sx.Ask True) ∧ True ∧ True ∧ True ∧ True ∧ True ∧ True ∧ (((Sx.Ask (z20 = z20) ∧ ∀ (i : Nat), i < z20 → (True ∧ Sx.Ask (z29 = z29) ∧ ∀ (i : Nat), i < z29 → (True ∧ Sx.Ask z5 ∧ Sx.Ask ((bif decide (i = z20) then p.x else p.x) = bif decide (i = z20) then p.x else p.x)) ∧ Sx.Ask z5 ∧ Sx.Ask ((bif decide (i = z20) then p.y else p.y) = bif decide (i = z20) then p.y else p.y)) ∧ Sx.Ask (false = false)) ∧ (Sx.Ask z5 ∧ Sx.Ask (z7 = z7)) ∧ True) ∧ Sx.Ask (Flg.FwG.mk (Fla.Lns.mk z20 fun (i : Nat) => Fla.Li.mk z29 (fun (i : Nat) => Con.Pt.mk (bif decide (i = z20) then p.x else p.x) (bif decide (i = z20) then p.y else p.y)) false) z7).ok) ∧ True ∧ (((Sx.Ask z5 ∧ Sx.Ask (w = w)) ∧ (Sx.Ask z5 ∧ Sx.Ask (z12 = z12)) ∧ (Sx.Ask z5 ∧ Sx.Ask (z23 = z23)) ∧ True) ∧ Sx.Ask (((-2305843009213693952 : Int) ≤ z12 ∧ z12 ≤ z23) ∧ z23 ≤ (4611686018427387903 : Int) ∧ z23 - z12 ≤ (4611686018427387903 : Int))) ∧ True ∧ True ∧ True ∧ Sx.Ask z28 ∧ True ∧ True ∧ Sx.Ask z25 ∧ True ∧ True ∧ True ∧ Sx.Ask z28 ∧ True ∧ True ∧ Sx.Ask z25 ∧ True ∧ True ∧ True ∧ True ∧ True ∧ True ∧ True ∧ (((Sx.Ask (Min.min z20 (4 : Nat) = Min.min z20 (4 : Nat)) ∧ ∀ (i : Nat), i < Min.min z20 (4 : Nat) → (True ∧ Sx.Ask (Min.min z29 (8 : Nat) = Min.min z29 (8 : Nat)) ∧ ∀ (i : Nat), let z31 := (bif decide (i = z20) then p.y else p.y); let z30 := (bif decide (i = z20) then p.x else p.x); i < Min.min z29 (8 : Nat) → (True ∧ Sx.Ask z5 ∧ Sx.Ask (cutI z30 z6 z7 = cutI z30 z6 z7)) ∧ Sx.Ask z5 ∧ Sx.Ask (cutI z31 z6 z7 = cutI z31 z6 z7)) ∧ Sx.Ask (false = false)) ∧ ((((True ∧ Sx.Ask z5 ∧ Sx.Ask (cutI w z12 z23 = cutI w z12 z23)) ∧ Sx.Ask z5 ∧ Sx.Ask (z19 = z19)) ∧ Sx.Ask z5 ∧ Sx.Ask (z22 = z22)) ∧ Sx.Ask z5 ∧ Sx.Ask ((16 : Int) = (16 : Int))) ∧ True) ∧ Sx.Ask (Ste.StrOK z2)) ∧ True ∧ True ∧ True ∧ True ∧ True ∧ True ∧ True ∧ Sx.Ask z17 ∧ Sx.Ask (z8 ≤ cutI p.x z6 z7 - z3.tdiv z12 ∧ cutI p.x z6 z7 - z3.tdiv z12 ≤ z9) ∧ Sx.Ask (z8 ≤ cutI p.x z6 z7 - z3.tdiv z12 - z19 ∧ cutI p.x z6 z7 - z3.tdiv z12 - z19 ≤ z9) ∧ True ∧ True ∧ Sx.Ask z17 ∧ Sx.Ask (z8 ≤ cutI p.y z6 z7 - z3.tdiv z12 ∧ cutI p.y z6 z7 - z3.tdiv z12 ≤ z9) ∧ Sx.Ask (z8 ≤ cutI p.y z6 z7 - z3.tdiv z12 - z19 ∧ cutI p.y z6 z7 - z3.tdiv z12 - z19 ≤ z9) ∧ True ∧ True ∧ Sx.Ask z17 ∧ Sx.Ask (z8 ≤ cutI p.x z6 z7 + z3.tdiv z12 ∧ cutI p.x z6 z7 + z3.tdiv z12 ≤ z9) ∧ Sx.Ask (z8 ≤ cutI p.x z6 z7 + z3.tdiv z12 + z19 ∧ cutI p.x z6 z7 + z3.tdiv z12 + z19 ≤ z9) ∧ True ∧ True ∧ Sx.Ask z17 ∧ Sx.Ask (z8 ≤ cutI p.y z6 z7 + z3.tdiv z12 ∧ cutI p.y z6 z7 + z3.tdiv z12 ≤ z9) ∧ Sx.Ask (z8 ≤ cutI p.y z6 z7 + z3.tdiv z12 + z19 ∧ cutI p.y z6 z7 + z3.tdiv z12 + z19 ≤ z9) ∧ (((Sx.Ask z5 ∧ Sx.Ask (cutI p.x z6 z7 - z3.tdiv z12 - z19 = cutI p.x z6 z7 - z3.tdiv z12 - z19)) ∧ (Sx.Ask z5 ∧ Sx.Ask (cutI p.y z6 z7 - z3.tdiv z12 - z19 = cutI p.y z6 z7 - z3.tdiv z12 - z19)) ∧ (Sx.Ask z5 ∧ Sx.Ask (cutI p.x z6 z7 + z3.tdiv z12 + z19 = cutI p.x z6 z7 + z3.tdiv z12 + z19)) ∧ (Sx.Ask z5 ∧ Sx.Ask (cutI p.y z6 z7 + z3.tdiv z12 + z19 = cutI p.y z6 z7 + z3.tdiv z12 + z19)) ∧ True) ∧ Sx.Ask (ReOK z1)) ∧ True ∧ True ∧ True ∧ True ∧ True ∧ True ∧ Sx.Ask (z8 ≤ cutI w z12 z23 * (7 : Int) ∧ cutI w z12 z23 * (7 : Int) ≤ z9) ∧ Sx.Ask (z18 ≠ z22 ∧ z8 ≤ z4.tdiv z18 ∧ z4.tdiv z18 ≤ z9) ∧ True ∧ True ∧ True ∧ Sx.Ask (z8 ≤ cutI p.x z6 z7 - z4.tdiv z18 ∧ cutI p.x z6 z7 - z4.tdiv z18 ≤ z9) ∧ True ∧ True ∧ Sx.Ask (z8 ≤ cutI p.y z6 z7 - z4.tdiv z18 ∧ cutI p.y z6 z7 - z4.tdiv z18 ≤ z9) ∧ True ∧ True ∧ Sx.Ask (z8 ≤ cutI p.x z6 z7 + z4.tdiv z18 ∧ cutI p.x z6 z7 + z4.tdiv z18 ≤ z9) ∧ True ∧ True ∧ Sx.Ask (z8 ≤ cutI p.y z6 z7 + z4.tdiv z18 ∧ cutI p.y z6 z7 + z4.tdiv z18 ≤ z9) ∧ (((Sx.Ask z5 ∧ Sx.Ask (cutI p.x z6 z7 - z4.tdiv z18 = cutI p.x z6 z7 - z4.tdiv z18)) ∧ (Sx.Ask z5 ∧ Sx.Ask (cutI p.y z6 z7 - z4.tdiv z18 = cutI p.y z6 z7 - z4.tdiv z18)) ∧ (Sx.Ask z5 ∧ Sx.Ask (cutI p.x z6 z7 + z4.tdiv z18 = cutI p.x z6 z7 + z4.tdiv z18)) ∧ (Sx.Ask z5 ∧ Sx.Ask (cutI p.y z6 z7 + z4.tdiv z18 = cutI p.y z6 z7 + z4.tdiv z18)) ∧ True) ∧ Sx.Ask (ReOK z0)) ∧ True ∧ True ∧ True ∧ True ∧ True ∧ True ∧ True ∧ ((z11 ∧ (Sx.Ask (z15.length = z15.length) ∧ ∀ (i : Nat), let z26 := (Rga.rI z15 i); i < z15.length → ((True ∧ Sx.Ask z5 ∧ Sx.Ask (z26.y = z26.y)) ∧ Sx.Ask z5 ∧ Sx.Ask (z26.x0 = z26.x0)) ∧ Sx.Ask z5 ∧ Sx.Ask (z26.x1 = z26.x1)) ∧ True) ∧ Sx.Ask (Rga.vld z10.L ∧ Rga.vld (Rga.Rg.mk z15.length (Rga.rI z15)).L)) ∧ True ∧ True ∧ True ∧ True ∧ True ∧ True ∧ True ∧ (((Sx.Ask (z16.length = z16.length) ∧ ∀ (i : Nat), let z27 := (Rga.rI z16 i); i < z16.length → ((True ∧ Sx.Ask z5 ∧ Sx.Ask (z27.y = z27.y)) ∧ Sx.Ask z5 ∧ Sx.Ask (z27.x0 = z27.x0)) ∧ Sx.Ask z5 ∧ Sx.Ask (z27.x1 = z27.x1)) ∧ z11 ∧ True) ∧ Sx.Ask (Rga.vld (Rga.Rg.mk z16.length (Rga.rI z16)).L ∧ Rga.vld z10.L)) ∧ True ∧ True ∧ True ∧ True ∧ True ∧ True ∧ True ∧ True ∧ True ∧ True ∧ True ∧ True ∧ True ∧ Sx.Br (decide (z22 < (↑z24.length : Int))) (True ∧ True ∧ True ∧ True ∧ Sx.Ask (z8 ≤ z13 + z14 ∧ z13 + z14 ≤ z9) ∧ True ∧ True ∧ True ∧ True ∧ Sx.Ask (decide (z13 + z14 = z22) = true)) (True ∧ True ∧ True ∧ Sx.Ask (false = true))) (by kernel_rfl) ?_
  simp only [ask_iff, br_iff, eq_self, true_and, and_true, implies_true, forall_const, decide_eq_true_eq, decide_eq_false_iff_not, ne_eq, Nat.mul_one, Nat.add_zero, Nat.zero_add, Int.toNat_natCast, and_self, List.append_assoc, false_and, and_false]
  have wW := cutI_range w 2 300 (by omega)
  have wx := cutI_range p.x (-5000) 5000 (by omega)
  have wy := cutI_range p.y (-5000) 5000 (by omega)
  have hD : IsD ((⟨min 1 4, fun i => ⟨min 2 8, fun i => ⟨cutI (bif decide (i = 1) then p.x else p.x) (-5000) 5000, cutI (bif decide (i = 1) then p.y else p.y) (-5000) 5000⟩, false⟩⟩ : Lns).f 0) ⟨cutI p.x (-5000) 5000, cutI p.y (-5000) 5000⟩ := ⟨rfl, rfl, rfl, rfl⟩
  generalize hG : (⟨min 1 4, fun i => ⟨min 2 8, fun i => ⟨cutI (bif decide (i = 1) then p.x else p.x) (-5000) 5000, cutI (bif decide (i = 1) then p.y else p.y) (-5000) 5000⟩, false⟩⟩ : Lns) = G at hD ⊢
  have hn : G.n = 1 := by rw [← hG]; rfl
  generalize cutI w 2 300 = W at wW ⊢
  generalize cutI p.x (-5000) 5000 = X at wx hD ⊢
  generalize cutI p.y (-5000) 5000 = Y at wy hD ⊢
  have hok : DotG.ok ⟨⟨X, Y⟩, W⟩ := ⟨⟨wx, wy⟩, wW⟩
  have e2 : W.tdiv 2 = W / 2 := Int.tdiv_eq_ediv_of_nonneg (by omega)
  have e20 : (W * 7).tdiv 20 = W * 7 / 20 := Int.tdiv_eq_ediv_of_nonneg (by omega)
  have r1 : ReOK (outer ⟨⟨X, Y⟩, W⟩) := ⟨⟨show -8192 ≤ X - W.tdiv 2 - 1 by omega, show X - W.tdiv 2 - 1 ≤ 8192 by omega⟩, ⟨show -8192 ≤ Y - W.tdiv 2 - 1 by omega, show Y - W.tdiv 2 - 1 ≤ 8192 by omega⟩, ⟨show -8192 ≤ X + W.tdiv 2 + 1 by omega, show X + W.tdiv 2 + 1 ≤ 8192 by omega⟩, ⟨show -8192 ≤ Y + W.tdiv 2 + 1 by omega, show Y + W.tdiv 2 + 1 ≤ 8192 by omega⟩, show X - W.tdiv 2 - 1 ≤ X + W.tdiv 2 + 1 by omega, show Y - W.tdiv 2 - 1 ≤ Y + W.tdiv 2 + 1 by omega, fun h => by
    have h : X - W.tdiv 2 - 1 = X + W.tdiv 2 + 1 := h
    omega⟩
  have r2 : ReOK (inner ⟨⟨X, Y⟩, W⟩) := ⟨⟨show -8192 ≤ X - (W * 7).tdiv 20 by omega, show X - (W * 7).tdiv 20 ≤ 8192 by omega⟩, ⟨show -8192 ≤ Y - (W * 7).tdiv 20 by omega, show Y - (W * 7).tdiv 20 ≤ 8192 by omega⟩, ⟨show -8192 ≤ X + (W * 7).tdiv 20 by omega, show X + (W * 7).tdiv 20 ≤ 8192 by omega⟩, ⟨show -8192 ≤ Y + (W * 7).tdiv 20 by omega, show Y + (W * 7).tdiv 20 ≤ 8192 by omega⟩, show X - (W * 7).tdiv 20 ≤ X + (W * 7).tdiv 20 by omega, show Y - (W * 7).tdiv 20 ≤ Y + (W * 7).tdiv 20 by omega, fun h => by
    have h : X - (W * 7).tdiv 20 = X + (W * 7).tdiv 20 := h
    show Y - (W * 7).tdiv 20 = Y + (W * 7).tdiv 20
    omega⟩
  refine ⟨⟨⟨show 1 ≤ 9223372036854775807 by decide, fun i _ => show 2 ≤ 9223372036854775807 by decide⟩, show (0 : Int) ≤ 5000 by decide, show (5000 : Int) ≤ 32767 by decide⟩, by omega, by decide, by decide, by decide, by decide, dot_ok hn hD ⟨wx, wy⟩ wW, by omega, by omega, by omega, by omega, by omega, by omega, by omega, by omega, by omega, by omega, by omega, by omega, r1, by omega, by omega, by omega, by omega, by omega, by omega, r2, ?_⟩
  have dm : ∀ y x, mem (outR ⟨G, ⟨W, 1, 0, 16⟩⟩) y x = mem (DotG.D ⟨⟨X, Y⟩, W⟩) y x := dot_out hn hD
  have v0 : vld (Rg.L ⟨(outR ⟨G, ⟨W, 1, 0, 16⟩⟩).length, rI (outR ⟨G, ⟨W, 1, 0, 16⟩⟩)⟩) := by rw [Rg.L_of]; exact out_vld _ _
  have v1 : vld (Rg.L ⟨(Lf (outer ⟨⟨X, Y⟩, W⟩).f (outer ⟨⟨X, Y⟩, W⟩).n).length, rI (Lf (outer ⟨⟨X, Y⟩, W⟩).f (outer ⟨⟨X, Y⟩, W⟩).n)⟩) := by rw [Rg.L_of]; exact vld_rect r1
  have v2 : vld (Rg.L ⟨(Lf (inner ⟨⟨X, Y⟩, W⟩).f (inner ⟨⟨X, Y⟩, W⟩).n).length, rI (Lf (inner ⟨⟨X, Y⟩, W⟩).f (inner ⟨⟨X, Y⟩, W⟩).n)⟩) := by rw [Rg.L_of]; exact vld_rect r2
  have m1 : Rgb.cbOut Rgb.mn ⟨⟨(outR ⟨G, ⟨W, 1, 0, 16⟩⟩).length, rI (outR ⟨G, ⟨W, 1, 0, 16⟩⟩)⟩, ⟨(Lf (ReG.f ⟨X - W.tdiv 2 - 1, Y - W.tdiv 2 - 1, X + W.tdiv 2 + 1, Y + W.tdiv 2 + 1⟩) (ReG.n ⟨X - W.tdiv 2 - 1, Y - W.tdiv 2 - 1, X + W.tdiv 2 + 1, Y + W.tdiv 2 + 1⟩)).length, rI (Lf (ReG.f ⟨X - W.tdiv 2 - 1, Y - W.tdiv 2 - 1, X + W.tdiv 2 + 1, Y + W.tdiv 2 + 1⟩) (ReG.n ⟨X - W.tdiv 2 - 1, Y - W.tdiv 2 - 1, X + W.tdiv 2 + 1, Y + W.tdiv 2 + 1⟩))⟩⟩ = [] := minus_nil fun y x hm => d_outer hok (by rw [← dm]; exact hm)
  have m2 : Rgb.cbOut Rgb.mn ⟨⟨(Lf (ReG.f ⟨X - (W * 7).tdiv 20, Y - (W * 7).tdiv 20, X + (W * 7).tdiv 20, Y + (W * 7).tdiv 20⟩) (ReG.n ⟨X - (W * 7).tdiv 20, Y - (W * 7).tdiv 20, X + (W * 7).tdiv 20, Y + (W * 7).tdiv 20⟩)).length, rI (Lf (ReG.f ⟨X - (W * 7).tdiv 20, Y - (W * 7).tdiv 20, X + (W * 7).tdiv 20, Y + (W * 7).tdiv 20⟩) (ReG.n ⟨X - (W * 7).tdiv 20, Y - (W * 7).tdiv 20, X + (W * 7).tdiv 20, Y + (W * 7).tdiv 20⟩))⟩, ⟨(outR ⟨G, ⟨W, 1, 0, 16⟩⟩).length, rI (outR ⟨G, ⟨W, 1, 0, 16⟩⟩)⟩⟩ = [] := minus_nil fun y x hm => by rw [dm]; exact d_inner hok hm
  have hp : 0 < (outR ⟨G, ⟨W, 1, 0, 16⟩⟩).length := Nat.pos_of_ne_zero fun h0 => by
    have h1 := dm Y X
    rw [List.length_eq_zero_iff.1 h0, d_some hok] at h1
    cases h1
  rw [m1, m2]
  exact ⟨⟨v0, v1⟩, ⟨v2, v0⟩, fun _ => ⟨⟨by decide, by decide⟩, rfl⟩, fun h => absurd (by omega) h⟩
end Go.Proofs.Ytfjbjbmbdadmhaa.Stk
