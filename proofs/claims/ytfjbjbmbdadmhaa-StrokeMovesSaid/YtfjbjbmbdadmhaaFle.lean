/- Package fill: cross, by the evaluation. -/
import Derived.Test.YtfjbjbmbdadmhaaFld
set_option linter.unusedSimpArgs false
set_option linter.unusedVariables false
namespace Go.Proofs.Ytfjbjbmbdadmhaa.Fle
open Go.RowKit Sx Num Aff Con Fla Flb Flc Fld
set_option maxRecDepth 100000
structure CrG where
  n : Nat
  f : Nat → Ed
  y : Int
def cgD : List SV → List SO → Option CrG
  | [_, .int _ y], [.row _ n _ g _] => some ⟨n, fun i => edD (g i), y⟩
  | _, _ => none
def Ed.on (e : Ed) (y : Int) : Bool := decide (e.y ≤ y ∧ y < e.en)
/-- The crossings of a row, as they are found. -/
def cro (f : Nat → Ed) (y : Int) : Nat → List Cr
  | 0 => []
  | i + 1 => cro f y i ++ if Ed.on (f i) y = true then [⟨(f i).first y, (f i).s⟩] else []
/-- The crossings in order. -/
def crs (f : Nat → Ed) (y : Int) (n : Nat) : List Cr := srt ⟨(cro f y n).length, cI (cro f y n)⟩
theorem cro_len (f : Nat → Ed) (y : Int) : ∀ i, (cro f y i).length ≤ i
  | 0 => Nat.le_refl _
  | i + 1 => by
    have := cro_len f y i
    simp only [cro, List.length_append]
    split <;> simp <;> omega
theorem cI_app (L : List Cr) (r : Cr) (i : Nat) (h : i < L.length + 1) : cI (L ++ [r]) i = if i < L.length then cI L i else r := by
  unfold cI
  by_cases hi : i < L.length
  · rw [if_pos hi, List.getD_eq_getElem?_getD, List.getElem?_append_left hi, List.getD_eq_getElem?_getD]
  · rw [if_neg hi, show i = L.length by omega]
    simp
def crInv (g : CrG) : Inv := ⟨Nat, fun i => i ≤ g.n, fun i => ⟨[(1, .int .i64 g.y), (5, .osl 1 0), (8, .osl 0 0), (9, .int .i64 g.n), (10, .int .i64 i)], [edRow 0 g.n g.f, rowC 0 (cro g.f g.y i).length (cI (cro g.f g.y i))]⟩, fun i => g.n - i⟩
def spCross : FSpec := mkSpecM 104 [.arg 0] cgD (fun g => [.osl 0 0, .int .i64 g.y]) (fun g => [edRow 0 g.n g.f]) (fun g => (∀ i, i < g.n → (g.f i).ok) ∧ g.n ≤ 4294967296 ∧ -8192 ≤ g.y ∧ g.y ≤ 8192)
  (fun g => .sl (crs g.f g.y g.n).length 2 (fun i => lst (crL (cI (crs g.f g.y g.n) i)))) (fun g => [edRow 0 g.n g.f])
theorem ok_cross : SpecOK Try.prog spCross := by
  refine spec_soundM (specs := [spFirst, Fld.spSort]) (all_ok (⟨ok_first, Fld.ok_sort, trivial⟩)) (eqs := []) (fun _ _ h => (List.not_mem_nil h).elim) Aff.mixed Try.func104 rfl (by kernel_rfl) (fun _ _ => by kernel_rfl) (fun g => (⟨[(3, .inv (crInv g))], [(2, [.own 5 150 2])]⟩ : Ann)) false (fun g => Nat.le_of_ble_eq_true (by kernel_rfl)) ?_
  rintro g hg
  refine vc_of (B := let z10 := (crs g.f g.y g.n);let z8 := (crInv g);let z1 := (IntKind.i64 = IntKind.i64); let z6 := (Sx.Ask z1 ∧ Sx.Ask (g.y = g.y)); let z5 := (Sx.Ask z1 ∧ Sx.Ask ((↑g.n : Int) = (↑g.n : Int)));let z0 := (Sx.Ask (g.n = g.n) ∧ ∀ (i : Nat), i < g.n → (((((True ∧ Sx.Ask z1 ∧ Sx.Ask ((g.f i).x = (g.f i).x)) ∧ Sx.Ask z1 ∧ Sx.Ask ((g.f i).y = (g.f i).y)) ∧ Sx.Ask z1 ∧ Sx.Ask ((g.f i).en = (g.f i).en)) ∧ Sx.Ask z1 ∧ Sx.Ask ((g.f i).dx = (g.f i).dx)) ∧ Sx.Ask z1 ∧ Sx.Ask ((g.f i).dy = (g.f i).dy)) ∧ Sx.Ask z1 ∧ Sx.Ask ((g.f i).s = (g.f i).s));True ∧ True ∧ True ∧ True ∧ True ∧ (∃ (g_1 : Nat), Sx.Ask (z8.pre g_1) ∧ True ∧ (z6 ∧ True ∧ True ∧ z5 ∧ (Sx.Ask z1 ∧ Sx.Ask ((0 : Int) = (↑g_1 : Int))) ∧ True) ∧ z0 ∧ (Sx.Ask ((0 : Nat) = (cro g.f g.y g_1).length) ∧ ∀ (i : Nat), i < (cro g.f g.y g_1).length → (True ∧ False) ∧ False) ∧ True) ∧ ∀ (g_1 : Nat), let z7 := (↑g_1 : Int); let z4 := ((-9223372036854775808 : Int) ≤ z7 + (1 : Int) ∧ z7 + (1 : Int) ≤ (9223372036854775807 : Int)); let z3 := (g.f z7.toNat); let z2 := (cro g.f g.y g_1); z8.pre g_1 → True ∧ Sx.Br (decide (z7 < (↑g.n : Int))) (Sx.Ask ((0 : Int) ≤ z7 ∧ z7 < (↑g.n : Int)) ∧ Sx.Ask (z7.toNat < g.n) ∧ True ∧ True ∧ True ∧ True ∧ True ∧ True ∧ True ∧ Sx.Br (decide (z3.y ≤ g.y)) (True ∧ True ∧ True ∧ True ∧ True ∧ Sx.Br (decide (g.y < z3.en)) (True ∧ True ∧ True ∧ ((((((((True ∧ Sx.Ask z1 ∧ Sx.Ask (z3.x = z3.x)) ∧ Sx.Ask z1 ∧ Sx.Ask (z3.y = z3.y)) ∧ Sx.Ask z1 ∧ Sx.Ask (z3.en = z3.en)) ∧ Sx.Ask z1 ∧ Sx.Ask (z3.dx = z3.dx)) ∧ Sx.Ask z1 ∧ Sx.Ask (z3.dy = z3.dy)) ∧ Sx.Ask z1 ∧ Sx.Ask (z3.s = z3.s)) ∧ z6 ∧ True) ∧ Sx.Ask (z3.ok ∧ (-32767 : Int) ≤ g.y ∧ g.y ≤ (32767 : Int))) ∧ True ∧ True ∧ True ∧ True ∧ Sx.Ask (z2.length + (1 : Nat) ≤ (9223372036854775807 : Nat) ∧ (z2.length + (1 : Nat)) * (16 : Nat) ≤ (140737488355328 : Nat)) ∧ True ∧ Sx.Ask z4 ∧ True ∧ ∃ (g' : Nat), let z11 := (cro g.f g.y g'); Sx.Ask (z8.pre g') ∧ True ∧ ((z6 ∧ True ∧ True ∧ z5 ∧ (Sx.Ask z1 ∧ Sx.Ask (z7 + (1 : Int) = (↑g' : Int))) ∧ True) ∧ z0 ∧ (Sx.Ask (z2.length + (1 : Nat) = z11.length) ∧ ∀ (i : Nat), i < z11.length → (True ∧ Sx.Ask z1 ∧ Sx.Ask ((bif decide (i < z2.length) then (Fld.cI z2 i).x else z3.first g.y) = (Fld.cI z11 i).x)) ∧ Sx.Ask z1 ∧ Sx.Ask ((bif decide (i < z2.length) then (Fld.cI z2 i).s else z3.s) = (Fld.cI z11 i).s)) ∧ True) ∧ Sx.Ask (z8.meas g' < z8.meas g_1)) (Sx.Ask z4 ∧ True ∧ ∃ (g' : Nat), let z12 := (cro g.f g.y g'); Sx.Ask (z8.pre g') ∧ True ∧ ((z6 ∧ True ∧ True ∧ z5 ∧ (Sx.Ask z1 ∧ Sx.Ask (z7 + (1 : Int) = (↑g' : Int))) ∧ True) ∧ z0 ∧ (Sx.Ask (z2.length = z12.length) ∧ ∀ (i : Nat), i < z12.length → (True ∧ Sx.Ask z1 ∧ Sx.Ask ((Fld.cI z2 i).x = (Fld.cI z12 i).x)) ∧ Sx.Ask z1 ∧ Sx.Ask ((Fld.cI z2 i).s = (Fld.cI z12 i).s)) ∧ True) ∧ Sx.Ask (z8.meas g' < z8.meas g_1))) (True ∧ Sx.Ask z4 ∧ True ∧ ∃ (g' : Nat), let z13 := (cro g.f g.y g'); Sx.Ask (z8.pre g') ∧ True ∧ ((z6 ∧ True ∧ True ∧ z5 ∧ (Sx.Ask z1 ∧ Sx.Ask (z7 + (1 : Int) = (↑g' : Int))) ∧ True) ∧ z0 ∧ (Sx.Ask (z2.length = z13.length) ∧ ∀ (i : Nat), i < z13.length → (True ∧ Sx.Ask z1 ∧ Sx.Ask ((Fld.cI z2 i).x = (Fld.cI z13 i).x)) ∧ Sx.Ask z1 ∧ Sx.Ask ((Fld.cI z2 i).s = (Fld.cI z13 i).s)) ∧ True) ∧ Sx.Ask (z8.meas g' < z8.meas g_1))) (True ∧ ((True ∧ (True ∧ (Sx.Ask ((129 : Nat) = (129 : Go.FuncId)) ∧ True) ∧ True) ∧ (Sx.Ask (z2.length = z2.length) ∧ ∀ (i : Nat), i < z2.length → (True ∧ Sx.Ask z1 ∧ Sx.Ask ((Fld.cI z2 i).x = (Fld.cI z2 i).x)) ∧ Sx.Ask z1 ∧ Sx.Ask ((Fld.cI z2 i).s = (Fld.cI z2 i).s)) ∧ True) ∧ Sx.Ask (z2.length ≤ (4294967296 : Nat))) ∧ True ∧ True ∧ True ∧ True ∧ ((Sx.Ask (z2.length = z10.length) ∧ ∀ (i : Nat), let z9 := (Fld.cI (Fld.srt (Fld.Cg.mk z2.length (Fld.cI z2))) i); i < z10.length → (True ∧ Sx.Ask z1 ∧ Sx.Ask (z9.x = (Fld.cI z10 i).x)) ∧ Sx.Ask z1 ∧ Sx.Ask (z9.s = (Fld.cI z10 i).s)) ∧ True) ∧ z0 ∧ True)) (by kernel_rfl) ?_
  simp only [ask_iff, br_iff, eq_self, true_and, and_true, implies_true, forall_const, decide_eq_true_eq, decide_eq_false_iff_not, ne_eq, Nat.mul_one, Nat.add_zero, Nat.zero_add, Int.toNat_natCast, and_self, List.append_assoc, false_and, and_false]
  obtain ⟨hok, hn, hy⟩ := hg
  refine ⟨⟨0, Nat.zero_le _, rfl, rfl, fun i hi => absurd hi (Nat.not_lt_zero _)⟩, fun i hi => ?_⟩
  have hi : i ≤ g.n := hi
  have hl := cro_len g.f g.y i
  refine ⟨fun hlt => ?_, fun hge => ?_⟩
  · have hpre : (crInv g).pre (i + 1) := by show i + 1 ≤ g.n; omega
    have hmeas : (crInv g).meas (i + 1) < (crInv g).meas i := by show g.n - (i + 1) < g.n - i; omega
    have off : Ed.on (g.f i) g.y = false → cro g.f g.y (i + 1) = cro g.f g.y i := fun h => by
      show _ ++ (if _ then _ else _) = _
      rw [h]
      exact List.append_nil _
    refine ⟨by omega, by omega, fun c1 => ⟨fun c2 => ?_, fun c2 => ?_⟩, fun c1 => ?_⟩
    · have e : cro g.f g.y (i + 1) = cro g.f g.y i ++ [⟨(g.f i).first g.y, (g.f i).s⟩] := by
        show _ ++ (if _ then _ else _) = _
        rw [if_pos (show Ed.on (g.f i) g.y = true from decide_eq_true ⟨c1, c2⟩)]
      refine ⟨⟨hok i (by omega), by omega⟩, by omega, by omega, i + 1, hpre, ⟨rfl, by rw [e]; simp, fun k hk => ?_⟩, hmeas⟩
      rw [e] at hk ⊢
      rw [cI_app _ _ _ (by simpa using hk)]
      by_cases c : k < (cro g.f g.y i).length
      · rw [decide_eq_true c, if_pos c]; exact ⟨rfl, rfl⟩
      · rw [decide_eq_false c, if_neg c]; exact ⟨rfl, rfl⟩
    · have e := off (decide_eq_false fun h => c2 h.2)
      exact ⟨by omega, i + 1, hpre, ⟨rfl, by rw [e], fun k _ => by rw [e]; exact ⟨rfl, rfl⟩⟩, hmeas⟩
    · have e := off (decide_eq_false fun h => c1 h.1)
      exact ⟨by omega, i + 1, hpre, ⟨rfl, by rw [e], fun k _ => by rw [e]; exact ⟨rfl, rfl⟩⟩, hmeas⟩
  · obtain rfl : i = g.n := by omega
    exact ⟨by omega, (srt_len ⟨(cro g.f g.y g.n).length, cI (cro g.f g.y g.n)⟩).symm, fun k _ => ⟨rfl, rfl⟩⟩
end Go.Proofs.Ytfjbjbmbdadmhaa.Fle
