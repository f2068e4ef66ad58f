/- printworkskeep1.few; package fill: Area2, Winding, by the evaluation. -/
import Derived.Test.YtfjbjbmbdadmhaaFlf
import Derived.Test.YtfjbjbmbdadmhaaCoh
set_option linter.unusedSimpArgs false
set_option linter.unusedVariables false
namespace Go.Proofs.Ytfjbjbmbdadmhaa.Flg
open Go.RowKit Sx Num Aff Con Fla Flb Flc Fld Fle Flp Flf
set_option maxRecDepth 100000
/-! few. -/
structure FwG where
  g : Lns
  most : Int
def FwG.ok (h : FwG) : Prop := (h.g.n ≤ 9223372036854775807 ∧ ∀ i, i < h.g.n → (h.g.f i).n ≤ 9223372036854775807) ∧ 0 ≤ h.most ∧ h.most ≤ 32767
def cutP (m : Int) (p : Pt) : Pt := ⟨cutI p.x (-m) m, cutI p.y (-m) m⟩
def fwL (m : Int) (l : Li) : Li := ⟨min l.n 8, fun j => cutP m (l.f j), l.c⟩
def FwG.out (h : FwG) : Lns := ⟨min h.g.n 4, fun i => fwL h.most (h.g.f i)⟩
def fwT (h : FwG) (i : Int) : List (Nat × SV) := [(0, lnsS h.g), (1, .int .i64 h.most), (5, .osl 0 0), (6, .int .i64 i)]
def fwR (h : FwG) (i : Int) : SO := .row 0 i.toNat 2 (fun j => lst (liL (h.out.f j))) 36
def fwOut (h : FwG) : Inv := ⟨Int, fun i => (0 ≤ i ∧ i ≤ 4) ∧ i ≤ h.g.n, fun i => ⟨fwT h i, [fwR h i]⟩, fun i => (4 - i).toNat⟩
def fwIn (h : FwG) (i : Int) : Inv := ⟨Int, fun k => (0 ≤ k ∧ k ≤ 8) ∧ k ≤ (h.g.f i.toNat).n, fun k => ⟨[(7, .own 1 0), (8, .int .i64 k)] ++ fwT h i,
  [fwR h i, .cells 2 (lst [.osl 2 0, .bool (h.g.f i.toNat).c]) 36, .row 0 k.toNat 2 (fun j => lst (ptL ((h.out.f i.toNat).f j))) 34]⟩, fun k => (8 - k).toNat⟩
def spFew : FSpec := mkSpec 31 (γ := FwG) (fun | [s, .int _ m] => some ⟨⟨slLen s, lnsD s⟩, m⟩ | _ => none) (fun h => [lnsS h.g, .int .i64 h.most]) FwG.ok (fun h => lnsS h.out)
theorem ok_few : SpecOK Try.prog spFew := by
  refine spec_sound (specs := [spCut]) (all_ok (⟨ok_cut, trivial⟩)) (eqs := []) (fun _ _ h => (List.not_mem_nil h).elim) Aff.mixed Try.func31 rfl (by kernel_rfl) (fun _ _ => by kernel_rfl) (fun g => (⟨[(3, .nest (fwOut g) (fun i => [(7, .inv (fwIn g i))]))], [(2, [.own 5 36 2]), (6, [.ownC 1 0 34 2]), (11, [.cells 1])]⟩ : Ann)) (fun g => Nat.le_of_ble_eq_true (by kernel_rfl)) ?_
  rintro h hh
  refine vc_of (B := let z23 := (fwOut h);let z15 := (9223372036854775807 : Int);let z14 := (-9223372036854775808 : Int);let z11 := (8 : Nat);let z10 := (0 : Int);let z8 := (z14 ≤ z10 - h.most ∧ z10 - h.most ≤ z15);let z6 := (-h.most);let z5 := (((-2305843009213693952 : Int) ≤ z10 - h.most ∧ z10 - h.most ≤ h.most) ∧ h.most ≤ (4611686018427387903 : Int) ∧ h.most - (z10 - h.most) ≤ (4611686018427387903 : Int));let z1 := (IntKind.i64 = IntKind.i64); let z16 := (Sx.Ask z1 ∧ Sx.Ask (z10 - h.most = z10 - h.most)); let z4 := (Sx.Ask z1 ∧ Sx.Ask (h.most = h.most));let z0 := (Sx.Ask (h.g.n = h.g.n) ∧ ∀ (i : Nat), let z17 := (h.g.f i); i < h.g.n → (True ∧ Sx.Ask (z17.n = z17.n) ∧ ∀ (i_1 : Nat), i_1 < z17.n → (True ∧ Sx.Ask z1 ∧ Sx.Ask ((z17.f i_1).x = (z17.f i_1).x)) ∧ Sx.Ask z1 ∧ Sx.Ask ((z17.f i_1).y = (z17.f i_1).y)) ∧ Sx.Ask (z17.c = z17.c));True ∧ True ∧ True ∧ (∃ (g : Int), Sx.Ask (z23.pre g) ∧ (z0 ∧ z4 ∧ True ∧ (Sx.Ask z1 ∧ Sx.Ask (z10 = g)) ∧ True) ∧ (Sx.Ask ((0 : Nat) = g.toNat) ∧ ∀ (i : Nat), i < g.toNat → (True ∧ False) ∧ False) ∧ True) ∧ ∀ (g : Int), let z13 := (z10 ≤ g ∧ g < (↑h.g.n : Int)); let z9 := (z14 ≤ g + (1 : Int) ∧ g + (1 : Int) ≤ z15); let z7 := (g.toNat + (1 : Nat) ≤ (9223372036854775807 : Nat) ∧ (g.toNat + (1 : Nat)) * (32 : Nat) ≤ (140737488355328 : Nat)); let z3 := (h.g.f g.toNat); let z24 := ((True ∧ True) ∧ Sx.Ask (z3.c = z3.c)); let z2 := (Sx.Ask (g.toNat = g.toNat) ∧ ∀ (i : Nat), let z18 := (h.g.f i); i < g.toNat → (True ∧ Sx.Ask (Min.min z18.n z11 = Min.min z18.n z11) ∧ ∀ (i_1 : Nat), i_1 < Min.min z18.n z11 → (True ∧ Sx.Ask z1 ∧ Sx.Ask (cutI (z18.f i_1).x z6 h.most = cutI (z18.f i_1).x z6 h.most)) ∧ Sx.Ask z1 ∧ Sx.Ask (cutI (z18.f i_1).y z6 h.most = cutI (z18.f i_1).y z6 h.most)) ∧ Sx.Ask (z18.c = z18.c)); z23.pre g → True ∧ True ∧ True ∧ True ∧ True ∧ Sx.Br (decide (g < (↑h.g.n : Int))) (True ∧ True ∧ True ∧ Sx.Br (decide (g < (4 : Int))) (True ∧ True ∧ Sx.Ask z13 ∧ True ∧ True ∧ True ∧ True ∧ True ∧ True ∧ (∃ (g_1 : Int), Sx.Ask ((fwIn h g).pre g_1) ∧ (Sx.Ask ((0 : Nat) = (0 : Nat)) ∧ (Sx.Ask z1 ∧ Sx.Ask (z10 = g_1)) ∧ z0 ∧ z4 ∧ True ∧ (Sx.Ask z1 ∧ Sx.Ask (g = g)) ∧ True) ∧ z2 ∧ z24 ∧ (Sx.Ask ((0 : Nat) = g_1.toNat) ∧ ∀ (i : Nat), i < g_1.toNat → (True ∧ False) ∧ False) ∧ True) ∧ ∀ (g_1 : Int), let z12 := (z3.f g_1.toNat); (fwIn h g).pre g_1 → True ∧ True ∧ True ∧ Sx.Ask z13 ∧ True ∧ True ∧ True ∧ True ∧ True ∧ Sx.Br (decide (g_1 < (↑z3.n : Int))) (True ∧ True ∧ True ∧ Sx.Br (decide (g_1 < (8 : Int))) (True ∧ True ∧ Sx.Ask z13 ∧ True ∧ True ∧ True ∧ Sx.Ask (z10 ≤ g_1 ∧ g_1 < (↑z3.n : Int)) ∧ True ∧ True ∧ True ∧ True ∧ True ∧ True ∧ True ∧ True ∧ Sx.Ask z8 ∧ True ∧ (((Sx.Ask z1 ∧ Sx.Ask (z12.x = z12.x)) ∧ z16 ∧ z4 ∧ True) ∧ Sx.Ask z5) ∧ True ∧ True ∧ True ∧ Sx.Ask z8 ∧ True ∧ (((Sx.Ask z1 ∧ Sx.Ask (z12.y = z12.y)) ∧ z16 ∧ z4 ∧ True) ∧ Sx.Ask z5) ∧ True ∧ True ∧ Sx.Ask (g_1.toNat + (1 : Nat) ≤ (9223372036854775807 : Nat) ∧ (g_1.toNat + (1 : Nat)) * (16 : Nat) ≤ (140737488355328 : Nat)) ∧ True ∧ True ∧ True ∧ Sx.Ask (z14 ≤ g_1 + (1 : Int) ∧ g_1 + (1 : Int) ≤ z15) ∧ True ∧ ∃ (g' : Int), Sx.Ask ((fwIn h g).pre g') ∧ ((Sx.Ask ((0 : Nat) = (0 : Nat)) ∧ (Sx.Ask z1 ∧ Sx.Ask (g_1 + (1 : Int) = g')) ∧ z0 ∧ z4 ∧ True ∧ (Sx.Ask z1 ∧ Sx.Ask (g = g)) ∧ True) ∧ z2 ∧ z24 ∧ (Sx.Ask (g_1.toNat + (1 : Nat) = g'.toNat) ∧ ∀ (i : Nat), i < g'.toNat → (True ∧ Sx.Ask z1 ∧ Sx.Ask ((bif decide (i < g_1.toNat) then cutI (z3.f i).x z6 h.most else cutI z12.x (z10 - h.most) h.most) = cutI (z3.f i).x z6 h.most)) ∧ Sx.Ask z1 ∧ Sx.Ask ((bif decide (i < g_1.toNat) then cutI (z3.f i).y z6 h.most else cutI z12.y (z10 - h.most) h.most) = cutI (z3.f i).y z6 h.most)) ∧ True) ∧ Sx.Ask ((fwIn h g).meas g' < (fwIn h g).meas g_1)) (True ∧ True ∧ True ∧ Sx.Ask z7 ∧ True ∧ True ∧ Sx.Ask z9 ∧ True ∧ ∃ (g' : Int), Sx.Ask (z23.pre g') ∧ ((z0 ∧ z4 ∧ True ∧ (Sx.Ask z1 ∧ Sx.Ask (g + (1 : Int) = g')) ∧ True) ∧ (Sx.Ask (g.toNat + (1 : Nat) = g'.toNat) ∧ ∀ (i : Nat), let z19 := (h.g.f i); i < g'.toNat → (True ∧ Sx.Ask ((bif decide (i < g.toNat) then Min.min z19.n z11 else g_1.toNat) = Min.min z19.n z11) ∧ ∀ (i_1 : Nat), i_1 < Min.min z19.n z11 → (True ∧ Sx.Ask z1 ∧ Sx.Ask ((bif decide (i < g.toNat) then cutI (z19.f i_1).x z6 h.most else cutI (z3.f i_1).x z6 h.most) = cutI (z19.f i_1).x z6 h.most)) ∧ Sx.Ask z1 ∧ Sx.Ask ((bif decide (i < g.toNat) then cutI (z19.f i_1).y z6 h.most else cutI (z3.f i_1).y z6 h.most) = cutI (z19.f i_1).y z6 h.most)) ∧ Sx.Ask ((bif decide (i < g.toNat) then z19.c else z3.c) = z19.c)) ∧ True) ∧ Sx.Ask (z23.meas g' < z23.meas g))) (True ∧ True ∧ True ∧ True ∧ Sx.Ask z7 ∧ True ∧ True ∧ Sx.Ask z9 ∧ True ∧ ∃ (g' : Int), Sx.Ask (z23.pre g') ∧ ((z0 ∧ z4 ∧ True ∧ (Sx.Ask z1 ∧ Sx.Ask (g + (1 : Int) = g')) ∧ True) ∧ (Sx.Ask (g.toNat + (1 : Nat) = g'.toNat) ∧ ∀ (i : Nat), let z20 := (h.g.f i); i < g'.toNat → (True ∧ Sx.Ask ((bif decide (i < g.toNat) then Min.min z20.n z11 else g_1.toNat) = Min.min z20.n z11) ∧ ∀ (i_1 : Nat), i_1 < Min.min z20.n z11 → (True ∧ Sx.Ask z1 ∧ Sx.Ask ((bif decide (i < g.toNat) then cutI (z20.f i_1).x z6 h.most else cutI (z3.f i_1).x z6 h.most) = cutI (z20.f i_1).x z6 h.most)) ∧ Sx.Ask z1 ∧ Sx.Ask ((bif decide (i < g.toNat) then cutI (z20.f i_1).y z6 h.most else cutI (z3.f i_1).y z6 h.most) = cutI (z20.f i_1).y z6 h.most)) ∧ Sx.Ask ((bif decide (i < g.toNat) then z20.c else z3.c) = z20.c)) ∧ True) ∧ Sx.Ask (z23.meas g' < z23.meas g))) (True ∧ True ∧ True ∧ Sx.Ask (g.toNat = Min.min h.g.n (4 : Nat)) ∧ ∀ (i : Nat), let z21 := (h.g.f i); i < Min.min h.g.n (4 : Nat) → (True ∧ Sx.Ask (Min.min z21.n z11 = Min.min z21.n z11) ∧ ∀ (i_1 : Nat), i_1 < Min.min z21.n z11 → (True ∧ Sx.Ask z1 ∧ Sx.Ask (cutI (z21.f i_1).x z6 h.most = cutI (z21.f i_1).x z6 h.most)) ∧ Sx.Ask z1 ∧ Sx.Ask (cutI (z21.f i_1).y z6 h.most = cutI (z21.f i_1).y z6 h.most)) ∧ Sx.Ask (z21.c = z21.c))) (True ∧ True ∧ True ∧ True ∧ Sx.Ask (g.toNat = Min.min h.g.n (4 : Nat)) ∧ ∀ (i : Nat), let z22 := (h.g.f i); i < Min.min h.g.n (4 : Nat) → (True ∧ Sx.Ask (Min.min z22.n z11 = Min.min z22.n z11) ∧ ∀ (i_1 : Nat), i_1 < Min.min z22.n z11 → (True ∧ Sx.Ask z1 ∧ Sx.Ask (cutI (z22.f i_1).x z6 h.most = cutI (z22.f i_1).x z6 h.most)) ∧ Sx.Ask z1 ∧ Sx.Ask (cutI (z22.f i_1).y z6 h.most = cutI (z22.f i_1).y z6 h.most)) ∧ Sx.Ask (z22.c = z22.c))) (by kernel_rfl) ?_
  simp only [ask_iff, br_iff, eq_self, true_and, and_true, implies_true, forall_const, decide_eq_true_eq, decide_eq_false_iff_not, ne_eq, Nat.mul_one, Nat.add_zero, Nat.zero_add, Int.toNat_natCast, and_self, List.append_assoc, false_and, and_false]
  obtain ⟨⟨hn, hm⟩, h0, h1⟩ := hh
  have stop : ∀ i : Int, (0 ≤ i ∧ i ≤ 4) ∧ i ≤ h.g.n → (¬ i < h.g.n ∨ ¬ i < 4) → i.toNat = min h.g.n 4 := fun i hi hc => by omega
  refine ⟨⟨0, ⟨⟨by omega, by omega⟩, by omega⟩, rfl, rfl, fun i hi => absurd hi (Nat.not_lt_zero i)⟩, fun i hi => ?_⟩
  have hi : (0 ≤ i ∧ i ≤ 4) ∧ i ≤ h.g.n := hi
  refine ⟨fun a1 => ⟨fun a2 => ?_, fun a2 => stop i hi (.inr a2)⟩, fun a1 => stop i hi (.inl a1)⟩
  clear stop
  have hmi := hm i.toNat (by omega)
  refine ⟨⟨hi.1.1, a1⟩, ⟨0, ⟨⟨by omega, by omega⟩, by omega⟩, rfl, rfl, fun i hi => absurd hi (Nat.not_lt_zero i)⟩, fun k hk => ?_⟩
  have hk : (0 ≤ k ∧ k ≤ 8) ∧ k ≤ (h.g.f i.toNat).n := hk
  have e0 : 0 - h.most = -h.most := by omega
  have c1 : (-2305843009213693952 ≤ -h.most ∧ -h.most ≤ h.most) ∧ h.most ≤ 4611686018427387903 ∧ h.most - -h.most ≤ 4611686018427387903 := by omega
  have c2 : -9223372036854775808 ≤ -h.most ∧ -h.most ≤ 9223372036854775807 := by omega
  have fin : (¬ k < (h.g.f i.toNat).n ∨ ¬ k < 8) → (i.toNat + 1 ≤ 9223372036854775807 ∧ (i.toNat + 1) * 32 ≤ 140737488355328) ∧ (-9223372036854775808 ≤ i + 1 ∧ i + 1 ≤ 9223372036854775807) ∧ ∃ g' : Int, (fwOut h).pre g' ∧ (i + 1 = g' ∧ i.toNat + 1 = g'.toNat ∧ ∀ (j : Nat), j < g'.toNat → ((bif decide (j < i.toNat) then min (h.g.f j).n 8 else k.toNat) = min (h.g.f j).n 8 ∧ ∀ r, r < min (h.g.f j).n 8 →
      (bif decide (j < i.toNat) then cutI ((h.g.f j).f r).x (-h.most) h.most else cutI ((h.g.f i.toNat).f r).x (-h.most) h.most) = cutI ((h.g.f j).f r).x (-h.most) h.most ∧ (bif decide (j < i.toNat) then cutI ((h.g.f j).f r).y (-h.most) h.most else cutI ((h.g.f i.toNat).f r).y (-h.most) h.most) = cutI ((h.g.f j).f r).y (-h.most) h.most) ∧
      (bif decide (j < i.toNat) then (h.g.f j).c else (h.g.f i.toNat).c) = (h.g.f j).c) ∧ (fwOut h).meas g' < (fwOut h).meas i := fun hc => by
    refine ⟨by omega, by omega, i + 1, ⟨⟨by omega, by omega⟩, by omega⟩, ⟨rfl, by omega, fun j hj => ?_⟩, ?_⟩
    · by_cases hji : j < i.toNat
      · rw [decide_eq_true hji]; exact ⟨⟨rfl, fun _ _ => ⟨rfl, rfl⟩⟩, rfl⟩
      · obtain rfl : j = i.toNat := by omega
        rw [decide_eq_false hji]
        refine ⟨⟨?_, fun _ _ => ⟨rfl, rfl⟩⟩, rfl⟩
        show k.toNat = _
        omega
    · show (4 - (i + 1)).toNat < (4 - i).toNat
      omega
  rw [e0]
  refine ⟨⟨hi.1.1, a1⟩, fun b1 => ⟨fun b2 => ?_, fun b2 => fin (.inr b2)⟩, fun b1 => fin (.inl b1)⟩
  clear fin
  refine ⟨⟨hi.1.1, a1⟩, ⟨hk.1.1, b1⟩, c2, c1, c2, c1, by omega, by omega, k + 1, ⟨⟨by omega, by omega⟩, by omega⟩, ⟨rfl, by omega, fun j hj => ?_⟩, ?_⟩
  · by_cases hji : j < k.toNat
    · rw [decide_eq_true hji]; exact ⟨rfl, rfl⟩
    · obtain rfl : j = k.toNat := by omega
      rw [decide_eq_false hji]; exact ⟨rfl, rfl⟩
  · show (8 - (k + 1)).toNat < (8 - k).toNat
    omega
/-! Area2. -/
def cr (a b : Pt) : Int := b.x * a.y - a.x * b.y
def liAr (l : Li) : Nat → Int
  | 0 => 0
  | j + 1 => liAr l j + cr (l.f j) (l.f ((j + 1) % l.n))
def lnAr (g : Lns) : Nat → Int
  | 0 => 0
  | i + 1 => lnAr g i + liAr (g.f i) (g.f i).n
theorem cr_in {a b : Pt} (ha : small 32767 a) (hb : small 32767 b) : -2147352578 ≤ cr a b ∧ cr a b ≤ 2147352578 := by
  have h1 := Fla.mul_in (A := 32767) (X := 32767) hb.1 ha.2
  have h2 := Fla.mul_in (A := 32767) (X := 32767) ha.1 hb.2
  unfold cr
  omega
theorem ar_in {l : Li} (h : l.fin) : ∀ j, j ≤ l.n → -(2147352578 * (j : Int)) ≤ liAr l j ∧ liAr l j ≤ 2147352578 * (j : Int)
  | 0, _ => ⟨Int.le_refl _, Int.le_refl _⟩
  | j + 1, hj => by
    have := ar_in h j (by omega)
    have := cr_in (h.2 j (by omega)) (h.2 _ (Nat.mod_lt (j + 1) (by omega)))
    show _ ≤ liAr l j + cr _ _ ∧ liAr l j + cr _ _ ≤ _
    omega
theorem lar_in {g : Lns} (h : g.fin) : ∀ i, i ≤ g.n → -(2198889039872 * (i : Int)) ≤ lnAr g i ∧ lnAr g i ≤ 2198889039872 * (i : Int)
  | 0, _ => ⟨Int.le_refl _, Int.le_refl _⟩
  | i + 1, hi => by
    have := lar_in h i (by omega)
    have h2 := (h.2 i (by omega)).1
    have := ar_in (h.2 i (by omega)) _ (Nat.le_refl _)
    show _ ≤ lnAr g i + liAr (g.f i) _ ∧ lnAr g i + liAr (g.f i) _ ≤ _
    omega
def arOut (g : Lns) : Inv := ⟨Nat, fun i => i ≤ g.n, fun i => ⟨[(5, .int .i64 (lnAr g i)), (16, lnsS g), (17, .int .i64 g.n), (18, .int .i64 i)], []⟩, fun i => g.n - i⟩
def arIn (g : Lns) (i : Nat) : Inv := ⟨Nat, fun j => j ≤ (g.f i).n, fun j => ⟨[(5, .int .i64 (lnAr g i + liAr (g.f i) j)), (7, .own 0 0), (16, lnsS g), (17, .int .i64 g.n), (18, .int .i64 i), (23, .sl (g.f i).n 2 (fun j => lst (ptL ((g.f i).f j)))), (24, .int .i64 (g.f i).n), (25, .int .i64 j)],
  [.cells 2 (lst (liL (g.f i))) 36]⟩, fun j => (g.f i).n - j⟩
def spArea2 : FSpec := mkSpec 98 (γ := Lns) (fun | [s] => some ⟨slLen s, lnsD s⟩ | _ => none) (fun g => [lnsS g]) Lns.fin (fun g => .tup 2 (lst [.int .i64 (lnAr g g.n), .int .i64 0]))
theorem ok_area2 : SpecOK Try.prog spArea2 := by
  refine spec_sound (specs := [spChkFi]) (all_ok (⟨ok_chkFi, trivial⟩)) (eqs := []) (fun _ _ h => (List.not_mem_nil h).elim) Aff.mixed Try.func98 rfl (by kernel_rfl) (fun _ _ => by kernel_rfl) (fun g => (⟨[(6, .nest (arOut g) (fun i => [(9, .inv (arIn g i))]))], []⟩ : Ann)) (fun g => Nat.le_of_ble_eq_true (by kernel_rfl)) ?_
  rintro g hg
  refine vc_of (B := let z14 := (0 : Int);let z12 := (1 : Int);let z8 := (9223372036854775807 : Int);let z5 := (-9223372036854775808 : Int);let z2 := (IntKind.i64 = IntKind.i64); let z7 := (Sx.Ask z2 ∧ Sx.Ask ((↑g.n : Int) = (↑g.n : Int)));let z0 := (Sx.Ask (g.n = g.n) ∧ ∀ (i : Nat), i < g.n → (True ∧ Sx.Ask ((g.f i).n = (g.f i).n) ∧ ∀ (i_1 : Nat), let z15 := ((g.f i).f i_1); i_1 < (g.f i).n → (True ∧ Sx.Ask z2 ∧ Sx.Ask (z15.x = z15.x)) ∧ Sx.Ask z2 ∧ Sx.Ask (z15.y = z15.y)) ∧ Sx.Ask ((g.f i).c = (g.f i).c));True ∧ True ∧ True ∧ ((z0 ∧ True) ∧ Sx.Ask g.fin) ∧ True ∧ True ∧ True ∧ True ∧ True ∧ True ∧ True ∧ (∃ (g_1 : Nat), Sx.Ask ((arOut g).pre g_1) ∧ ((Sx.Ask z2 ∧ Sx.Ask (z14 = lnAr g g_1)) ∧ z0 ∧ z7 ∧ (Sx.Ask z2 ∧ Sx.Ask (z14 = (↑g_1 : Int))) ∧ True) ∧ True) ∧ ∀ (g_1 : Nat), let z16 := (arIn g g_1); let z11 := (↑g_1 : Int); let z6 := (g.f z11.toNat); let z4 := (g.f g_1); let z10 := (↑z4.n : Int); (arOut g).pre g_1 → True ∧ Sx.Br (decide (z11 < (↑g.n : Int))) (Sx.Ask (z14 ≤ z11 ∧ z11 < (↑g.n : Int)) ∧ True ∧ True ∧ True ∧ True ∧ True ∧ True ∧ True ∧ (∃ (g_2 : Nat), Sx.Ask (z16.pre g_2) ∧ ((Sx.Ask z2 ∧ Sx.Ask (lnAr g g_1 = lnAr g g_1 + liAr z4 g_2)) ∧ Sx.Ask ((0 : Nat) = (0 : Nat)) ∧ z0 ∧ z7 ∧ (Sx.Ask z2 ∧ Sx.Ask (z11 = z11)) ∧ (Sx.Ask (z6.n = z4.n) ∧ ∀ (i : Nat), i < z4.n → (True ∧ Sx.Ask z2 ∧ Sx.Ask ((z6.f i).x = (z4.f i).x)) ∧ Sx.Ask z2 ∧ Sx.Ask ((z6.f i).y = (z4.f i).y)) ∧ (Sx.Ask z2 ∧ Sx.Ask ((↑z6.n : Int) = z10)) ∧ (Sx.Ask z2 ∧ Sx.Ask (z14 = (↑g_2 : Int))) ∧ True) ∧ ((True ∧ Sx.Ask (z6.n = z4.n) ∧ ∀ (i : Nat), i < z4.n → (True ∧ Sx.Ask z2 ∧ Sx.Ask ((z6.f i).x = (z4.f i).x)) ∧ Sx.Ask z2 ∧ Sx.Ask ((z6.f i).y = (z4.f i).y)) ∧ Sx.Ask (z6.c = z4.c)) ∧ True) ∧ ∀ (g_2 : Nat), let z9 := (↑g_2 : Int); let z3 := (z4.f z9.toNat); let z1 := (z4.f ((z9 + z12).tmod z10).toNat); let z13 := (z1.x * z3.y - z3.x * z1.y); z16.pre g_2 → True ∧ Sx.Br (decide (z9 < z10)) (True ∧ Sx.Ask (z14 ≤ z9 ∧ z9 < z10) ∧ True ∧ True ∧ True ∧ True ∧ True ∧ True ∧ True ∧ Sx.Ask (z5 ≤ z9 + z12 ∧ z9 + z12 ≤ z8) ∧ True ∧ True ∧ True ∧ Sx.Ask (z10 ≠ z14) ∧ Sx.Ask (z14 ≤ (z9 + z12).tmod z10 ∧ (z9 + z12).tmod z10 < z10) ∧ True ∧ True ∧ True ∧ True ∧ True ∧ True ∧ True ∧ True ∧ Sx.Ask (z5 ≤ z1.x * z3.y ∧ z1.x * z3.y ≤ z8) ∧ True ∧ True ∧ True ∧ True ∧ Sx.Ask (z5 ≤ z3.x * z1.y ∧ z3.x * z1.y ≤ z8) ∧ Sx.Ask (z5 ≤ z1.x * z3.y - z3.x * z1.y ∧ z1.x * z3.y - z3.x * z1.y ≤ z8) ∧ Sx.Ask (z5 ≤ lnAr g g_1 + liAr z4 g_2 + z13 ∧ lnAr g g_1 + liAr z4 g_2 + z13 ≤ z8) ∧ True ∧ Sx.Ask (z5 ≤ z9 + z12 ∧ z9 + z12 ≤ z8) ∧ True ∧ ∃ (g' : Nat), Sx.Ask (z16.pre g') ∧ (((Sx.Ask z2 ∧ Sx.Ask (lnAr g g_1 + liAr z4 g_2 + z13 = lnAr g g_1 + liAr z4 g')) ∧ Sx.Ask ((0 : Nat) = (0 : Nat)) ∧ z0 ∧ z7 ∧ (Sx.Ask z2 ∧ Sx.Ask (z11 = z11)) ∧ (Sx.Ask (z4.n = z4.n) ∧ ∀ (i : Nat), i < z4.n → (True ∧ Sx.Ask z2 ∧ Sx.Ask ((z4.f i).x = (z4.f i).x)) ∧ Sx.Ask z2 ∧ Sx.Ask ((z4.f i).y = (z4.f i).y)) ∧ (Sx.Ask z2 ∧ Sx.Ask (z10 = z10)) ∧ (Sx.Ask z2 ∧ Sx.Ask (z9 + z12 = (↑g' : Int))) ∧ True) ∧ ((True ∧ Sx.Ask (z4.n = z4.n) ∧ ∀ (i : Nat), i < z4.n → (True ∧ Sx.Ask z2 ∧ Sx.Ask ((z4.f i).x = (z4.f i).x)) ∧ Sx.Ask z2 ∧ Sx.Ask ((z4.f i).y = (z4.f i).y)) ∧ Sx.Ask (z4.c = z4.c)) ∧ True) ∧ Sx.Ask (z16.meas g' < z16.meas g_2)) (Sx.Ask (z5 ≤ z11 + z12 ∧ z11 + z12 ≤ z8) ∧ True ∧ ∃ (g' : Nat), Sx.Ask ((arOut g).pre g') ∧ (((Sx.Ask z2 ∧ Sx.Ask (lnAr g g_1 + liAr z4 g_2 = lnAr g g')) ∧ z0 ∧ z7 ∧ (Sx.Ask z2 ∧ Sx.Ask (z11 + z12 = (↑g' : Int))) ∧ True) ∧ True) ∧ Sx.Ask ((arOut g).meas g' < (arOut g).meas g_1))) (True ∧ True ∧ True ∧ True ∧ (True ∧ Sx.Ask z2 ∧ Sx.Ask (lnAr g g_1 = lnAr g g.n)) ∧ Sx.Ask z2 ∧ Sx.Ask (z14 = z14))) (by kernel_rfl) ?_
  simp only [ask_iff, br_iff, eq_self, true_and, and_true, implies_true, forall_const, decide_eq_true_eq, decide_eq_false_iff_not, ne_eq, Nat.mul_one, Nat.add_zero, Nat.zero_add, Int.toNat_natCast, and_self, List.append_assoc, false_and, and_false]
  have hn := hg.1
  refine ⟨hg, ⟨0, Nat.zero_le _, rfl, rfl⟩, fun i hi => ⟨fun hlt => ?_, fun hge => ?_⟩⟩
  · have hi : i ≤ g.n := hi
    have hp := hg.2 i (by omega)
    have hn2 := hp.1
    have hl1 := lar_in hg i hi
    refine ⟨by omega, ⟨0, Nat.zero_le _, by show _ = _ + (0 : Int); omega, rfl⟩, fun j hj => ⟨fun hjn => ?_, fun hjn => ?_⟩⟩
    · have hj : j ≤ (g.f i).n := hj
      have hjl : j < (g.f i).n := by omega
      have hm : (j + 1) % (g.f i).n < (g.f i).n := Nat.mod_lt _ (by omega)
      have ht : ((j : Int) + 1).tmod ((g.f i).n : Int) = (((j + 1) % (g.f i).n : Nat) : Int) := rfl
      have ha := hp.2 j hjl
      have hb := hp.2 _ hm
      have hl2 := ar_in hp j hj
      have hpre : (arIn g i).pre (j + 1) := by show j + 1 ≤ (g.f i).n; omega
      have hmeas : (arIn g i).meas (j + 1) < (arIn g i).meas j := by
        show (g.f i).n - (j + 1) < (g.f i).n - j
        omega
      have h0 : liAr (g.f i) (j + 1) = liAr (g.f i) j + cr ((g.f i).f j) ((g.f i).f ((j + 1) % (g.f i).n)) := rfl
      have hm0 : (0 : Int) ≤ (((j + 1) % (g.f i).n : Nat) : Int) ∧ (((j + 1) % (g.f i).n : Nat) : Int) < ((g.f i).n : Int) := by omega
      rw [ht, Int.toNat_natCast]
      clear ht hm
      generalize (j + 1) % (g.f i).n = q at *
      generalize (g.f i).f j = a at *
      generalize (g.f i).f q = b at *
      have hc := cr_in ha hb
      have h1 := Fla.mul_in (A := 32767) (X := 32767) hb.1 ha.2
      have h2 := Fla.mul_in (A := 32767) (X := 32767) ha.1 hb.2
      unfold cr at hc h0
      refine ⟨by omega, by omega, by omega, hm0, by omega, by omega, by omega, by omega, by omega, j + 1, hpre, ⟨by rw [h0]; omega, rfl⟩, hmeas⟩
    · have hj : j ≤ (g.f i).n := hj
      obtain rfl : j = (g.f i).n := by omega
      exact ⟨by omega, i + 1, (show i + 1 ≤ g.n by omega), ⟨rfl, rfl⟩, by show g.n - (i + 1) < g.n - i; omega⟩
  · have hi : i ≤ g.n := hi
    rw [show i = g.n by omega]
/-! Winding. -/
structure WiG where
  g : Lns
  x : Int
  y : Int
def WiG.C (h : WiG) : List Cr := crs (eI h.g.E) h.y h.g.E.length
end Go.Proofs.Ytfjbjbmbdadmhaa.Flg
