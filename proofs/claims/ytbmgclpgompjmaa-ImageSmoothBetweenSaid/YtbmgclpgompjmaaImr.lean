/- printworkskeep1.pixels, boxed, by the evaluation. -/
import Derived.Test.YtbmgclpgompjmaaImq
set_option linter.unusedSimpArgs false
set_option linter.unusedVariables false
namespace Go.Proofs.Ytbmgclpgompjmaa.Imr
open Go.RowKit Sx Num Aff Afi Img Imh Imp Imq
set_option maxRecDepth 100000
structure PixG where
  n : Int
  m : Nat
  px : Nat → Ink
def PixG.at (g : PixG) (i : Nat) : Ink := if g.m = 0 then ⟨IntKind.u8.wrap (37 * i), 0, 0, 0, 0, 0, 0, 0⟩ else g.px (i % g.m)
def piInv (g : PixG) : Inv := ⟨Int, fun i => 0 ≤ i ∧ i ≤ g.n,
  fun i => ⟨[(1, inksS ⟨g.m, g.px⟩), (5, .osl 0 0), (8, .int .i64 g.n), (9, .int .i64 i)],
    [.row 0 i.toNat 8 (fun i => lst (inkL (g.at i))) 35]⟩,
  fun i => (g.n - i).toNat⟩
def spPix : FSpec := mkSpec 17 (γ := PixG) (fun | [.int _ n, s] => some ⟨n, slLen s, pxD s⟩ | _ => none) (fun g => [.int .i64 g.n, inksS ⟨g.m, g.px⟩]) (fun g => (0 ≤ g.n ∧ g.n ≤ 1024) ∧ g.m ≤ 9223372036854775807) (fun g => inksS ⟨g.n.toNat, g.at⟩)
theorem ok_pix : SpecOK Try.prog spPix := by
  refine spec_sound (specs := []) (all_ok trivial) (eqs := []) (fun _ _ h => (List.not_mem_nil h).elim) Aff.mixed Try.func17 rfl (by kernel_rfl) (fun _ _ => by kernel_rfl) (fun g => (⟨[(3, .inv (piInv g))], [(2, [.own 5 35 8])]⟩ : Ann)) (fun g => Nat.le_of_ble_eq_true (by kernel_rfl)) ?_
  rintro g hn
  refine vc_of (B := True ∧ True ∧ True ∧ True ∧ (∃ (g_1 : Int), Sx.Ask ((piInv g).pre g_1) ∧ ((Sx.Ask (g.m = g.m) ∧ ∀ (i : Nat), i < g.m → (((((((True ∧ Sx.Ask (IntKind.u8 = IntKind.u8) ∧ Sx.Ask ((g.px i).c0 = (g.px i).c0)) ∧ Sx.Ask (IntKind.u8 = IntKind.u8) ∧ Sx.Ask ((g.px i).c1 = (g.px i).c1)) ∧ Sx.Ask (IntKind.u8 = IntKind.u8) ∧ Sx.Ask ((g.px i).c2 = (g.px i).c2)) ∧ Sx.Ask (IntKind.u8 = IntKind.u8) ∧ Sx.Ask ((g.px i).c3 = (g.px i).c3)) ∧ Sx.Ask (IntKind.u8 = IntKind.u8) ∧ Sx.Ask ((g.px i).c4 = (g.px i).c4)) ∧ Sx.Ask (IntKind.u8 = IntKind.u8) ∧ Sx.Ask ((g.px i).c5 = (g.px i).c5)) ∧ Sx.Ask (IntKind.u8 = IntKind.u8) ∧ Sx.Ask ((g.px i).c6 = (g.px i).c6)) ∧ Sx.Ask (IntKind.u8 = IntKind.u8) ∧ Sx.Ask ((g.px i).c7 = (g.px i).c7)) ∧ True ∧ (Sx.Ask (IntKind.i64 = IntKind.i64) ∧ Sx.Ask (g.n = g.n)) ∧ (Sx.Ask (IntKind.i64 = IntKind.i64) ∧ Sx.Ask ((0 : Int) = g_1)) ∧ True) ∧ (Sx.Ask ((0 : Nat) = g_1.toNat) ∧ ∀ (i : Nat), i < g_1.toNat → (((((((True ∧ False) ∧ False) ∧ False) ∧ False) ∧ False) ∧ False) ∧ False) ∧ False) ∧ True) ∧ ∀ (g_1 : Int), (piInv g).pre g_1 → True ∧ Sx.Br (decide (g_1 < g.n)) (True ∧ True ∧ True ∧ Sx.Ask ((-9223372036854775808 : Int) ≤ (37 : Int) * g_1 ∧ (37 : Int) * g_1 ≤ (9223372036854775807 : Int)) ∧ Sx.Ask True ∧ True ∧ True ∧ True ∧ True ∧ True ∧ True ∧ Sx.Br (decide ((0 : Int) < (↑g.m : Int))) (True ∧ True ∧ True ∧ True ∧ Sx.Ask ((↑g.m : Int) ≠ (0 : Int)) ∧ Sx.Ask ((0 : Int) ≤ g_1.tmod (↑g.m : Int) ∧ g_1.tmod (↑g.m : Int) < (↑g.m : Int)) ∧ True ∧ True ∧ True ∧ True ∧ True ∧ Sx.Ask (g_1.toNat + (1 : Nat) ≤ (9223372036854775807 : Nat) ∧ (g_1.toNat + (1 : Nat)) * (8 : Nat) ≤ (140737488355328 : Nat)) ∧ True ∧ Sx.Ask ((-9223372036854775808 : Int) ≤ g_1 + (1 : Int) ∧ g_1 + (1 : Int) ≤ (9223372036854775807 : Int)) ∧ True ∧ ∃ (g' : Int), Sx.Ask ((piInv g).pre g') ∧ (((Sx.Ask (g.m = g.m) ∧ ∀ (i : Nat), i < g.m → (((((((True ∧ Sx.Ask (IntKind.u8 = IntKind.u8) ∧ Sx.Ask ((g.px i).c0 = (g.px i).c0)) ∧ Sx.Ask (IntKind.u8 = IntKind.u8) ∧ Sx.Ask ((g.px i).c1 = (g.px i).c1)) ∧ Sx.Ask (IntKind.u8 = IntKind.u8) ∧ Sx.Ask ((g.px i).c2 = (g.px i).c2)) ∧ Sx.Ask (IntKind.u8 = IntKind.u8) ∧ Sx.Ask ((g.px i).c3 = (g.px i).c3)) ∧ Sx.Ask (IntKind.u8 = IntKind.u8) ∧ Sx.Ask ((g.px i).c4 = (g.px i).c4)) ∧ Sx.Ask (IntKind.u8 = IntKind.u8) ∧ Sx.Ask ((g.px i).c5 = (g.px i).c5)) ∧ Sx.Ask (IntKind.u8 = IntKind.u8) ∧ Sx.Ask ((g.px i).c6 = (g.px i).c6)) ∧ Sx.Ask (IntKind.u8 = IntKind.u8) ∧ Sx.Ask ((g.px i).c7 = (g.px i).c7)) ∧ True ∧ (Sx.Ask (IntKind.i64 = IntKind.i64) ∧ Sx.Ask (g.n = g.n)) ∧ (Sx.Ask (IntKind.i64 = IntKind.i64) ∧ Sx.Ask (g_1 + (1 : Int) = g')) ∧ True) ∧ (Sx.Ask (g_1.toNat + (1 : Nat) = g'.toNat) ∧ ∀ (i : Nat), i < g'.toNat → (((((((True ∧ Sx.Ask (IntKind.u8 = IntKind.u8) ∧ Sx.Ask ((bif decide (i < g_1.toNat) then (g.at i).c0 else (g.px (g_1.tmod (↑g.m : Int)).toNat).c0) = (g.at i).c0)) ∧ Sx.Ask (IntKind.u8 = IntKind.u8) ∧ Sx.Ask ((bif decide (i < g_1.toNat) then (g.at i).c1 else (g.px (g_1.tmod (↑g.m : Int)).toNat).c1) = (g.at i).c1)) ∧ Sx.Ask (IntKind.u8 = IntKind.u8) ∧ Sx.Ask ((bif decide (i < g_1.toNat) then (g.at i).c2 else (g.px (g_1.tmod (↑g.m : Int)).toNat).c2) = (g.at i).c2)) ∧ Sx.Ask (IntKind.u8 = IntKind.u8) ∧ Sx.Ask ((bif decide (i < g_1.toNat) then (g.at i).c3 else (g.px (g_1.tmod (↑g.m : Int)).toNat).c3) = (g.at i).c3)) ∧ Sx.Ask (IntKind.u8 = IntKind.u8) ∧ Sx.Ask ((bif decide (i < g_1.toNat) then (g.at i).c4 else (g.px (g_1.tmod (↑g.m : Int)).toNat).c4) = (g.at i).c4)) ∧ Sx.Ask (IntKind.u8 = IntKind.u8) ∧ Sx.Ask ((bif decide (i < g_1.toNat) then (g.at i).c5 else (g.px (g_1.tmod (↑g.m : Int)).toNat).c5) = (g.at i).c5)) ∧ Sx.Ask (IntKind.u8 = IntKind.u8) ∧ Sx.Ask ((bif decide (i < g_1.toNat) then (g.at i).c6 else (g.px (g_1.tmod (↑g.m : Int)).toNat).c6) = (g.at i).c6)) ∧ Sx.Ask (IntKind.u8 = IntKind.u8) ∧ Sx.Ask ((bif decide (i < g_1.toNat) then (g.at i).c7 else (g.px (g_1.tmod (↑g.m : Int)).toNat).c7) = (g.at i).c7)) ∧ True) ∧ Sx.Ask ((piInv g).meas g' < (piInv g).meas g_1)) (True ∧ True ∧ True ∧ Sx.Ask (g_1.toNat + (1 : Nat) ≤ (9223372036854775807 : Nat) ∧ (g_1.toNat + (1 : Nat)) * (8 : Nat) ≤ (140737488355328 : Nat)) ∧ True ∧ Sx.Ask ((-9223372036854775808 : Int) ≤ g_1 + (1 : Int) ∧ g_1 + (1 : Int) ≤ (9223372036854775807 : Int)) ∧ True ∧ ∃ (g' : Int), Sx.Ask ((piInv g).pre g') ∧ (((Sx.Ask (g.m = g.m) ∧ ∀ (i : Nat), i < g.m → (((((((True ∧ Sx.Ask (IntKind.u8 = IntKind.u8) ∧ Sx.Ask ((g.px i).c0 = (g.px i).c0)) ∧ Sx.Ask (IntKind.u8 = IntKind.u8) ∧ Sx.Ask ((g.px i).c1 = (g.px i).c1)) ∧ Sx.Ask (IntKind.u8 = IntKind.u8) ∧ Sx.Ask ((g.px i).c2 = (g.px i).c2)) ∧ Sx.Ask (IntKind.u8 = IntKind.u8) ∧ Sx.Ask ((g.px i).c3 = (g.px i).c3)) ∧ Sx.Ask (IntKind.u8 = IntKind.u8) ∧ Sx.Ask ((g.px i).c4 = (g.px i).c4)) ∧ Sx.Ask (IntKind.u8 = IntKind.u8) ∧ Sx.Ask ((g.px i).c5 = (g.px i).c5)) ∧ Sx.Ask (IntKind.u8 = IntKind.u8) ∧ Sx.Ask ((g.px i).c6 = (g.px i).c6)) ∧ Sx.Ask (IntKind.u8 = IntKind.u8) ∧ Sx.Ask ((g.px i).c7 = (g.px i).c7)) ∧ True ∧ (Sx.Ask (IntKind.i64 = IntKind.i64) ∧ Sx.Ask (g.n = g.n)) ∧ (Sx.Ask (IntKind.i64 = IntKind.i64) ∧ Sx.Ask (g_1 + (1 : Int) = g')) ∧ True) ∧ (Sx.Ask (g_1.toNat + (1 : Nat) = g'.toNat) ∧ ∀ (i : Nat), i < g'.toNat → (((((((True ∧ Sx.Ask (IntKind.u8 = IntKind.u8) ∧ Sx.Ask ((bif decide (i < g_1.toNat) then (g.at i).c0 else IntKind.u8.wrap ((37 : Int) * g_1)) = (g.at i).c0)) ∧ Sx.Ask (IntKind.u8 = IntKind.u8) ∧ Sx.Ask ((bif decide (i < g_1.toNat) then (g.at i).c1 else (0 : Int)) = (g.at i).c1)) ∧ Sx.Ask (IntKind.u8 = IntKind.u8) ∧ Sx.Ask ((bif decide (i < g_1.toNat) then (g.at i).c2 else (0 : Int)) = (g.at i).c2)) ∧ Sx.Ask (IntKind.u8 = IntKind.u8) ∧ Sx.Ask ((bif decide (i < g_1.toNat) then (g.at i).c3 else (0 : Int)) = (g.at i).c3)) ∧ Sx.Ask (IntKind.u8 = IntKind.u8) ∧ Sx.Ask ((bif decide (i < g_1.toNat) then (g.at i).c4 else (0 : Int)) = (g.at i).c4)) ∧ Sx.Ask (IntKind.u8 = IntKind.u8) ∧ Sx.Ask ((bif decide (i < g_1.toNat) then (g.at i).c5 else (0 : Int)) = (g.at i).c5)) ∧ Sx.Ask (IntKind.u8 = IntKind.u8) ∧ Sx.Ask ((bif decide (i < g_1.toNat) then (g.at i).c6 else (0 : Int)) = (g.at i).c6)) ∧ Sx.Ask (IntKind.u8 = IntKind.u8) ∧ Sx.Ask ((bif decide (i < g_1.toNat) then (g.at i).c7 else (0 : Int)) = (g.at i).c7)) ∧ True) ∧ Sx.Ask ((piInv g).meas g' < (piInv g).meas g_1))) (True ∧ True ∧ True ∧ Sx.Ask (g_1.toNat = g.n.toNat) ∧ ∀ (i : Nat), i < g.n.toNat → (((((((True ∧ Sx.Ask (IntKind.u8 = IntKind.u8) ∧ Sx.Ask ((g.at i).c0 = (g.at i).c0)) ∧ Sx.Ask (IntKind.u8 = IntKind.u8) ∧ Sx.Ask ((g.at i).c1 = (g.at i).c1)) ∧ Sx.Ask (IntKind.u8 = IntKind.u8) ∧ Sx.Ask ((g.at i).c2 = (g.at i).c2)) ∧ Sx.Ask (IntKind.u8 = IntKind.u8) ∧ Sx.Ask ((g.at i).c3 = (g.at i).c3)) ∧ Sx.Ask (IntKind.u8 = IntKind.u8) ∧ Sx.Ask ((g.at i).c4 = (g.at i).c4)) ∧ Sx.Ask (IntKind.u8 = IntKind.u8) ∧ Sx.Ask ((g.at i).c5 = (g.at i).c5)) ∧ Sx.Ask (IntKind.u8 = IntKind.u8) ∧ Sx.Ask ((g.at i).c6 = (g.at i).c6)) ∧ Sx.Ask (IntKind.u8 = IntKind.u8) ∧ Sx.Ask ((g.at i).c7 = (g.at i).c7))) (by kernel_rfl) ?_
  simp only [ask_iff, br_iff, eq_self, true_and, and_true, implies_true, forall_const, decide_eq_true_eq, decide_eq_false_iff_not, ne_eq, Nat.mul_one, Nat.add_zero, Nat.zero_add]
  obtain ⟨⟨n0, n1⟩, hm⟩ := hn
  have step : ∀ (i : Int) (v : Ink), 0 ≤ i → v = g.at i.toNat → ∀ j : Nat, j < (i + 1).toNat → ((((((((bif decide (j < i.toNat) then (g.at j).c0 else v.c0) = (g.at j).c0) ∧ (bif decide (j < i.toNat) then (g.at j).c1 else v.c1) = (g.at j).c1) ∧ (bif decide (j < i.toNat) then (g.at j).c2 else v.c2) = (g.at j).c2) ∧ (bif decide (j < i.toNat) then (g.at j).c3 else v.c3) = (g.at j).c3) ∧ (bif decide (j < i.toNat) then (g.at j).c4 else v.c4) = (g.at j).c4) ∧ (bif decide (j < i.toNat) then (g.at j).c5 else v.c5) = (g.at j).c5) ∧ (bif decide (j < i.toNat) then (g.at j).c6 else v.c6) = (g.at j).c6) ∧ (bif decide (j < i.toNat) then (g.at j).c7 else v.c7) = (g.at j).c7 := by
    intro i v hi hv j hj
    by_cases hl : j < i.toNat
    · rw [decide_eq_true hl]; exact ⟨⟨⟨⟨⟨⟨⟨rfl, rfl⟩, rfl⟩, rfl⟩, rfl⟩, rfl⟩, rfl⟩, rfl⟩
    · rw [decide_eq_false hl]
      obtain rfl : j = i.toNat := by omega
      rw [hv]
      exact ⟨⟨⟨⟨⟨⟨⟨rfl, rfl⟩, rfl⟩, rfl⟩, rfl⟩, rfl⟩, rfl⟩, rfl⟩
  refine ⟨⟨(0 : Int), ⟨Int.le_refl 0, n0⟩, rfl, rfl, fun i hi => absurd hi (Nat.not_lt_zero _)⟩, fun i hi => ?_⟩
  have hi' : 0 ≤ i ∧ i ≤ g.n := hi
  have hms : i < g.n → (g.n - (i + 1)).toNat < (g.n - i).toNat := fun h => by omega
  refine ⟨fun hlt => ⟨by omega, fun hn0 => ?_, fun hn0 => ?_⟩, fun hge => by omega⟩
  · have t1 := Int.tmod_eq_emod_of_nonneg (b := (g.m : Int)) hi'.1
    have m1 := Int.emod_nonneg i (b := (g.m : Int)) (by omega)
    have m2 := Int.emod_lt_of_pos i (b := (g.m : Int)) hn0
    rw [t1]
    have e1 : (i % (g.m : Int)).toNat = i.toNat % g.m := by
      conv => lhs; rw [← Int.toNat_of_nonneg hi'.1]
      rw [← Int.natCast_emod]; exact Int.toNat_natCast _
    have hv : g.px (i % (g.m : Int)).toNat = g.at i.toNat := by
      unfold PixG.at
      rw [if_neg (by omega), e1]
    exact ⟨by omega, by omega, by omega, by omega, (i + 1 : Int), ⟨show 0 ≤ i + 1 by omega, show i + 1 ≤ _ by omega⟩, ⟨rfl, by omega, step i _ hi'.1 hv⟩, hms hlt⟩
  · have hv : (⟨IntKind.u8.wrap (37 * i), 0, 0, 0, 0, 0, 0, 0⟩ : Ink) = g.at i.toNat := by
      unfold PixG.at
      rw [if_pos (by omega), Int.toNat_of_nonneg hi'.1]
    exact ⟨by omega, by omega, (i + 1 : Int), ⟨show 0 ≤ i + 1 by omega, show i + 1 ≤ _ by omega⟩, ⟨rfl, by omega, step i _ hi'.1 hv⟩, hms hlt⟩
/-! boxed. -/
theorem respec {P : Program} {f : FuncId} {γ γ' : Type} {dec : List SV → Option γ} {args : γ → List SV} {pre : γ → Prop} {res : γ → SV} (h : SpecOK P (mkSpec f dec args pre res))
    {dec' : List SV → Option γ'} {args' : γ' → List SV} {pre' : γ' → Prop} {res' : γ' → SV}
    (hh : ∀ g', pre' g' → (args' g').all (isPure 6) = true ∧ ∃ g, dec (args' g') = some g ∧ mkSpec.leArgs (args' g') (args g) ∧ pre g ∧ res' g' = res g) : SpecOK P (mkSpec f dec' args' pre' res') := by
  refine ⟨h.1, fun args H HF nm y _ _ h => h, fun l H nm y hrun hp w0 X0 E w hrep hf vals ha => ?_⟩
  simp only [mkSpec] at hrun
  split at hrun
  case h_2 => cases hrun
  rename_i hpu
  split at hrun
  case h_2 => cases hrun
  rename_i g' hdec
  cases hrun
  obtain ⟨hle, ⟨hpre⟩⟩ := hp
  obtain ⟨hll, hle⟩ := leArgs_get hle
  have hr := args_pure ha hpu
  have hsz := ha.1
  obtain ⟨hpu', g, hd, hl, hp, hres⟩ := hh g' hpre
  have hA : ArgsR w (Xo X0 E H) E (args' g') vals := ⟨by omega, fun i hi => up (pureR (fun _ hb => hb) (hle i hi) (hr i (by omega)))⟩
  have := h.2.2 (args' g') H nm ⟨mkSpec.leArgs (args' g') (args g) ∧ Sx.Ask (pre g), res g, .keep⟩ (by simp only [mkSpec, hpu', hd]) ⟨hl, ⟨hp⟩⟩ w0 X0 E w hrep hf vals hA
  simp only [hres]
  exact this
def at1 (i : Nat) : Ink := bif decide (i = 1) then ⟨20, 0, 0, 0, 0, 0, 0, 0⟩ else ⟨10, 0, 0, 0, 0, 0, 0, 0⟩
def box1 : BoxG := ⟨2, 1, 2, at1, 0, 0, 16⟩
def spBox1 : FSpec := mkSpec 18 (γ := Unit) (fun _ => some ()) (fun _ => [.int .i64 2, .int .i64 1, inksS ⟨2, at1⟩, .int .i64 0, .int .i64 0, .int .i64 16]) (fun _ => True) (fun _ => .tup 2 (lst [imgS box1.img, .int .i64 0]))
theorem ok_box1 : SpecOK Try.prog spBox1 := by
  refine respec ok_box fun _ _ => ⟨by kernel_rfl, box1, rfl, ?_, ?_, rfl⟩
  · exact leArgs_refl ⟨trivial, trivial, fun i j => noOwn_lst (l := inkL (at1 i)) ⟨trivial, trivial, trivial, trivial, trivial, trivial, trivial, trivial, trivial⟩ j, trivial, trivial, trivial, trivial⟩
  · exact ⟨⟨⟨by decide, by kernel_rfl⟩, by decide⟩, by decide, by kernel_rfl⟩
instance (M z : Int) : Decidable (small M z) := inferInstanceAs (Decidable (_ ∧ _))
theorem at1_ok (i : Nat) : inkOk (at1 i) := by
  unfold at1
  cases decide (i = 1) <;> exact ⟨⟨by decide, by decide, by decide, by decide⟩, by decide, by decide, by decide, by decide⟩
theorem box1_at : (ImAt.mk box1.img 16 0).q.ok := by
  refine ⟨⟨⟨⟨by decide, by decide⟩, by decide, rfl⟩, fun i _ => at1_ok i⟩, ⟨by decide, by decide⟩, ⟨?_, ?_, ?_, ?_⟩, ?_, ?_⟩ <;> exact of_decide_eq_true (by kernel_rfl)
abbrev eqI : List (TypeId × List CK) := [(35, [.int, .int, .int, .int, .int, .int, .int, .int])]
theorem eqI_ok : AllEq Try.prog eqI := ⟨eqOK_of (m := 8) (by kernel_rfl) (by kernel_rfl) rfl (by decide) (by kernel_rfl), trivial⟩
def spBoxed : FSpec := mkSpec 15 (γ := Unit) (fun _ => some ()) (fun _ => []) (fun _ => True) (fun _ => .bool true)
theorem ok_boxed : SpecOK Try.prog spBoxed := by
  refine spec_sound (specs := [giv spBox1, spImAt]) (all_ok (⟨giv_ok ok_box1, ok_imAt, trivial⟩)) (eqs := eqI) (all_eq eqI_ok) Aff.mixed Try.func15 rfl (by kernel_rfl) (fun _ _ => by kernel_rfl) (fun g => A0) (fun g => Nat.le_of_ble_eq_true (by kernel_rfl)) ?_
  rintro _ _
  refine vc_of (B := True ∧ True ∧ True ∧ True ∧ (((Sx.Ask (IntKind.i64 = IntKind.i64) ∧ Sx.Ask ((2 : Int) = (2 : Int))) ∧ (Sx.Ask (IntKind.i64 = IntKind.i64) ∧ Sx.Ask ((1 : Int) = (1 : Int))) ∧ (Sx.Ask ((2 : Nat) = (2 : Nat)) ∧ ∀ (i : Nat), i < (2 : Nat) → (((((((True ∧ Sx.Ask (IntKind.u8 = IntKind.u8) ∧ Sx.Ask ((bif decide (i = (1 : Nat)) then (20 : Int) else (10 : Int)) = (at1 i).c0)) ∧ Sx.Ask (IntKind.u8 = IntKind.u8) ∧ Sx.Ask ((bif decide (i = (1 : Nat)) then (0 : Int) else (0 : Int)) = (at1 i).c1)) ∧ Sx.Ask (IntKind.u8 = IntKind.u8) ∧ Sx.Ask ((bif decide (i = (1 : Nat)) then (0 : Int) else (0 : Int)) = (at1 i).c2)) ∧ Sx.Ask (IntKind.u8 = IntKind.u8) ∧ Sx.Ask ((bif decide (i = (1 : Nat)) then (0 : Int) else (0 : Int)) = (at1 i).c3)) ∧ Sx.Ask (IntKind.u8 = IntKind.u8) ∧ Sx.Ask ((bif decide (i = (1 : Nat)) then (0 : Int) else (0 : Int)) = (at1 i).c4)) ∧ Sx.Ask (IntKind.u8 = IntKind.u8) ∧ Sx.Ask ((bif decide (i = (1 : Nat)) then (0 : Int) else (0 : Int)) = (at1 i).c5)) ∧ Sx.Ask (IntKind.u8 = IntKind.u8) ∧ Sx.Ask ((bif decide (i = (1 : Nat)) then (0 : Int) else (0 : Int)) = (at1 i).c6)) ∧ Sx.Ask (IntKind.u8 = IntKind.u8) ∧ Sx.Ask ((bif decide (i = (1 : Nat)) then (0 : Int) else (0 : Int)) = (at1 i).c7)) ∧ (Sx.Ask (IntKind.i64 = IntKind.i64) ∧ Sx.Ask ((0 : Int) = (0 : Int))) ∧ (Sx.Ask (IntKind.i64 = IntKind.i64) ∧ Sx.Ask ((0 : Int) = (0 : Int))) ∧ (Sx.Ask (IntKind.i64 = IntKind.i64) ∧ Sx.Ask ((16 : Int) = (16 : Int))) ∧ True) ∧ Sx.Ask True) ∧ True ∧ True ∧ True ∧ True ∧ True ∧ True ∧ True ∧ ((((((((((((((True ∧ Sx.Ask (IntKind.i64 = IntKind.i64) ∧ Sx.Ask ((2 : Int) = (2 : Int))) ∧ Sx.Ask (IntKind.i64 = IntKind.i64) ∧ Sx.Ask ((1 : Int) = (1 : Int))) ∧ Sx.Ask ((2 : Nat) = (2 : Nat)) ∧ ∀ (i : Nat), i < (2 : Nat) → (((((((True ∧ Sx.Ask (IntKind.u8 = IntKind.u8) ∧ Sx.Ask ((box1.img.px i).c0 = (box1.img.px i).c0)) ∧ Sx.Ask (IntKind.u8 = IntKind.u8) ∧ Sx.Ask ((box1.img.px i).c1 = (box1.img.px i).c1)) ∧ Sx.Ask (IntKind.u8 = IntKind.u8) ∧ Sx.Ask ((box1.img.px i).c2 = (box1.img.px i).c2)) ∧ Sx.Ask (IntKind.u8 = IntKind.u8) ∧ Sx.Ask ((box1.img.px i).c3 = (box1.img.px i).c3)) ∧ Sx.Ask (IntKind.u8 = IntKind.u8) ∧ Sx.Ask ((box1.img.px i).c4 = (box1.img.px i).c4)) ∧ Sx.Ask (IntKind.u8 = IntKind.u8) ∧ Sx.Ask ((box1.img.px i).c5 = (box1.img.px i).c5)) ∧ Sx.Ask (IntKind.u8 = IntKind.u8) ∧ Sx.Ask ((box1.img.px i).c6 = (box1.img.px i).c6)) ∧ Sx.Ask (IntKind.u8 = IntKind.u8) ∧ Sx.Ask ((box1.img.px i).c7 = (box1.img.px i).c7)) ∧ Sx.Ask ((0 : Nat) = (0 : Nat)) ∧ ∀ (i : Nat), i < (0 : Nat) → True ∧ Sx.Ask (IntKind.u8 = IntKind.u8) ∧ Sx.Ask (box1.img.sf i = box1.img.sf i)) ∧ Sx.Ask (IntKind.i64 = IntKind.i64) ∧ Sx.Ask ((4096 : Int) * (16 : Int) = (4096 : Int) * (16 : Int))) ∧ Sx.Ask (IntKind.i64 = IntKind.i64) ∧ Sx.Ask ((0 : Int) = (0 : Int))) ∧ Sx.Ask (IntKind.i64 = IntKind.i64) ∧ Sx.Ask ((0 : Int) = (0 : Int))) ∧ Sx.Ask (IntKind.i64 = IntKind.i64) ∧ Sx.Ask ((4096 : Int) * (16 : Int) = (4096 : Int) * (16 : Int))) ∧ Sx.Ask (IntKind.i64 = IntKind.i64) ∧ Sx.Ask ((4096 : Int) * (0 : Int) = (4096 : Int) * (0 : Int))) ∧ Sx.Ask (IntKind.i64 = IntKind.i64) ∧ Sx.Ask ((4096 : Int) * (0 : Int) = (4096 : Int) * (0 : Int))) ∧ Sx.Ask (false = false)) ∧ Sx.Ask (false = false)) ∧ (Sx.Ask (IntKind.i64 = IntKind.i64) ∧ Sx.Ask ((16 : Int) = (16 : Int))) ∧ (Sx.Ask (IntKind.i64 = IntKind.i64) ∧ Sx.Ask ((0 : Int) = (0 : Int))) ∧ True) ∧ Sx.Ask ((Go.Proofs.Ytbmgclpgompjmaa.Img.ImgG.mk (2 : Int) (1 : Int) (2 : Nat) (Go.Proofs.Ytbmgclpgompjmaa.Img.pxD (Sx.lst (Go.Proofs.Ytbmgclpgompjmaa.Img.imgL box1.img) ((0 : Nat) + (2 : Nat)))) (0 : Nat) (fun (i : Nat) => box1.img.sf i) (Go.Proofs.Ytbmgclpgompjmaa.Aff.Mat.mk ((4096 : Int) * (16 : Int)) (0 : Int) (0 : Int) ((4096 : Int) * (16 : Int)) ((4096 : Int) * (0 : Int)) ((4096 : Int) * (0 : Int))) false false).chk = (0 : Int) ∧ (Go.Proofs.Ytbmgclpgompjmaa.Imq.ImAt.mk (Go.Proofs.Ytbmgclpgompjmaa.Img.ImgG.mk (2 : Int) (1 : Int) (2 : Nat) (Go.Proofs.Ytbmgclpgompjmaa.Img.pxD (Sx.lst (Go.Proofs.Ytbmgclpgompjmaa.Img.imgL box1.img) ((0 : Nat) + (2 : Nat)))) (0 : Nat) (fun (i : Nat) => box1.img.sf i) (Go.Proofs.Ytbmgclpgompjmaa.Aff.Mat.mk ((4096 : Int) * (16 : Int)) (0 : Int) (0 : Int) ((4096 : Int) * (16 : Int)) ((4096 : Int) * (0 : Int)) ((4096 : Int) * (0 : Int))) false false) (16 : Int) (0 : Int)).q.ok)) ∧ True ∧ True ∧ True ∧ True ∧ True ∧ True ∧ True ∧ True ∧ True ∧ True ∧ True ∧ True ∧ True ∧ True ∧ True ∧ True ∧ True ∧ True ∧ True ∧ True ∧ True ∧ True ∧ True ∧ True ∧ True ∧ Sx.Ask (decide ((Go.Proofs.Ytbmgclpgompjmaa.Imq.ImAt.mk (Go.Proofs.Ytbmgclpgompjmaa.Img.ImgG.mk (2 : Int) (1 : Int) (2 : Nat) (Go.Proofs.Ytbmgclpgompjmaa.Img.pxD (Sx.lst (Go.Proofs.Ytbmgclpgompjmaa.Img.imgL box1.img) ((0 : Nat) + (2 : Nat)))) (0 : Nat) (fun (i : Nat) => box1.img.sf i) (Go.Proofs.Ytbmgclpgompjmaa.Aff.Mat.mk ((4096 : Int) * (16 : Int)) (0 : Int) (0 : Int) ((4096 : Int) * (16 : Int)) ((4096 : Int) * (0 : Int)) ((4096 : Int) * (0 : Int))) false false) (16 : Int) (0 : Int)).q.soft = (255 : Int)) = true)) (by kernel_rfl) ?_
  simp only [ask_iff, br_iff, eq_self, true_and, and_true, implies_true, forall_const, decide_eq_true_eq, decide_eq_false_iff_not, ne_eq, Nat.mul_one, Nat.add_zero, Nat.zero_add]
  refine ⟨fun i _ => ?_, ⟨by kernel_rfl, box1_at⟩, by kernel_rfl⟩
  unfold at1
  cases decide (i = 1) <;> exact ⟨⟨⟨⟨⟨⟨⟨rfl, rfl⟩, rfl⟩, rfl⟩, rfl⟩, rfl⟩, rfl⟩, rfl⟩
end Go.Proofs.Ytbmgclpgompjmaa.Imr
