/- Package morph: by the evaluation. -/
import Derived.Test.YtbkgncikjhibiaaMoe
set_option linter.unusedSimpArgs false
set_option linter.unusedVariables false
namespace Go.Proofs.Ytbkgncikjhibiaa.Mor
open Go.RowKit Sx Num Aff Con Rga Rgl Rgm Rgn Rgo Itr Mol Moe
set_option maxRecDepth 100000
def slF (n : Nat) (f : Nat → Rn) : SV := .sl n 3 (fun i => lst (rnL (f i)))
def rowF (n : Nat) (f : Nat → Rn) : SO := .row 0 n 3 (fun i => lst (rnL (f i))) 43
/-! meet. -/
def mtInv (g : MtG) : Inv := ⟨MtS, MtP g, fun s => ⟨[(0, slF (g.a.n - s.i) (fun k => g.a.f (s.i + k))), (1, slF (g.b.n - s.j) (fun k => g.b.f (s.j + k))), (2, .int .i64 g.y), (7, .osl 0 0)], [rowF s.L.length (rI s.L)]⟩, fun s => g.a.n - s.i + (g.b.n - s.j)⟩
/-! dilate. -/
def bldS (k : Nat) : SO := .cells 1 (lst [.osl k 0]) 55
def di1 (h : DiG) : Inv := ⟨Nat, fun i => i ≤ h.g.n, fun i => ⟨[(1, .int .i64 h.w), (5, .own 0 0), (12, rgS h.g), (13, .int .i64 h.g.n), (14, .int .i64 i)], [bldS 1, rowF (h.W i).length (rI (h.W i))]⟩, fun i => h.g.n - i⟩
def di2 (h : DiG) : Inv := ⟨Nat, fun m => m ≤ h.V.length, fun m => ⟨[(1, .int .i64 h.w), (8, .osl 2 0), (41, .osl 1 0), (42, .int .i64 h.V.length), (43, .int .i64 m)], [bldS 1, rowF h.V.length (rI h.V), rowF (m * h.q) h.R]⟩, fun m => h.V.length - m⟩
def di3 (h : DiG) (m : Nat) : Inv := ⟨Nat, fun c => m < h.V.length ∧ c ≤ h.q, fun c => ⟨[(1, .int .i64 h.w), (8, .osl 2 0), (41, .osl 1 0), (42, .int .i64 h.V.length), (43, .int .i64 m), (10, .own 3 0), (11, .int .i64 ((rI h.V m).y - (h.w : Int) + (c : Int)))], [bldS 1, rowF h.V.length (rI h.V), rowF (m * h.q + c) h.R, .cells 3 (lst (rnL (rI h.V m))) 43]⟩, fun c => h.q - c⟩
noncomputable def spDilate : FSpec := mkSpec 36 (γ := DiG) (fun | [s, .int _ w] => some ⟨⟨slLen s, rgD s⟩, w.toNat⟩ | _ => none) (fun h => [rgS h.g, .int .i64 h.w]) (fun h => h.Ok ∧ h.g.n * h.q ≤ 1000000) (fun h => runsS h.o)
theorem ok_dilate : SpecOK Try.prog spDilate := by
  refine spec_sound (specs := [spAddR, giv Rgg.spJoin]) (all_ok (⟨ok_addR, giv_ok Rgg.ok_join, trivial⟩)) (eqs := []) (fun _ _ h => (List.not_mem_nil h).elim) Aff.mixed Try.func36 rfl (by kernel_rfl) (fun _ _ => by kernel_rfl) (fun g => (⟨[(3, .inv (di1 g)), (9, .nest (di2 g) (fun m => [(12, .inv (di3 g m))]))], [(2, [.ownC 0 0 43 3])]⟩ : Ann)) (fun g => Nat.le_of_ble_eq_true (by kernel_rfl)) ?_
  rintro g hg
  refine vc_of (B := let z29 := (0 : Int);let z28 := (↑g.g.n : Int);let z26 := (True ∧ True);let z25 := (1 : Int);let z22 := (-8192 : Int);let z20 := ((0 : Nat) = (0 : Nat));let z12 := (↑g.V.length : Int);let z8 := (-9223372036854775808 : Int);let z7 := (9223372036854775807 : Int);let z4 := (↑g.w : Int); let z14 := ((2 : Int) * z4 + z25);let z0 := (IntKind.i64 = IntKind.i64); let z24 := (Sx.Ask z0 ∧ Sx.Ask (z12 = z12)); let z11 := (Sx.Ask z0 ∧ Sx.Ask (z4 = z4)); let z9 := (Sx.Ask (g.g.n = g.g.n) ∧ ∀ (i : Nat), i < g.g.n → ((True ∧ Sx.Ask z0 ∧ Sx.Ask ((g.g.f i).y = (g.g.f i).y)) ∧ Sx.Ask z0 ∧ Sx.Ask ((g.g.f i).x0 = (g.g.f i).x0)) ∧ Sx.Ask z0 ∧ Sx.Ask ((g.g.f i).x1 = (g.g.f i).x1)); let z3 := (Sx.Ask (g.V.length = g.V.length) ∧ ∀ (i : Nat), let z27 := (Rga.rI g.V i); i < g.V.length → ((True ∧ Sx.Ask z0 ∧ Sx.Ask (z27.y = z27.y)) ∧ Sx.Ask z0 ∧ Sx.Ask (z27.x0 = z27.x0)) ∧ Sx.Ask z0 ∧ Sx.Ask (z27.x1 = z27.x1));True ∧ True ∧ True ∧ True ∧ True ∧ (∃ (g_1 : Nat), Sx.Ask ((di1 g).pre g_1) ∧ (z11 ∧ Sx.Ask z20 ∧ z9 ∧ (Sx.Ask z0 ∧ Sx.Ask (z28 = z28)) ∧ (Sx.Ask z0 ∧ Sx.Ask (z29 = (↑g_1 : Int))) ∧ True) ∧ z26 ∧ (Sx.Ask ((0 : Nat) = (g.W g_1).length) ∧ ∀ (i : Nat), i < (g.W g_1).length → ((True ∧ False) ∧ False) ∧ False) ∧ True) ∧ ∀ (g_1 : Nat), let z31 := (↑g_1 : Int); let z13 := (g.W g_1); let z21 := (↑z13.length : Int); let z5 := (g.g.f z31.toNat); let z32 := (if z22 > z5.x0 - z4 then z22 else z5.x0 - z4); let z23 := (if (8192 : Int) < z5.x1 + z4 then (8192 : Int) else z5.x1 + z4); let z1 := (Rga.AdG.mk z13.length (Rga.rI z13) (Rga.Rn.mk z5.y z32 z23)); (di1 g).pre g_1 → True ∧ Sx.Br (decide (z31 < z28)) (Sx.Ask (z29 ≤ z31 ∧ z31 < z28) ∧ True ∧ True ∧ True ∧ True ∧ True ∧ True ∧ True ∧ True ∧ Sx.Ask (z8 ≤ z5.x0 - z4 ∧ z5.x0 - z4 ≤ z7) ∧ True ∧ True ∧ True ∧ True ∧ Sx.Ask (z8 ≤ z5.x1 + z4 ∧ z5.x1 + z4 ≤ z7) ∧ True ∧ ((True ∧ (Sx.Ask z20 ∧ (Sx.Ask z0 ∧ Sx.Ask (z5.y = z5.y)) ∧ (Sx.Ask z0 ∧ Sx.Ask (z32 = if z22 > z5.x0 - z4 then z22 else z5.x0 - z4)) ∧ (Sx.Ask z0 ∧ Sx.Ask (z23 = if (8192 : Int) < z5.x1 + z4 then (8192 : Int) else z5.x1 + z4)) ∧ True) ∧ z26 ∧ (Sx.Ask (z13.length = z13.length) ∧ ∀ (i : Nat), let z30 := (Rga.rI z13 i); i < z13.length → ((True ∧ Sx.Ask z0 ∧ Sx.Ask (z30.y = z30.y)) ∧ Sx.Ask z0 ∧ Sx.Ask (z30.x0 = z30.x0)) ∧ Sx.Ask z0 ∧ Sx.Ask (z30.x1 = z30.x1)) ∧ True) ∧ Sx.Ask (z13.length ≤ (4294967296 : Nat))) ∧ Sx.Ask (z8 ≤ z31 + z25 ∧ z31 + z25 ≤ z7) ∧ True ∧ ∃ (g' : Nat), Sx.Ask ((di1 g).pre g') ∧ ((z11 ∧ Sx.Ask z20 ∧ z9 ∧ (Sx.Ask z0 ∧ Sx.Ask (z28 = z28)) ∧ (Sx.Ask z0 ∧ Sx.Ask (z31 + z25 = (↑g' : Int))) ∧ True) ∧ z26 ∧ (Sx.Ask (z1.L.length = (g.W g').length) ∧ ∀ (i : Nat), i < (g.W g').length → ((True ∧ Sx.Ask z0 ∧ Sx.Ask ((Rga.rI z1.L i).y = (Rga.rI (g.W g') i).y)) ∧ Sx.Ask z0 ∧ Sx.Ask ((Rga.rI z1.L i).x0 = (Rga.rI (g.W g') i).x0)) ∧ Sx.Ask z0 ∧ Sx.Ask ((Rga.rI z1.L i).x1 = (Rga.rI (g.W g') i).x1)) ∧ True) ∧ Sx.Ask ((di1 g).meas g' < (di1 g).meas g_1)) (True ∧ True ∧ True ∧ True ∧ Sx.Ask (z8 ≤ (2 : Int) * z4 ∧ (2 : Int) * z4 ≤ z7) ∧ Sx.Ask (z8 ≤ (2 : Int) * z4 + z25 ∧ (2 : Int) * z4 + z25 ≤ z7) ∧ Sx.Ask (z8 ≤ z21 * z14 ∧ z21 * z14 ≤ z7) ∧ Sx.Ask (z29 ≤ z29 ∧ z29 ≤ z21 * z14 ∧ (↑(24 : Nat) : Int) * (z21 * z14) ≤ (140737488355328 : Int) ∧ z21 * z14 ≤ z7) ∧ True ∧ True ∧ True ∧ True ∧ True ∧ (∃ (g_2 : Nat), Sx.Ask ((di2 g).pre g_2) ∧ (z11 ∧ True ∧ True ∧ (Sx.Ask z0 ∧ Sx.Ask (z21 = z12)) ∧ (Sx.Ask z0 ∧ Sx.Ask (z29 = (↑g_2 : Int))) ∧ True) ∧ z26 ∧ (Sx.Ask (z13.length = g.V.length) ∧ ∀ (i : Nat), i < g.V.length → ((True ∧ Sx.Ask z0 ∧ Sx.Ask ((Rga.rI z13 i).y = (Rga.rI g.V i).y)) ∧ Sx.Ask z0 ∧ Sx.Ask ((Rga.rI z13 i).x0 = (Rga.rI g.V i).x0)) ∧ Sx.Ask z0 ∧ Sx.Ask ((Rga.rI z13 i).x1 = (Rga.rI g.V i).x1)) ∧ (Sx.Ask (Int.toNat z29 = g_2 * g.q) ∧ ∀ (i : Nat), let z34 := (Rga.rI g.V (i / g.q)); i < g_2 * g.q → ((True ∧ Sx.Ask z0 ∧ Sx.Ask (z29 = z34.y - z4 + (↑(i % g.q) : Int))) ∧ Sx.Ask z0 ∧ Sx.Ask (z29 = z34.x0)) ∧ Sx.Ask z0 ∧ Sx.Ask (z29 = z34.x1)) ∧ True) ∧ ∀ (g_2 : Nat), let z19 := (↑g_2 : Int); let z10 := (Rga.rI g.V z19.toNat); let z6 := (Rga.rI g.V g_2); let z2 := (Rga.Rg.mk (g_2 * g.q) fun (i : Nat) => let z35 := (Rga.rI g.V (i / g.q)); Rga.Rn.mk (z35.y - z4 + (↑(i % g.q) : Int)) z35.x0 z35.x1); (di2 g).pre g_2 → True ∧ Sx.Br (decide (z19 < z12)) (Sx.Ask (z29 ≤ z19 ∧ z19 < z12) ∧ Sx.Ask (z19.toNat < g.V.length) ∧ True ∧ True ∧ True ∧ True ∧ True ∧ Sx.Ask (z8 ≤ z10.y - z4 ∧ z10.y - z4 ≤ z7) ∧ True ∧ True ∧ (∃ (g_3 : Nat), Sx.Ask ((di3 g g_2).pre g_3) ∧ (z11 ∧ True ∧ True ∧ z24 ∧ (Sx.Ask z0 ∧ Sx.Ask (z19 = z19)) ∧ Sx.Ask z20 ∧ (Sx.Ask z0 ∧ Sx.Ask ((if z22 > z10.y - z4 then z22 else z10.y - z4) = z6.y - z4 + (↑g_3 : Int))) ∧ True) ∧ z26 ∧ z3 ∧ (Sx.Ask (g_2 * g.q = g_2 * g.q + g_3) ∧ ∀ (i : Nat), let z15 := (Rga.rI g.V (i / g.q)); i < g_2 * g.q + g_3 → ((True ∧ Sx.Ask z0 ∧ Sx.Ask (z15.y - z4 + (↑(i % g.q) : Int) = z15.y - z4 + (↑(i % g.q) : Int))) ∧ Sx.Ask z0 ∧ Sx.Ask (z15.x0 = z15.x0)) ∧ Sx.Ask z0 ∧ Sx.Ask (z15.x1 = z15.x1)) ∧ (((True ∧ Sx.Ask z0 ∧ Sx.Ask (z10.y = z6.y)) ∧ Sx.Ask z0 ∧ Sx.Ask (z10.x0 = z6.x0)) ∧ Sx.Ask z0 ∧ Sx.Ask (z10.x1 = z6.x1)) ∧ True) ∧ ∀ (g_3 : Nat), let z37 := (↑g_3 : Int); (di3 g g_2).pre g_3 → True ∧ True ∧ True ∧ True ∧ Sx.Ask (z8 ≤ z6.y + z4 ∧ z6.y + z4 ≤ z7) ∧ True ∧ True ∧ Sx.Br (decide (z6.y - z4 + z37 ≤ if (8191 : Int) < z6.y + z4 then (8191 : Int) else z6.y + z4)) (True ∧ True ∧ True ∧ True ∧ True ∧ True ∧ True ∧ True ∧ Sx.Ask (g_2 * g.q + g_3 + (1 : Nat) ≤ (9223372036854775807 : Nat) ∧ (g_2 * g.q + g_3 + (1 : Nat)) * (24 : Nat) ≤ (140737488355328 : Nat)) ∧ True ∧ True ∧ Sx.Ask (z8 ≤ z6.y - z4 + z37 + z25 ∧ z6.y - z4 + z37 + z25 ≤ z7) ∧ True ∧ ∃ (g' : Nat), Sx.Ask ((di3 g g_2).pre g') ∧ ((z11 ∧ True ∧ True ∧ z24 ∧ (Sx.Ask z0 ∧ Sx.Ask (z19 = z19)) ∧ Sx.Ask z20 ∧ (Sx.Ask z0 ∧ Sx.Ask (z6.y - z4 + z37 + z25 = z6.y - z4 + (↑g' : Int))) ∧ True) ∧ z26 ∧ z3 ∧ (Sx.Ask (g_2 * g.q + g_3 + (1 : Nat) = g_2 * g.q + g') ∧ ∀ (i : Nat), let z36 := (i < g_2 * g.q + g_3); let z16 := (Rga.rI g.V (i / g.q)); i < g_2 * g.q + g' → ((True ∧ Sx.Ask z0 ∧ Sx.Ask ((bif decide z36 then z16.y - z4 + (↑(i % g.q) : Int) else z6.y - z4 + z37) = z16.y - z4 + (↑(i % g.q) : Int))) ∧ Sx.Ask z0 ∧ Sx.Ask ((bif decide z36 then z16.x0 else z6.x0) = z16.x0)) ∧ Sx.Ask z0 ∧ Sx.Ask ((bif decide z36 then z16.x1 else z6.x1) = z16.x1)) ∧ (((True ∧ Sx.Ask z0 ∧ Sx.Ask (z6.y = z6.y)) ∧ Sx.Ask z0 ∧ Sx.Ask (z6.x0 = z6.x0)) ∧ Sx.Ask z0 ∧ Sx.Ask (z6.x1 = z6.x1)) ∧ True) ∧ Sx.Ask ((di3 g g_2).meas g' < (di3 g g_2).meas g_3)) (Sx.Ask (z8 ≤ z19 + z25 ∧ z19 + z25 ≤ z7) ∧ True ∧ ∃ (g' : Nat), Sx.Ask ((di2 g).pre g') ∧ ((z11 ∧ True ∧ True ∧ z24 ∧ (Sx.Ask z0 ∧ Sx.Ask (z19 + z25 = (↑g' : Int))) ∧ True) ∧ z26 ∧ z3 ∧ (Sx.Ask (g_2 * g.q + g_3 = g' * g.q) ∧ ∀ (i : Nat), let z17 := (Rga.rI g.V (i / g.q)); i < g' * g.q → ((True ∧ Sx.Ask z0 ∧ Sx.Ask (z17.y - z4 + (↑(i % g.q) : Int) = z17.y - z4 + (↑(i % g.q) : Int))) ∧ Sx.Ask z0 ∧ Sx.Ask (z17.x0 = z17.x0)) ∧ Sx.Ask z0 ∧ Sx.Ask (z17.x1 = z17.x1)) ∧ True) ∧ Sx.Ask ((di2 g).meas g' < (di2 g).meas g_2))) (True ∧ (((Sx.Ask (g_2 * g.q = g_2 * g.q) ∧ ∀ (i : Nat), let z18 := (Rga.rI g.V (i / g.q)); i < g_2 * g.q → ((True ∧ Sx.Ask z0 ∧ Sx.Ask (z18.y - z4 + (↑(i % g.q) : Int) = z18.y - z4 + (↑(i % g.q) : Int))) ∧ Sx.Ask z0 ∧ Sx.Ask (z18.x0 = z18.x0)) ∧ Sx.Ask z0 ∧ Sx.Ask (z18.x1 = z18.x1)) ∧ True) ∧ Sx.Ask (Rgg.joOk z2)) ∧ True ∧ True ∧ Sx.Ask ((Rgg.joOut z2).length = g.o.length) ∧ ∀ (i : Nat), let z33 := (Rga.rI (Rgg.joOut z2) i); i < g.o.length → ((True ∧ Sx.Ask z0 ∧ Sx.Ask (z33.y = (Rga.rI g.o i).y)) ∧ Sx.Ask z0 ∧ Sx.Ask (z33.x0 = (Rga.rI g.o i).x0)) ∧ Sx.Ask z0 ∧ Sx.Ask (z33.x1 = (Rga.rI g.o i).x1)))) (by kernel_rfl) ?_
  simp only [ask_iff, br_iff, eq_self, true_and, and_true, implies_true, forall_const, decide_eq_true_eq, decide_eq_false_iff_not, ne_eq, Nat.mul_one, Nat.add_zero, Nat.zero_add]
  obtain ⟨hh, hn⟩ := hg
  have hw := hh.w
  have hq : g.q = 2 * g.w + 1 := rfl
  have hgl := vld_len hh.g.v
  rw [Rg.len] at hgl
  have hVn : g.V.length ≤ g.g.n := DiG.W_len g g.g.n
  have hprod : g.V.length * g.q ≤ 1000000 := Nat.le_trans (Nat.mul_le_mul_right _ hVn) hn
  refine ⟨⟨0, Nat.zero_le _, rfl, rfl, fun i hi => absurd hi (Nat.not_lt_zero i)⟩, fun i hi => ⟨fun hlt => ?_, fun hge => ?_⟩⟩
  · have hi : i ≤ g.g.n := hi
    have hin : i < g.g.n := by omega
    have z : ((i : Int)).toNat = i := rfl
    have b := hh.g.b i hin
    have ok := (ok_of hh.g.v hin).2
    have hWl := DiG.W_len g i
    have e1 : (if -8192 > (g.g.f i).x0 - (g.w : Int) then -8192 else (g.g.f i).x0 - (g.w : Int)) = (g.g.f i).x0 - (g.w : Int) := if_neg (by omega)
    have e2 : (if 8192 < (g.g.f i).x1 + (g.w : Int) then 8192 else (g.g.f i).x1 + (g.w : Int)) = (g.g.f i).x1 + (g.w : Int) := if_neg (by omega)
    rw [z, e1, e2, Rgb.addL]
    refine ⟨by omega, by omega, by omega, by omega, by omega, i + 1, hin, ⟨rfl, rfl, fun k _ => ⟨⟨rfl, rfl⟩, rfl⟩⟩, ?_⟩
    show g.g.n - (i + 1) < g.g.n - i
    omega
  · have hi : i ≤ g.g.n := hi
    have ei : i = g.g.n := by omega
    subst ei
    have hV : g.W g.g.n = g.V := rfl
    rw [hV]
    have hpI : (g.V.length : Int) * (2 * (g.w : Int) + 1) = ((g.V.length * g.q : Nat) : Int) := by rw [hq]; simp
    rw [hpI]
    refine ⟨by omega, by omega, by omega, by omega, ⟨0, Nat.zero_le _, ⟨rfl, rfl⟩, ⟨rfl, fun k _ => ⟨⟨rfl, rfl⟩, rfl⟩⟩, (Nat.zero_mul _).symm, fun k hk => absurd hk (by rw [Nat.zero_mul]; exact Nat.not_lt_zero k)⟩, fun m hm => ⟨fun hlt => ?_, fun hge => ?_⟩⟩
    · have hmV : m < g.V.length := by omega
      have z : ((m : Int)).toNat = m := rfl
      obtain ⟨⟨b1, b2⟩, ⟨b3, b4⟩, b5⟩ := DiG.V_box hh hmV
      rw [z]
      refine ⟨by omega, hmV, by omega, ⟨0, ⟨hmV, Nat.zero_le _⟩, by rw [if_neg (by omega)]; omega, rfl, ⟨rfl, rfl⟩, rfl⟩, fun c hc => ?_⟩
      obtain ⟨-, hcq⟩ : m < g.V.length ∧ c ≤ g.q := hc
      rw [if_neg (show ¬ 8191 < (rI g.V m).y + (g.w : Int) by omega)]
      have hb : (m + 1) * g.q ≤ g.V.length * g.q := Nat.mul_le_mul_right _ hmV
      rw [Nat.succ_mul] at hb
      refine ⟨by omega, fun hle => ⟨by omega, by omega, c + 1, ⟨hmV, by omega⟩, ⟨by omega, rfl, fun k hk => ?_⟩, ?_⟩, fun hgt => ⟨by omega, m + 1, hmV, ⟨rfl, ?_⟩, ?_⟩⟩
      · by_cases ck : k < m * g.q + c
        · rw [decide_eq_true ck]; exact ⟨⟨rfl, rfl⟩, rfl⟩
        · have ek : k = m * g.q + c := by omega
          obtain ⟨d1, d2⟩ := DiG.at (h := g) (m := m) (c := c) (by omega)
          rw [decide_eq_false ck, ek, d1, d2]
          exact ⟨⟨rfl, rfl⟩, rfl⟩
      · show g.q - (c + 1) < g.q - c
        omega
      · rw [Nat.succ_mul]; omega
      · show g.V.length - (m + 1) < g.V.length - m
        omega
    · have hm : m ≤ g.V.length := hm
      have em : m = g.V.length := by omega
      subst em
      exact ⟨⟨fun k hk => DiG.R_ok hh hk, by show g.V.length * g.q ≤ 100000000; omega⟩, rfl, fun k _ => ⟨⟨rfl, rfl⟩, rfl⟩⟩
/-! erode. -/
def wS (h : DiG) : SO := .cells 1 (lst [.int .i64 h.w]) 3
def mpS (h : DiG) (i : Nat) : SO := .mps .i64 (fun y => decide (0 < (nwP h i y).length)) 3 (fun y => (nwP h i y).length) (fun y k => lst (rnL (rI (nwP h i y) k))) 43 none
def fzS (h : DiG) : SO := .mpi (.one .i64) true (fun l => decide (0 < (nw h (l.getD 0 0)).length)) (fun l => .sl (nw h (l.getD 0 0)).length 3 (fun k => lst (rnL (rI (nw h (l.getD 0 0)) k))))
end Go.Proofs.Ytbkgncikjhibiaa.Mor
