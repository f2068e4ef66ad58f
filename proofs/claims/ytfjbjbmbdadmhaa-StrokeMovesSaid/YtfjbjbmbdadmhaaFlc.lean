/- Package fill: slices.SortStableFunc of edges, by the evaluation; it sorts. -/
import Derived.Test.YtfjbjbmbdadmhaaSra
set_option linter.unusedSimpArgs false
set_option linter.unusedVariables false
namespace Go.Proofs.Ytfjbjbmbdadmhaa.Flc
open Go.RowKit Sx Num Aff Con Fla Flb Sra
set_option maxRecDepth 100000
/-- A contract that holds for every bound holds. -/
theorem specM_any {P : Program} {f : FuncId} {paths : List NP} {γ : Type} {dec : List SV → List SO → Option γ} {args : γ → List SV} {objs : γ → List SO} {res : γ → SV} {preK : Nat → γ → Prop} {postK : Nat → γ → List SO} {pre : γ → Prop} {post : γ → List SO}
    (h : ∀ K, SpecOK P (mkSpecM f paths dec args objs (preK K) res (postK K))) (hk : ∀ g, pre g → ∃ K, preK K g ∧ postK K g = post g) : SpecOK P (mkSpecM f paths dec args objs pre res post) := by
  refine ⟨(h 0).1, fun l H HF nm y he _ hrun => ?_, fun l H nm y hrun hask w0 X0 E w hrep hfree vals ha => ?_⟩
  · simp only [mkSpecM] at hrun ⊢
    split at hrun
    case h_2 => cases hrun
    rename_i ks hks
    rw [namesOf_ext he paths [] ks hks]
    split at hrun
    case h_2 => cases hrun
    rename_i hc
    simp only
    rw [objsAt_ext he (Bool.and_eq_true _ _ ▸ hc).2, hc]
    exact hrun
  · simp only [mkSpecM] at hrun
    split at hrun
    case h_2 => cases hrun
    rename_i ks hks
    split at hrun
    case h_2 => cases hrun
    rename_i hc
    split at hrun
    case h_2 => cases hrun
    rename_i g hdec
    cases hrun
    obtain ⟨hle, ⟨hpre⟩⟩ := hask
    obtain ⟨K, h1, h2⟩ := hk g hpre
    have key : (mkSpecM f paths dec args objs (preK K) res (postK K)).run l H nm = some ⟨argLe (l.map (sml (objsAt H ks) ks)) ((objsAt H ks).map (smlO (objsAt H ks) ks)) (args g) (objs g) ∧ Sx.Ask (preK K g), big (objsAt H ks) ks (res g), .sets (setsOf (objsAt H ks) ks (post g) ks 0)⟩ := by
      simp only [mkSpecM, hks, hc, hdec, h2]
    exact (h K).2.2 l H nm _ key ⟨hle, ⟨h1⟩⟩ w0 X0 E w hrep hfree vals ha
def spSym : FSpec := mkSpecM 136 [.arg 0] smD smA (fun g => [edRow 0 g.n g.f]) (fun g => (g.a < g.m ∧ g.m < g.b ∧ g.b ≤ g.n) ∧ g.n ≤ 4294967296) (fun _ => .tup 0 (lst [])) (fun g => [edRow 0 g.n (symA g.f g.a g.m g.b)])
theorem specM_never {P : Program} {f : FuncId} {paths : List NP} {γ : Type} {dec : List SV → List SO → Option γ} {args : γ → List SV} {objs : γ → List SO} {res : γ → SV} {pre : γ → Prop} {post : γ → List SO}
    (hent : ∀ args w, (callFunc f args).run P w = .ok (.enter f args) w) (h : ∀ g, ¬ pre g) : SpecOK P (mkSpecM f paths dec args objs pre res post) := by
  refine ⟨hent, fun l H HF nm y he _ hrun => ?_, fun l H nm y hrun hask w0 X0 E w hrep hfree vals ha => ?_⟩
  · simp only [mkSpecM] at hrun ⊢
    split at hrun
    case h_2 => cases hrun
    rename_i ks hks
    rw [namesOf_ext he paths [] ks hks]
    split at hrun
    case h_2 => cases hrun
    rename_i hc
    simp only
    rw [objsAt_ext he (Bool.and_eq_true _ _ ▸ hc).2, hc]
    exact hrun
  · simp only [mkSpecM] at hrun
    split at hrun
    case h_2 => cases hrun
    split at hrun
    case h_2 => cases hrun
    split at hrun
    case h_2 => cases hrun
    cases hrun
    obtain ⟨hle, ⟨hpre⟩⟩ := hask
    exact absurd hpre (h _)
theorem ok_sym0 : SpecOK Try.prog (spSymK 0) := specM_never (fun _ _ => by kernel_rfl) fun g hg => by
  obtain ⟨⟨h1, h2, _⟩, _, h3⟩ := hg
  omega
theorem ok_symK : ∀ K, SpecOK Try.prog (spSymK K)
  | 0 => ok_sym0
  | K + 1 => ok_symS K (ok_symK K)
theorem ok_sym : SpecOK Try.prog spSym := specM_any (preK := fun (K : Nat) (g : SmG) => (g.a < g.m ∧ g.m < g.b ∧ g.b ≤ g.n) ∧ g.n ≤ 4294967296 ∧ g.b - g.a ≤ K) (postK := fun (K : Nat) (g : SmG) => [edRow 0 g.n (symF K g.f g.a g.m g.b)]) ok_symK fun g hg => ⟨g.b - g.a, ⟨hg.1, hg.2, Nat.le_refl _⟩, rfl⟩
structure SoG where
  n : Nat
  f : Nat → Ed
def soD : List SV → List SO → Option SoG
  | _, [.row _ n _ g _] => some ⟨n, fun i => edD (g i)⟩
  | _, _ => none
/-- Sorted by the first row. -/
def srtE (g : SoG) : Nat → Ed := srtF g.f g.n
structure StI where
  h : Nat → Ed
  a : Nat
  k : Nat
def stE (g : SoG) : List (Nat × SV) := [(0, .osl 0 0), (1, .int .i64 g.n), (2, cmpS)]
def stI1 (g : SoG) : Inv := ⟨StI, fun s => (s.a ≤ g.n ∧ g.n < s.a + s.k) ∧ insB g.n s.k s.h s.a = insB g.n (g.n + 1) g.f 0, fun s => ⟨stE g ++ [(6, .int .i64 20), (7, .int .i64 s.a), (8, .int .i64 (s.a + 20))], [edRow 0 g.n s.h]⟩, fun s => g.n - s.a⟩
def stI2 (g : SoG) : Inv := ⟨StI, fun s => (20 ≤ s.a ∧ s.a ≤ 2 * g.n + 20) ∧ g.n ≤ s.a + s.k ∧ mrgF g.n s.k s.h s.a = srtE g, fun s => ⟨stE g ++ [(6, .int .i64 s.a)], [edRow 0 g.n s.h]⟩, fun s => g.n - s.a⟩
def stI3 (g : SoG) (o : StI) : Inv := ⟨StI, fun s => (s.a ≤ g.n ∧ g.n ≤ s.a + s.k) ∧ pasF g.n o.a s.k s.h s.a = pasF g.n o.a g.n o.h 0, fun s => ⟨stE g ++ [(6, .int .i64 o.a), (7, .int .i64 s.a), (8, .int .i64 (s.a + 2 * o.a))], [edRow 0 g.n s.h]⟩, fun s => g.n - s.a⟩
def spStable : FSpec := mkSpecM 124 [.arg 0] soD (fun g => [.osl 0 0, .int .i64 g.n, cmpS]) (fun g => [edRow 0 g.n g.f]) (fun g => g.n ≤ 1048576) (fun _ => .tup 0 (lst [])) (fun g => [edRow 0 g.n (srtE g)])
theorem ok_stable : SpecOK Try.prog spStable := by
  refine spec_soundM (specs := [spIns, spSym]) (all_ok (⟨ok_ins, ok_sym, trivial⟩)) (eqs := []) (fun _ _ h => (List.not_mem_nil h).elim) Aff.mixed Try.func124 rfl (by kernel_rfl) (fun _ _ => by kernel_rfl) (fun g => (⟨[(2, .inv (stI1 g)), (7, .nest (stI2 g) (fun o => [(9, .inv (stI3 g o))]))], []⟩ : Ann)) true (fun g => Nat.le_of_ble_eq_true (by kernel_rfl)) ?_
  rintro g hg
  refine vc_of (B := let z23 := (4294967296 : Nat);let z17 := (g.n = g.n);let z16 := (20 : Int);let z15 := (↑g.n : Int);let z14 := (2 : Int);let z13 := (9223372036854775807 : Int);let z12 := (-9223372036854775808 : Int);let z3 := (Sx.Ask ((100 : Go.FuncId) = (100 : Go.FuncId)) ∧ True);let z0 := (IntKind.i64 = IntKind.i64); let z22 := (Sx.Ask z0 ∧ Sx.Ask (z15 = (↑z15.toNat : Int))); let z9 := (Sx.Ask z0 ∧ Sx.Ask (z15 = z15));True ∧ True ∧ True ∧ True ∧ (∃ (g_1 : StI), Sx.Ask ((stI1 g).pre g_1) ∧ True ∧ (True ∧ z9 ∧ z3 ∧ (Sx.Ask z0 ∧ Sx.Ask (z16 = z16)) ∧ (Sx.Ask z0 ∧ Sx.Ask ((0 : Int) = (↑g_1.a : Int))) ∧ (Sx.Ask z0 ∧ Sx.Ask (z16 = (↑g_1.a : Int) + z16)) ∧ True) ∧ (Sx.Ask z17 ∧ ∀ (i : Nat), i < g.n → (((((True ∧ Sx.Ask z0 ∧ Sx.Ask ((g.f i).x = (g_1.h i).x)) ∧ Sx.Ask z0 ∧ Sx.Ask ((g.f i).y = (g_1.h i).y)) ∧ Sx.Ask z0 ∧ Sx.Ask ((g.f i).en = (g_1.h i).en)) ∧ Sx.Ask z0 ∧ Sx.Ask ((g.f i).dx = (g_1.h i).dx)) ∧ Sx.Ask z0 ∧ Sx.Ask ((g.f i).dy = (g_1.h i).dy)) ∧ Sx.Ask z0 ∧ Sx.Ask ((g.f i).s = (g_1.h i).s)) ∧ True) ∧ ∀ (g_1 : StI), let z11 := (↑g_1.a : Int); let z21 := (Sx.Ask z0 ∧ Sx.Ask (z11 = (↑z11.toNat : Int))); let z7 := (Sx.Ask z17 ∧ ∀ (i : Nat), let z18 := (g_1.h i); i < g.n → (((((True ∧ Sx.Ask z0 ∧ Sx.Ask (z18.x = z18.x)) ∧ Sx.Ask z0 ∧ Sx.Ask (z18.y = z18.y)) ∧ Sx.Ask z0 ∧ Sx.Ask (z18.en = z18.en)) ∧ Sx.Ask z0 ∧ Sx.Ask (z18.dx = z18.dx)) ∧ Sx.Ask z0 ∧ Sx.Ask (z18.dy = z18.dy)) ∧ Sx.Ask z0 ∧ Sx.Ask (z18.s = z18.s)); (stI1 g).pre g_1 → True ∧ True ∧ True ∧ Sx.Br (decide (z11 + z16 ≤ z15)) (True ∧ True ∧ True ∧ True ∧ ((True ∧ (True ∧ z21 ∧ (Sx.Ask z0 ∧ Sx.Ask (z11 + z16 = (↑(z11 + z16).toNat : Int))) ∧ z3 ∧ True) ∧ z7 ∧ True) ∧ Sx.Ask ((z11.toNat ≤ (z11 + z16).toNat ∧ (z11 + z16).toNat ≤ g.n) ∧ g.n ≤ z23)) ∧ True ∧ True ∧ True ∧ True ∧ Sx.Ask (z12 ≤ z11 + z16 + z16 ∧ z11 + z16 + z16 ≤ z13) ∧ True ∧ ∃ (g' : StI), Sx.Ask ((stI1 g).pre g') ∧ True ∧ ((True ∧ z9 ∧ z3 ∧ (Sx.Ask z0 ∧ Sx.Ask (z16 = z16)) ∧ (Sx.Ask z0 ∧ Sx.Ask (z11 + z16 = (↑g'.a : Int))) ∧ (Sx.Ask z0 ∧ Sx.Ask (z11 + z16 + z16 = (↑g'.a : Int) + z16)) ∧ True) ∧ (Sx.Ask z17 ∧ ∀ (i : Nat), let z2 := (Flb.insF z11.toNat g_1.h ((z11 + z16).toNat - z11.toNat - (1 : Nat)) i); i < g.n → (((((True ∧ Sx.Ask z0 ∧ Sx.Ask (z2.x = (g'.h i).x)) ∧ Sx.Ask z0 ∧ Sx.Ask (z2.y = (g'.h i).y)) ∧ Sx.Ask z0 ∧ Sx.Ask (z2.en = (g'.h i).en)) ∧ Sx.Ask z0 ∧ Sx.Ask (z2.dx = (g'.h i).dx)) ∧ Sx.Ask z0 ∧ Sx.Ask (z2.dy = (g'.h i).dy)) ∧ Sx.Ask z0 ∧ Sx.Ask (z2.s = (g'.h i).s)) ∧ True) ∧ Sx.Ask ((stI1 g).meas g' < (stI1 g).meas g_1)) (True ∧ True ∧ True ∧ True ∧ ((True ∧ (True ∧ z21 ∧ z22 ∧ z3 ∧ True) ∧ z7 ∧ True) ∧ Sx.Ask ((z11.toNat ≤ z15.toNat ∧ z15.toNat ≤ g.n) ∧ g.n ≤ z23)) ∧ (∃ (g_2 : StI), Sx.Ask ((stI2 g).pre g_2) ∧ True ∧ (True ∧ z9 ∧ z3 ∧ (Sx.Ask z0 ∧ Sx.Ask (z16 = (↑g_2.a : Int))) ∧ True) ∧ (Sx.Ask z17 ∧ ∀ (i : Nat), let z5 := (Flb.insF z11.toNat g_1.h (z15.toNat - z11.toNat - (1 : Nat)) i); i < g.n → (((((True ∧ Sx.Ask z0 ∧ Sx.Ask (z5.x = (g_2.h i).x)) ∧ Sx.Ask z0 ∧ Sx.Ask (z5.y = (g_2.h i).y)) ∧ Sx.Ask z0 ∧ Sx.Ask (z5.en = (g_2.h i).en)) ∧ Sx.Ask z0 ∧ Sx.Ask (z5.dx = (g_2.h i).dx)) ∧ Sx.Ask z0 ∧ Sx.Ask (z5.dy = (g_2.h i).dy)) ∧ Sx.Ask z0 ∧ Sx.Ask (z5.s = (g_2.h i).s)) ∧ True) ∧ ∀ (g_2 : StI), let z26 := (stI3 g g_2); let z4 := (↑g_2.a : Int); (stI2 g).pre g_2 → True ∧ True ∧ True ∧ Sx.Br (decide (z4 < z15)) (True ∧ Sx.Ask (z12 ≤ z14 * z4 ∧ z14 * z4 ≤ z13) ∧ True ∧ True ∧ (∃ (g_3 : StI), Sx.Ask (z26.pre g_3) ∧ True ∧ (True ∧ z9 ∧ z3 ∧ (Sx.Ask z0 ∧ Sx.Ask (z4 = z4)) ∧ (Sx.Ask z0 ∧ Sx.Ask ((0 : Int) = (↑g_3.a : Int))) ∧ (Sx.Ask z0 ∧ Sx.Ask (z14 * z4 = (↑g_3.a : Int) + z14 * z4)) ∧ True) ∧ (Sx.Ask z17 ∧ ∀ (i : Nat), i < g.n → (((((True ∧ Sx.Ask z0 ∧ Sx.Ask ((g_2.h i).x = (g_3.h i).x)) ∧ Sx.Ask z0 ∧ Sx.Ask ((g_2.h i).y = (g_3.h i).y)) ∧ Sx.Ask z0 ∧ Sx.Ask ((g_2.h i).en = (g_3.h i).en)) ∧ Sx.Ask z0 ∧ Sx.Ask ((g_2.h i).dx = (g_3.h i).dx)) ∧ Sx.Ask z0 ∧ Sx.Ask ((g_2.h i).dy = (g_3.h i).dy)) ∧ Sx.Ask z0 ∧ Sx.Ask ((g_2.h i).s = (g_3.h i).s)) ∧ True) ∧ ∀ (g_3 : StI), let z8 := (Sx.Ask z17 ∧ ∀ (i : Nat), let z19 := (g_3.h i); i < g.n → (((((True ∧ Sx.Ask z0 ∧ Sx.Ask (z19.x = z19.x)) ∧ Sx.Ask z0 ∧ Sx.Ask (z19.y = z19.y)) ∧ Sx.Ask z0 ∧ Sx.Ask (z19.en = z19.en)) ∧ Sx.Ask z0 ∧ Sx.Ask (z19.dx = z19.dx)) ∧ Sx.Ask z0 ∧ Sx.Ask (z19.dy = z19.dy)) ∧ Sx.Ask z0 ∧ Sx.Ask (z19.s = z19.s)); let z6 := (↑g_3.a : Int); let z25 := (z6 + z14 * z4); let z24 := (Sx.Ask z0 ∧ Sx.Ask (z6 = (↑z6.toNat : Int))); let z20 := (Sx.Ask z0 ∧ Sx.Ask (z6 + z4 = (↑(z6 + z4).toNat : Int))); z26.pre g_3 → True ∧ True ∧ True ∧ Sx.Br (decide (z6 + z14 * z4 ≤ z15)) (True ∧ True ∧ True ∧ True ∧ Sx.Ask (z12 ≤ z6 + z4 ∧ z6 + z4 ≤ z13) ∧ True ∧ True ∧ ((True ∧ (True ∧ z24 ∧ z20 ∧ (Sx.Ask z0 ∧ Sx.Ask (z6 + z14 * z4 = (↑z25.toNat : Int))) ∧ z3 ∧ True) ∧ z8 ∧ True) ∧ Sx.Ask ((z6.toNat < (z6 + z4).toNat ∧ (z6 + z4).toNat < z25.toNat ∧ z25.toNat ≤ g.n) ∧ g.n ≤ z23)) ∧ True ∧ True ∧ True ∧ True ∧ Sx.Ask (z12 ≤ z14 * z4 ∧ z14 * z4 ≤ z13) ∧ Sx.Ask (z12 ≤ z6 + z14 * z4 + z14 * z4 ∧ z6 + z14 * z4 + z14 * z4 ≤ z13) ∧ True ∧ ∃ (g' : StI), Sx.Ask (z26.pre g') ∧ True ∧ ((True ∧ z9 ∧ z3 ∧ (Sx.Ask z0 ∧ Sx.Ask (z4 = z4)) ∧ (Sx.Ask z0 ∧ Sx.Ask (z6 + z14 * z4 = (↑g'.a : Int))) ∧ (Sx.Ask z0 ∧ Sx.Ask (z6 + z14 * z4 + z14 * z4 = (↑g'.a : Int) + z14 * z4)) ∧ True) ∧ (Sx.Ask z17 ∧ ∀ (i : Nat), let z1 := (symA g_3.h z6.toNat (z6 + z4).toNat z25.toNat i); i < g.n → (((((True ∧ Sx.Ask z0 ∧ Sx.Ask (z1.x = (g'.h i).x)) ∧ Sx.Ask z0 ∧ Sx.Ask (z1.y = (g'.h i).y)) ∧ Sx.Ask z0 ∧ Sx.Ask (z1.en = (g'.h i).en)) ∧ Sx.Ask z0 ∧ Sx.Ask (z1.dx = (g'.h i).dx)) ∧ Sx.Ask z0 ∧ Sx.Ask (z1.dy = (g'.h i).dy)) ∧ Sx.Ask z0 ∧ Sx.Ask (z1.s = (g'.h i).s)) ∧ True) ∧ Sx.Ask (z26.meas g' < z26.meas g_3)) (True ∧ True ∧ Sx.Ask (z12 ≤ z6 + z4 ∧ z6 + z4 ≤ z13) ∧ True ∧ True ∧ True ∧ True ∧ Sx.Br (decide (z6 + z4 < z15)) (True ∧ True ∧ True ∧ True ∧ True ∧ ((True ∧ (True ∧ z24 ∧ z20 ∧ z22 ∧ z3 ∧ True) ∧ z8 ∧ True) ∧ Sx.Ask ((z6.toNat < (z6 + z4).toNat ∧ (z6 + z4).toNat < z15.toNat ∧ z15.toNat ≤ g.n) ∧ g.n ≤ z23)) ∧ True ∧ Sx.Ask (z12 ≤ z4 * z14 ∧ z4 * z14 ≤ z13) ∧ True ∧ ∃ (g' : StI), Sx.Ask ((stI2 g).pre g') ∧ True ∧ ((True ∧ z9 ∧ z3 ∧ (Sx.Ask z0 ∧ Sx.Ask (z4 * z14 = (↑g'.a : Int))) ∧ True) ∧ (Sx.Ask z17 ∧ ∀ (i : Nat), let z10 := (symA g_3.h z6.toNat (z6 + z4).toNat z15.toNat i); i < g.n → (((((True ∧ Sx.Ask z0 ∧ Sx.Ask (z10.x = (g'.h i).x)) ∧ Sx.Ask z0 ∧ Sx.Ask (z10.y = (g'.h i).y)) ∧ Sx.Ask z0 ∧ Sx.Ask (z10.en = (g'.h i).en)) ∧ Sx.Ask z0 ∧ Sx.Ask (z10.dx = (g'.h i).dx)) ∧ Sx.Ask z0 ∧ Sx.Ask (z10.dy = (g'.h i).dy)) ∧ Sx.Ask z0 ∧ Sx.Ask (z10.s = (g'.h i).s)) ∧ True) ∧ Sx.Ask ((stI2 g).meas g' < (stI2 g).meas g_2)) (True ∧ Sx.Ask (z12 ≤ z4 * z14 ∧ z4 * z14 ≤ z13) ∧ True ∧ ∃ (g' : StI), Sx.Ask ((stI2 g).pre g') ∧ True ∧ ((True ∧ z9 ∧ z3 ∧ (Sx.Ask z0 ∧ Sx.Ask (z4 * z14 = (↑g'.a : Int))) ∧ True) ∧ (Sx.Ask z17 ∧ ∀ (i : Nat), i < g.n → (((((True ∧ Sx.Ask z0 ∧ Sx.Ask ((g_3.h i).x = (g'.h i).x)) ∧ Sx.Ask z0 ∧ Sx.Ask ((g_3.h i).y = (g'.h i).y)) ∧ Sx.Ask z0 ∧ Sx.Ask ((g_3.h i).en = (g'.h i).en)) ∧ Sx.Ask z0 ∧ Sx.Ask ((g_3.h i).dx = (g'.h i).dx)) ∧ Sx.Ask z0 ∧ Sx.Ask ((g_3.h i).dy = (g'.h i).dy)) ∧ Sx.Ask z0 ∧ Sx.Ask ((g_3.h i).s = (g'.h i).s)) ∧ True) ∧ Sx.Ask ((stI2 g).meas g' < (stI2 g).meas g_2)))) (True ∧ True ∧ (True ∧ True) ∧ (Sx.Ask z17 ∧ ∀ (i : Nat), i < g.n → (((((True ∧ Sx.Ask z0 ∧ Sx.Ask ((g_2.h i).x = (srtE g i).x)) ∧ Sx.Ask z0 ∧ Sx.Ask ((g_2.h i).y = (srtE g i).y)) ∧ Sx.Ask z0 ∧ Sx.Ask ((g_2.h i).en = (srtE g i).en)) ∧ Sx.Ask z0 ∧ Sx.Ask ((g_2.h i).dx = (srtE g i).dx)) ∧ Sx.Ask z0 ∧ Sx.Ask ((g_2.h i).dy = (srtE g i).dy)) ∧ Sx.Ask z0 ∧ Sx.Ask ((g_2.h i).s = (srtE g i).s)) ∧ True))) (by kernel_rfl) ?_
  simp only [ask_iff, br_iff, eq_self, true_and, and_true, implies_true, forall_const, decide_eq_true_eq, decide_eq_false_iff_not, ne_eq, Nat.mul_one, Nat.add_zero, Nat.zero_add, Int.toNat_natCast, and_self, List.append_assoc, false_and, and_false]
  refine ⟨⟨⟨g.f, 0, g.n + 1⟩, ⟨⟨Nat.zero_le _, by show g.n < 0 + (g.n + 1); omega⟩, rfl⟩, ⟨rfl, rfl⟩, fun k _ => same_of rfl⟩, fun s hs => ?_⟩
  obtain ⟨h, a, k⟩ := s
  have hs : (a ≤ g.n ∧ g.n < a + k) ∧ insB g.n k h a = insB g.n (g.n + 1) g.f 0 := hs
  obtain ⟨⟨a1, a2⟩, hq⟩ := hs
  obtain ⟨k, rfl⟩ : ∃ j, k = j + 1 := ⟨k - 1, by omega⟩
  simp only []
  have e1 : ((a : Int) + 20).toNat = a + 20 := by omega
  rw [e1, show a + 20 - a - 1 = 19 by omega]
  have eb : insB g.n (k + 1) h a = if a + 20 ≤ g.n then insB g.n k (insF a h 19) (a + 20) else insF a h (g.n - a - 1) := rfl
  rw [eb] at hq
  refine ⟨fun hle => ?_, fun hgt => ?_⟩
  · rw [if_pos (by omega)] at hq
    exact ⟨⟨by omega, ⟨by omega, by omega⟩, by omega⟩, by omega, ⟨insF a h 19, a + 20, k⟩, ⟨⟨by show a + 20 ≤ g.n; omega, by show g.n < a + 20 + k; omega⟩, hq⟩, ⟨⟨by show (a : Int) + 20 = ((a + 20 : Nat) : Int); omega, by show (a : Int) + 20 + 20 = ((a + 20 : Nat) : Int) + 20; omega⟩, fun t _ => same_of rfl⟩, by show g.n - (a + 20) < g.n - a; omega⟩
  · rw [if_neg (by omega)] at hq
    refine ⟨⟨⟨a1, Nat.le_refl _⟩, by omega⟩, ⟨⟨insF a h (g.n - a - 1), 20, g.n⟩, ⟨⟨Nat.le_refl _, by show 20 ≤ 2 * g.n + 20; omega⟩, by show g.n ≤ 20 + g.n; omega, ?_⟩, rfl, fun t _ => same_of rfl⟩, fun o ho => ?_⟩
    · show mrgF g.n g.n (insF a h (g.n - a - 1)) 20 = srtF g.f g.n
      rw [hq]
      rfl
    · clear hq eb e1
      obtain ⟨h, z, k⟩ := o
      have ho : (20 ≤ z ∧ z ≤ 2 * g.n + 20) ∧ g.n ≤ z + k ∧ mrgF g.n k h z = srtE g := ho
      obtain ⟨⟨z1, z2⟩, z3, hm⟩ := ho
      simp only []
      refine ⟨fun hlt => ?_, fun hge t _ => same_of ?_⟩
      · obtain ⟨k, rfl⟩ : ∃ j, k = j + 1 := ⟨k - 1, by omega⟩
        have em : mrgF g.n (k + 1) h z = if z < g.n then mrgF g.n k (pasF g.n z g.n h 0) (2 * z) else h := rfl
        rw [em, if_pos (by omega)] at hm
        have hnext : ∀ h2, h2 = pasF g.n z g.n h 0 → (stI2 g).pre ⟨h2, 2 * z, k⟩ := fun h2 e => ⟨⟨by show 20 ≤ 2 * z; omega, by show 2 * z ≤ 2 * g.n + 20; omega⟩, by show g.n ≤ 2 * z + k; omega, by rw [e]; exact hm⟩
        have hmeas : g.n - 2 * z < g.n - z := by omega
        refine ⟨by omega, ⟨⟨h, 0, g.n⟩, ⟨⟨Nat.zero_le _, by show g.n ≤ 0 + g.n; omega⟩, rfl⟩, ⟨rfl, by show 2 * (z : Int) = ((0 : Nat) : Int) + 2 * z; omega⟩, fun t _ => same_of rfl⟩, fun s hs => ?_⟩
        obtain ⟨h', a, l⟩ := s
        have hs : (a ≤ g.n ∧ g.n ≤ a + l) ∧ pasF g.n z l h' a = pasF g.n z g.n h 0 := hs
        obtain ⟨⟨b1, b2⟩, hp⟩ := hs
        simp only []
        have e1 : ((a : Int) + (z : Int)).toNat = a + z := by omega
        have e2 : ((a : Int) + 2 * (z : Int)).toNat = a + 2 * z := by omega
        rw [e1, e2]
        have ep : ∀ l, pasF g.n z (l + 1) h' a = if a + 2 * z ≤ g.n then pasF g.n z l (symA h' a (a + z) (a + 2 * z)) (a + 2 * z) else if a + z < g.n then symA h' a (a + z) g.n else h' := fun _ => rfl
        refine ⟨fun hle => ?_, fun hgt => ⟨by omega, fun c => ?_, fun c => ?_⟩⟩
        · obtain ⟨l, rfl⟩ : ∃ j, l = j + 1 := ⟨l - 1, by omega⟩
          rw [ep, if_pos (by omega)] at hp
          exact ⟨by omega, ⟨⟨by omega, by omega⟩, ⟨by omega, by omega, by omega⟩, by omega⟩, by omega, by omega, ⟨symA h' a (a + z) (a + 2 * z), a + 2 * z, l⟩, ⟨⟨by show a + 2 * z ≤ g.n; omega, by show g.n ≤ a + 2 * z + l; omega⟩, hp⟩, ⟨⟨by show _ = ((a + 2 * z : Nat) : Int); omega, by show _ = ((a + 2 * z : Nat) : Int) + 2 * z; omega⟩, fun t _ => same_of rfl⟩, by show g.n - (a + 2 * z) < g.n - a; omega⟩
        · obtain ⟨l, rfl⟩ : ∃ j, l = j + 1 := ⟨l - 1, by omega⟩
          rw [ep, if_neg (by omega), if_pos (by omega)] at hp
          exact ⟨⟨by omega, ⟨by omega, by omega, Nat.le_refl _⟩, by omega⟩, by omega, ⟨symA h' a (a + z) g.n, 2 * z, k⟩, hnext _ hp, ⟨by show (z : Int) * 2 = ((2 * z : Nat) : Int); omega, fun t _ => same_of rfl⟩, hmeas⟩
        · have hp2 : h' = pasF g.n z g.n h 0 := by
            cases l with
            | zero => exact hp
            | succ l =>
              rw [ep, if_neg (by omega), if_neg (by omega)] at hp
              exact hp
          exact ⟨by omega, ⟨h', 2 * z, k⟩, hnext _ hp2, ⟨by show (z : Int) * 2 = ((2 * z : Nat) : Int); omega, fun t _ => same_of rfl⟩, hmeas⟩
      · rw [← hm]
        cases k with
        | zero => rfl
        | succ k =>
          show h t = (if z < g.n then _ else h) t
          rw [if_neg (by omega)]
def spSortE : FSpec := mkSpecM 99 [.arg 0] soD (fun _ => [.osl 0 0, cmpS]) (fun g => [edRow 0 g.n g.f]) (fun g => g.n ≤ 1048576) (fun _ => .tup 0 (lst [])) (fun g => [edRow 0 g.n (srtE g)])
theorem ok_sortE : SpecOK Try.prog spSortE := by
  refine spec_soundM (specs := [spStable]) (all_ok (⟨ok_stable, trivial⟩)) (eqs := []) (fun _ _ h => (List.not_mem_nil h).elim) Aff.mixed Try.func99 rfl (by kernel_rfl) (fun _ _ => by kernel_rfl) (fun g => A0) true (fun g => Nat.le_of_ble_eq_true (by kernel_rfl)) ?_
  rintro g hg
  refine vc_of (B := let z0 := (IntKind.i64 = IntKind.i64);True ∧ True ∧ True ∧ True ∧ ((True ∧ (True ∧ (Sx.Ask z0 ∧ Sx.Ask ((↑g.n : Int) = (↑g.n : Int))) ∧ (Sx.Ask ((100 : Go.FuncId) = (100 : Go.FuncId)) ∧ True) ∧ True) ∧ (Sx.Ask (g.n = g.n) ∧ ∀ (i : Nat), i < g.n → (((((True ∧ Sx.Ask z0 ∧ Sx.Ask ((g.f i).x = (g.f i).x)) ∧ Sx.Ask z0 ∧ Sx.Ask ((g.f i).y = (g.f i).y)) ∧ Sx.Ask z0 ∧ Sx.Ask ((g.f i).en = (g.f i).en)) ∧ Sx.Ask z0 ∧ Sx.Ask ((g.f i).dx = (g.f i).dx)) ∧ Sx.Ask z0 ∧ Sx.Ask ((g.f i).dy = (g.f i).dy)) ∧ Sx.Ask z0 ∧ Sx.Ask ((g.f i).s = (g.f i).s)) ∧ True) ∧ Sx.Ask (g.n ≤ (1048576 : Nat))) ∧ True ∧ True ∧ (True ∧ True) ∧ (Sx.Ask (g.n = g.n) ∧ ∀ (i : Nat), let z1 := (srtE g i); i < g.n → (((((True ∧ Sx.Ask z0 ∧ Sx.Ask (z1.x = z1.x)) ∧ Sx.Ask z0 ∧ Sx.Ask (z1.y = z1.y)) ∧ Sx.Ask z0 ∧ Sx.Ask (z1.en = z1.en)) ∧ Sx.Ask z0 ∧ Sx.Ask (z1.dx = z1.dx)) ∧ Sx.Ask z0 ∧ Sx.Ask (z1.dy = z1.dy)) ∧ Sx.Ask z0 ∧ Sx.Ask (z1.s = z1.s)) ∧ True) (by kernel_rfl) ?_
  simp only [ask_iff, br_iff, eq_self, true_and, and_true, implies_true, forall_const, decide_eq_true_eq, decide_eq_false_iff_not, ne_eq, Nat.mul_one, Nat.add_zero, Nat.zero_add, Int.toNat_natCast, and_self, List.append_assoc, false_and, and_false]
  exact hg
theorem sum_srt (g : SoG) (φ : Ed → Int) : sumN (fun k => φ (srtE g k)) g.n = sumN (fun k => φ (g.f k)) g.n := sum_srtF φ g.f g.n
theorem all_srt {P : Ed → Prop} (g : SoG) (h : ∀ k, k < g.n → P (g.f k)) : ∀ k, k < g.n → P (srtE g k) := all_srtF h
theorem srt_sorted (g : SoG) {p q : Nat} (h : p < q) (hq : q < g.n) : (srtE g p).y ≤ (srtE g q).y := srtF_srt g.f g.n p q (Nat.zero_le _) h hq
end Go.Proofs.Ytfjbjbmbdadmhaa.Flc
