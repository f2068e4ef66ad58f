/- Package region: Join, Of; printworkskeep1.near: by the evaluation. -/
import Derived.Test.YtbkgncikjhibiaaRgf
set_option linter.unusedSimpArgs false
set_option linter.unusedVariables false
namespace Go.Proofs.Ytbkgncikjhibiaa.Rgg
open Go.RowKit Sx Num Aff Con Rga Rgl Rgm Rgn Rgb Rgc Rgf
set_option maxRecDepth 100000
/-! Clone. -/
def spCloneR : FSpec := mkSpecN 63 (γ := Rg) (fun | [s] => some ⟨slLen s, rgD s⟩ | _ => none) (fun g => [rgS g]) (fun g => 0 < g.n ∧ g.n ≤ 4294967296) (fun _ => .osl 0 0) (fun g => rowS 0 g.n g.f)
theorem ok_cloneR : SpecOK Try.prog spCloneR := by
  refine spec_soundN (specs := []) (all_ok trivial) (eqs := []) (fun _ _ h => (List.not_mem_nil h).elim) Aff.mixed Try.func63 rfl (by kernel_rfl) (fun _ _ => by kernel_rfl) (fun g => (⟨[], [(1, [.nilc 0])]⟩ : Ann)) (fun _ => 0) (fun g => Nat.le_of_ble_eq_true (by kernel_rfl)) ?_
  rintro g ⟨h0, hn⟩
  refine vc_of (B := let z0 := (IntKind.i64 = IntKind.i64);True ∧ (g.n = (0 : Nat) → True ∧ True ∧ True ∧ True ∧ False) ∧ True ∧ True ∧ True ∧ True ∧ Sx.Ask ((0 : Nat) + g.n ≤ (9223372036854775807 : Nat) ∧ ((0 : Nat) + g.n) * (24 : Nat) ≤ (140737488355328 : Nat)) ∧ True ∧ True ∧ (True ∧ True) ∧ (Sx.Ask ((0 : Nat) + g.n = g.n) ∧ ∀ (i : Nat), let z1 := (g.f (i - (0 : Nat))); i < g.n → ((True ∧ Sx.Ask z0 ∧ Sx.Ask (z1.y = (g.f i).y)) ∧ Sx.Ask z0 ∧ Sx.Ask (z1.x0 = (g.f i).x0)) ∧ Sx.Ask z0 ∧ Sx.Ask (z1.x1 = (g.f i).x1)) ∧ True) (by kernel_rfl) ?_
  simp only [ask_iff, br_iff, eq_self, true_and, and_true, implies_true, forall_const, decide_eq_true_eq, decide_eq_false_iff_not, ne_eq, Nat.mul_one, Nat.add_zero, Nat.zero_add]
  refine ⟨fun h => by omega, by omega, fun i _ => ?_⟩
  rw [Nat.sub_zero]
  exact ⟨⟨rfl, rfl⟩, rfl⟩
def em (f : Nat → Rn) : SV := .sl 0 3 (fun i => lst (rnL (f i)))
def spClone0 : FSpec := mkSpec 63 (γ := Nat → Rn) (fun | [s] => some (rgD s) | _ => none) (fun f => [em f]) (fun _ => True) (fun f => em f)
theorem ok_clone0 : SpecOK Try.prog spClone0 := by
  refine spec_sound (specs := []) (all_ok trivial) (eqs := []) (fun _ _ h => (List.not_mem_nil h).elim) Aff.mixed Try.func63 rfl (by kernel_rfl) (fun _ _ => by kernel_rfl) (fun g => (⟨[], [(1, [.nilc 0])]⟩ : Ann)) (fun g => Nat.le_of_ble_eq_true (by kernel_rfl)) ?_
  rintro g hg
  refine vc_of (B := let z1 := (IntKind.i64 = IntKind.i64);let z0 := (0 : Nat);True ∧ (z0 = z0 → True ∧ True ∧ True ∧ True ∧ Sx.Ask (z0 = z0)) ∧ True ∧ True ∧ True ∧ True ∧ Sx.Ask (z0 + z0 ≤ (9223372036854775807 : Nat) ∧ (z0 + z0) * (24 : Nat) ≤ (140737488355328 : Nat)) ∧ True ∧ True ∧ Sx.Ask (z0 + z0 = z0) ∧ ∀ (i : Nat), i < z0 → ((True ∧ Sx.Ask z1 ∧ Sx.Ask ((g (i - z0)).y = (g i).y)) ∧ Sx.Ask z1 ∧ Sx.Ask ((g (i - z0)).x0 = (g i).x0)) ∧ Sx.Ask z1 ∧ Sx.Ask ((g (i - z0)).x1 = (g i).x1)) (by kernel_rfl) ?_
  simp only [ask_iff, br_iff, eq_self, true_and, and_true, implies_true, forall_const, decide_eq_true_eq, decide_eq_false_iff_not, ne_eq, Nat.mul_one, Nat.add_zero, Nat.zero_add]
  exact ⟨by decide, fun i hi => absurd hi (Nat.not_lt_zero _)⟩
/-! SortFunc of none. -/
def spSort0 : FSpec := mkSpec 64 (γ := Nat → Rn) (fun | [s, .fn _ _ _] => some (rgD s) | _ => none) (fun f => [em f, .fn 65 0 (lst [])]) (fun _ => True) (fun _ => .tup 0 (lst []))
theorem ok_sort0 : SpecOK Try.prog spSort0 := by
  refine specOK_of (enters_of Try.func64 (by kernel_rfl) rfl) (fun f _ vals w X hsz hr hX => ?_)
  have h0 := hr 0 (by show 0 < 2; decide)
  have h1 := hr 1 (by show 1 < 2; decide)
  obtain ⟨v0, v1, rfl⟩ : ∃ v0 v1, vals = #[v0, v1] := by
    have hs : vals.size = 2 := hsz
    exact ⟨vals[0], vals[1], by
      apply Array.ext
      · exact hs
      · intro i hi1 hi2
        have : i = 0 ∨ i = 1 := by omega
        rcases this with rfl | rfl <;> rfl⟩
  have h0 : R w X E0 (em f) v0 := h0
  have h1 : R w X E0 (.fn 65 0 (lst [])) v1 := h1
  have hv1 : v1 = .func (.func 65) #[] #[] := by
    cases h1 with
    | fn hs hr => rw [Array.size_eq_zero_iff.1 hs]
  subst hv1
  obtain ⟨a, cap, rfl⟩ : ∃ a cap, v0 = .slice a 0 cap := by
    unfold em at h0
    cases h0 with
    | sl0 => exact ⟨_, _, rfl⟩
    | sl => exact ⟨_, _, rfl⟩
  refine (AnyF.slices_SortFunc_none Try.sortrun a cap (.func (.func 65) #[] #[]) w).mono ?_
  rintro e w' ⟨rfl, rfl⟩
  exact ⟨_, rfl, .tup rfl (fun i hi => absurd hi (Nat.not_lt_zero _)), Below.refl _ _⟩
/-! Join. -/
def joOk (g : Rg) : Prop := (∀ i, i < g.n → okR (g.f i)) ∧ g.n ≤ 100000000
noncomputable def joOut (g : Rg) : List Rn := ofSet (mem g.L)
structure JoG where
  i : Nat
  L : List Rn
def joInv (g : Rg) : Inv := ⟨JoG, fun s => JoP (rI (srt g)) g.n s.i s.L, fun s => ⟨[(3, .own 1 0), (10, .osl 0 0), (11, .int .i64 g.n), (12, .int .i64 s.i)],
    [rowS 0 g.n (rI (srt g)), .cells 1 (lst [.osl 2 0]) 55, .row 0 s.L.length 3 (fun i => lst (rnL (rI s.L i))) 43]⟩, fun s => g.n - s.i⟩
noncomputable def spJoin1 : FSpec := mkSpec 44 (γ := Rg) (fun | [s] => some ⟨slLen s, rgD s⟩ | _ => none) (fun g => [rgS g]) (fun g => 0 < g.n ∧ joOk g) (fun g => runsS (joOut g))
theorem ok_join1 : SpecOK Try.prog spJoin1 := by
  refine spec_sound (specs := [spCloneR, spSort, spAddR]) (all_ok (⟨ok_cloneR, ok_sort, ok_addR, trivial⟩)) (eqs := []) (fun _ _ h => (List.not_mem_nil h).elim) Aff.mixed Try.func44 rfl (by kernel_rfl) (fun _ _ => by kernel_rfl) (fun g => (⟨[(5, .inv (joInv g))], [(4, [.ownC 1 0 43 3])]⟩ : Ann)) (fun g => Nat.le_of_ble_eq_true (by kernel_rfl)) ?_
  rintro g hg
  refine vc_of (B := let z9 := ((0 : Nat) = (0 : Nat));let z0 := (IntKind.i64 = IntKind.i64); let z8 := (Sx.Ask z0 ∧ Sx.Ask ((↑g.n : Int) = (↑g.n : Int))); let z3 := (Sx.Ask (g.n = g.n) ∧ ∀ (i : Nat), i < g.n → ((True ∧ Sx.Ask z0 ∧ Sx.Ask ((g.f i).y = (g.f i).y)) ∧ Sx.Ask z0 ∧ Sx.Ask ((g.f i).x0 = (g.f i).x0)) ∧ Sx.Ask z0 ∧ Sx.Ask ((g.f i).x1 = (g.f i).x1)); let z2 := (Sx.Ask (g.n = g.n) ∧ ∀ (i : Nat), let z5 := (Rga.rI (Rgf.srt g) i); i < g.n → ((True ∧ Sx.Ask z0 ∧ Sx.Ask (z5.y = z5.y)) ∧ Sx.Ask z0 ∧ Sx.Ask (z5.x0 = z5.x0)) ∧ Sx.Ask z0 ∧ Sx.Ask (z5.x1 = z5.x1));True ∧ True ∧ ((z3 ∧ True) ∧ Sx.Ask ((0 : Nat) < g.n ∧ g.n ≤ (4294967296 : Nat))) ∧ True ∧ True ∧ ((True ∧ (True ∧ (Sx.Ask ((65 : Nat) = (65 : Go.FuncId)) ∧ True) ∧ True) ∧ z3 ∧ True) ∧ Sx.Ask ((∀ (i : Nat), i < g.n → Rga.okR (g.f i)) ∧ g.n ≤ (4294967296 : Nat))) ∧ True ∧ True ∧ True ∧ True ∧ (∃ (g_1 : JoG), Sx.Ask ((joInv g).pre g_1) ∧ (Sx.Ask z9 ∧ True ∧ z8 ∧ (Sx.Ask z0 ∧ Sx.Ask ((0 : Int) = (↑g_1.i : Int))) ∧ True) ∧ z2 ∧ (True ∧ True) ∧ (Sx.Ask ((0 : Nat) = g_1.L.length) ∧ ∀ (i : Nat), i < g_1.L.length → ((True ∧ False) ∧ False) ∧ False) ∧ True) ∧ ∀ (g_1 : JoG), let z6 := (↑g_1.i : Int); let z1 := (Rga.rI (Rgf.srt g) z6.toNat); let z4 := (Rga.AdG.mk g_1.L.length (Rga.rI g_1.L) z1); (joInv g).pre g_1 → True ∧ Sx.Br (decide (z6 < (↑g.n : Int))) (Sx.Ask ((0 : Int) ≤ z6 ∧ z6 < (↑g.n : Int)) ∧ Sx.Ask (z6.toNat < g.n) ∧ True ∧ True ∧ True ∧ True ∧ True ∧ True ∧ True ∧ True ∧ ((True ∧ (Sx.Ask z9 ∧ (Sx.Ask z0 ∧ Sx.Ask (z1.y = z1.y)) ∧ (Sx.Ask z0 ∧ Sx.Ask (z1.x0 = z1.x0)) ∧ (Sx.Ask z0 ∧ Sx.Ask (z1.x1 = z1.x1)) ∧ True) ∧ (True ∧ True) ∧ (Sx.Ask (g_1.L.length = g_1.L.length) ∧ ∀ (i : Nat), let z7 := (Rga.rI g_1.L i); i < g_1.L.length → ((True ∧ Sx.Ask z0 ∧ Sx.Ask (z7.y = z7.y)) ∧ Sx.Ask z0 ∧ Sx.Ask (z7.x0 = z7.x0)) ∧ Sx.Ask z0 ∧ Sx.Ask (z7.x1 = z7.x1)) ∧ True) ∧ Sx.Ask (g_1.L.length ≤ (4294967296 : Nat))) ∧ Sx.Ask ((-9223372036854775808 : Int) ≤ z6 + (1 : Int) ∧ z6 + (1 : Int) ≤ (9223372036854775807 : Int)) ∧ True ∧ ∃ (g' : JoG), Sx.Ask ((joInv g).pre g') ∧ ((Sx.Ask z9 ∧ True ∧ z8 ∧ (Sx.Ask z0 ∧ Sx.Ask (z6 + (1 : Int) = (↑g'.i : Int))) ∧ True) ∧ z2 ∧ (True ∧ True) ∧ (Sx.Ask (z4.L.length = g'.L.length) ∧ ∀ (i : Nat), i < g'.L.length → ((True ∧ Sx.Ask z0 ∧ Sx.Ask ((Rga.rI z4.L i).y = (Rga.rI g'.L i).y)) ∧ Sx.Ask z0 ∧ Sx.Ask ((Rga.rI z4.L i).x0 = (Rga.rI g'.L i).x0)) ∧ Sx.Ask z0 ∧ Sx.Ask ((Rga.rI z4.L i).x1 = (Rga.rI g'.L i).x1)) ∧ True) ∧ Sx.Ask ((joInv g).meas g' < (joInv g).meas g_1)) (True ∧ True ∧ True ∧ True ∧ Sx.Ask (g_1.L.length = (joOut g).length) ∧ ∀ (i : Nat), let z10 := (Rga.rI (joOut g) i); i < (joOut g).length → ((True ∧ Sx.Ask z0 ∧ Sx.Ask ((Rga.rI g_1.L i).y = z10.y)) ∧ Sx.Ask z0 ∧ Sx.Ask ((Rga.rI g_1.L i).x0 = z10.x0)) ∧ Sx.Ask z0 ∧ Sx.Ask ((Rga.rI g_1.L i).x1 = z10.x1))) (by kernel_rfl) ?_
  simp only [ask_iff, br_iff, eq_self, true_and, and_true, implies_true, forall_const, decide_eq_true_eq, decide_eq_false_iff_not, ne_eq, Nat.mul_one, Nat.add_zero, Nat.zero_add]
  obtain ⟨h0, hok, hn⟩ := hg
  have hmem : ∀ k, k < g.n → rI (srt g) k ∈ srt g := fun k hk => by
    unfold rI
    rw [List.getD_eq_getElem?_getD, List.getElem?_eq_getElem (by rw [srt_len]; exact hk)]
    exact List.getElem_mem _
  have oks : ∀ k, k < g.n → okR (rI (srt g) k) := fun k hk => by
    obtain ⟨j, hj, e⟩ := List.mem_map.1 ((srt_perm g).mem_iff.1 (hmem k hk))
    rw [← e]
    exact hok j (List.mem_range.1 hj)
  have srt' : ∀ j k, j < k → k < g.n → le0 (rI (srt g) j) (rI (srt g) k) := fun j k hjk hk => by
    have h := srt_sorted g hjk hk
    rw [lt_iff'] at h
    obtain ⟨⟨⟨a1, a2⟩, ⟨a3, a4⟩, _⟩, _⟩ := oks j (by omega)
    obtain ⟨⟨⟨b1, b2⟩, ⟨b3, b4⟩, _⟩, _⟩ := oks k hk
    rw [cl_ok a1 (by omega), cl_ok a3 a4, cl_ok b1 (by omega), cl_ok b3 b4] at h
    unfold le0
    omega
  refine ⟨⟨h0, by omega⟩, ⟨hok, by omega⟩, ⟨⟨0, []⟩, jo_start _ _, rfl, rfl, fun k hk => absurd hk (Nat.not_lt_zero _)⟩, fun s P => ⟨fun hlt => ?_, fun hge => ?_⟩⟩
  · have P : JoP (rI (srt g)) g.n s.i s.L := P
    have hlt : s.i < g.n := by omega
    have hl := bnd P.hL
    have z : ((s.i : Int)).toNat = s.i := rfl
    rw [z, addL]
    refine ⟨by omega, hlt, hl, by omega, ⟨s.i + 1, addR s.L (rI (srt g) s.i)⟩, jo_step oks srt' P hlt, ⟨rfl, rfl, fun k _ => ⟨⟨rfl, rfl⟩, rfl⟩⟩, ?_⟩
    show g.n - (s.i + 1) < g.n - s.i
    omega
  · have P : JoP (rI (srt g)) g.n s.i s.L := P
    have hi := P.hi
    have e : s.i = g.n := by omega
    have hm := P.hm
    rw [e] at hm
    have es : Lf (rI (srt g)) g.n = srt g := by rw [← srt_len g]; exact Lf_rI _
    have eo : joOut g = s.L := ofSet_eq P.hL (fun y x => by rw [hm, es]; exact mem_congr (fun r => (srt_perm g).mem_iff) y x)
    rw [eo]
    exact ⟨rfl, fun k _ => ⟨⟨rfl, rfl⟩, rfl⟩⟩
def spJoin0 : FSpec := mkSpec 44 (γ := Nat → Rn) (fun | [s] => some (rgD s) | _ => none) (fun f => [em f]) (fun _ => True) (fun _ => em (fun _ => ⟨0, 0, 0⟩))
theorem ok_join0 : SpecOK Try.prog spJoin0 := by
  refine spec_sound (specs := [spClone0, spSort0]) (all_ok (⟨ok_clone0, ok_sort0, trivial⟩)) (eqs := []) (fun _ _ h => (List.not_mem_nil h).elim) Aff.mixed Try.func44 rfl (by kernel_rfl) (fun _ _ => by kernel_rfl) (fun g => (⟨[(5, .rounds 1)], [(4, [.ownC 0 0 43 3])]⟩ : Ann)) (fun g => Nat.le_of_ble_eq_true (by kernel_rfl)) ?_
  rintro g hg
  refine vc_of (B := let z1 := (IntKind.i64 = IntKind.i64);let z0 := (Sx.Ask ((0 : Nat) = (0 : Nat)) ∧ ∀ (i : Nat), i < (0 : Nat) → ((True ∧ Sx.Ask z1 ∧ Sx.Ask ((g i).y = (g i).y)) ∧ Sx.Ask z1 ∧ Sx.Ask ((g i).x0 = (g i).x0)) ∧ Sx.Ask z1 ∧ Sx.Ask ((g i).x1 = (g i).x1));True ∧ True ∧ ((z0 ∧ True) ∧ Sx.Ask True) ∧ True ∧ True ∧ ((z0 ∧ (Sx.Ask ((65 : Nat) = (65 : Go.FuncId)) ∧ True) ∧ True) ∧ Sx.Ask True) ∧ True ∧ True ∧ True ∧ True ∧ True ∧ True ∧ True ∧ True ∧ True ∧ Sx.Ask ((0 : Nat) = (0 : Nat)) ∧ ∀ (i : Nat), i < (0 : Nat) → ((True ∧ False) ∧ False) ∧ False) (by kernel_rfl) ?_
  simp only [ask_iff, br_iff, eq_self, true_and, and_true, implies_true, forall_const, decide_eq_true_eq, decide_eq_false_iff_not, ne_eq, Nat.mul_one, Nat.add_zero, Nat.zero_add]
  exact fun i hi => absurd hi (Nat.not_lt_zero _)
/-- A contract by cases. -/
theorem spec_case {P : Program} {f : FuncId} {γ γ0 : Type} {dec : List SV → Option γ} {args : γ → List SV} {pre pre1 : γ → Prop} {res : γ → SV} {dec0 : List SV → Option γ0} {args0 : γ0 → List SV} {pre0 : γ0 → Prop} {res0 : γ0 → SV}
    (h1 : SpecOK P (mkSpec f dec args pre1 res)) (h0 : SpecOK P (mkSpec f dec0 args0 pre0 res0))
    (hc : ∀ g, pre g → pre1 g ∨ ∃ g0, dec0 (args0 g0) = some g0 ∧ noOwns (args0 g0) ∧ (args0 g0).all (isPure 6) = true ∧ pre0 g0 ∧ args g = args0 g0 ∧ res g = res0 g0) : SpecOK P (mkSpec f dec args pre res) := by
  refine ⟨h1.1, fun args H HF nm y _ _ h => h, fun l H nm y hrun hp w0 X0 E w hrep hf vals ha => ?_⟩
  simp only [mkSpec] at hrun
  split at hrun
  case h_2 => cases hrun
  rename_i hpu
  split at hrun
  case h_2 => cases hrun
  rename_i g hdec
  cases hrun
  obtain ⟨hle, ⟨hpre⟩⟩ := hp
  rcases hc g hpre with h | ⟨g0, e1, e2, e3, e4, e5, e6⟩
  · refine h1.2.2 l H nm ⟨mkSpec.leArgs l (args g) ∧ Sx.Ask (pre1 g), res g, .keep⟩ ?_ ⟨hle, ⟨h⟩⟩ w0 X0 E w hrep hf vals ha
    simp only [mkSpec, hpu, hdec]
  · obtain ⟨hll, hle⟩ := leArgs_get hle
    have hr := args_pure ha hpu
    have hsz := ha.1
    have h := h0.2.2 (args0 g0) H nm ⟨mkSpec.leArgs (args0 g0) (args0 g0) ∧ Sx.Ask (pre0 g0), res0 g0, .keep⟩ (by simp only [mkSpec, e3, e1]) ⟨leArgs_refl e2, ⟨e4⟩⟩ w0 X0 E w hrep hf vals
      ⟨by rw [← e5]; omega, fun i hi => by
        rw [← e5] at hi ⊢
        exact up (pureR (fun _ hb => hb) (hle i hi) (hr i (by omega)))⟩
    rw [e6]
    exact h
theorem ofSet_nil (f : Nat → Rn) : joOut ⟨0, f⟩ = [] := ofSet_eq vld_nil (fun _ _ => rfl)
noncomputable def spJoin : FSpec := mkSpec 44 (γ := Rg) (fun | [s] => some ⟨slLen s, rgD s⟩ | _ => none) (fun g => [rgS g]) joOk (fun g => runsS (joOut g))
theorem ok_join : SpecOK Try.prog spJoin := by
  refine spec_case ok_join1 ok_join0 (fun g hg => ?_)
  rcases Nat.eq_zero_or_pos g.n with h | h
  · obtain ⟨n, f⟩ := g
    have h : n = 0 := h
    subst h
    exact .inr ⟨f, rfl, ⟨fun i j => noOwn_lst (l := rnL (f i)) ⟨trivial, trivial, trivial, trivial⟩ j, trivial⟩, rfl, trivial, rfl, by rw [ofSet_nil]; rfl⟩
  · exact .inl ⟨h, hg⟩
end Go.Proofs.Ytbkgncikjhibiaa.Rgg
