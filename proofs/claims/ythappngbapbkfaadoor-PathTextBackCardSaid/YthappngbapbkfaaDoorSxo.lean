import Derived.Test.YthappngbapbkfaaDoorSxl
/- The evaluation tells the truth: any operation, with its operands. -/
namespace Go.Proofs.YthappngbapbkfaaDoor.Sx
open Go.RowKit
theorem optV_cut {kh km : IntKind} : optV (some (kh, 0)) = some (.int kh 0) ∧ optV (some (km, 0)) = some (.int km 0) := ⟨rfl, rfl⟩
theorem lit_inv {w X E b v} (h : R w X E (.lit b) v) : v = .bool b := by cases h; rfl
theorem bool_inv {w X E b v} (h : R w X E (.bool b) v) : v = .bool b := by cases h; rfl
theorem evStore_val {ti : Nat × Bool} {H : List SO} {x z : SV} {y : Yd} (h : evStore ti H x z = some y) : y.val = .any := by
  unfold evStore at h
  repeat' (split at h)
  all_goals first | (cases h; done) | (cases h; rfl)
theorem fn_inv {w X E f n g v} (h : R w X E (.fn f n g) v) : ∃ vs, v = .func (.func f) #[] vs ∧ vs.size = n ∧ ∀ i, i < n → R w X E (g i) (vs.getD i undef) := by
  cases h with
  | fn hs hr => exact ⟨_, rfl, hs, hr⟩
theorem args_append {w X E} {ss : List SV} {vs : Array Value} (h : ArgsR w X E ss vs) {n : Nat} {g : Nat → SV} {cs : Array Value} (hs : cs.size = n) (hr : ∀ i, i < n → R w X E (g i) (cs.getD i undef)) :
    ArgsR w X E (ss ++ (List.range n).map g) (vs ++ cs) := by
  obtain ⟨h1, h2⟩ := h
  refine ⟨by simp [h1, hs], fun i hi => ?_⟩
  simp only [List.length_append, List.length_map, List.length_range] at hi
  by_cases hlt : i < ss.length
  · have e1 : (ss ++ (List.range n).map g).getD i .any = ss.getD i .any := getD_append_left hlt
    have e2 : (vs ++ cs).getD i undef = vs.getD i undef := by
      rw [Array.getD_eq_getD_getElem?, Array.getElem?_append_left (by omega), Array.getD_eq_getD_getElem?]
    rw [e1, e2]
    exact h2 i hlt
  · have e1 : (ss ++ (List.range n).map g).getD i .any = g (i - ss.length) := by
      rw [List.getD_eq_getElem?_getD, List.getElem?_append_right (by omega), List.getElem?_map, List.getElem?_range (by omega)]
      rfl
    have e2 : (vs ++ cs).getD i undef = cs.getD (i - ss.length) undef := by
      rw [Array.getD_eq_getD_getElem?, Array.getElem?_append_right (by omega), Array.getD_eq_getD_getElem?, h1]
    rw [e1, e2]
    exact hr _ (by omega)
theorem evOp_sound {P : Program} {w0 X0 H E w nm} (h : Rep w0 X0 H E w) {specs : List FSpec} (hspecs : ∀ s ∈ specs, SpecAt P w0 X0 s) {eqs : List (TypeId × List CK)} (heqs : ∀ t n, (t, n) ∈ eqs → EqOK P t n)
    {n0 : Option Nat} {N : Nat} {τ : Tmps} {a : Act} (ht : TR n0 w (Xo X0 E H) E N τ a) {o : Oper} {y : Yd} (hy : evOp P specs eqs N τ H nm o = some y) (hask : y.ask) (hf : Free H E nm y.eff) :
    OpOK P o a w (fun v w' => Goes w0 X0 H E w nm y.eff y.val v w') := by
  have ev := fun x => evO_sound ht x
  unfold evOp at hy
  split at hy
  · rename_i x ho
    simp only [pureY, Option.some.injEq] at hy
    subst hy
    exact opOK_val ⟨_, w, by simp only [execOp, ho, Sem.run_pure], Goes.pure h (ev x)⟩
  · rename_i x ho
    simp only [pureY, Option.some.injEq] at hy
    subst hy
    exact opOK_val ⟨_, w, by simp only [execOp, ho, Sem.run_pure], Goes.pure h (ev x)⟩
  · rename_i c p q ho
    split at hy
    · rename_i t e1
      have hvc := lit_inv (e1 ▸ ev c)
      cases t with
      | true =>
        simp only [pureY, Option.some.injEq] at hy
        subst hy
        exact opOK_val ⟨a.eval p, w, by simp only [execOp, ho, hvc, asBool, Sem.run_bind, Sem.run_pure, Result.andThen_ok, if_true], Goes.pure h (ev p)⟩
      | false =>
        simp only [pureY, Option.some.injEq] at hy
        subst hy
        exact opOK_val ⟨a.eval q, w, by simp only [execOp, ho, hvc, asBool, Sem.run_bind, Sem.run_pure, Result.andThen_ok, Bool.false_eq_true, if_false], Goes.pure h (ev q)⟩
    · rename_i b1 e1
      split at hy
      case h_2 => cases hy
      rename_i b2 b3 e2 e3
      simp only [pureY, Option.some.injEq] at hy
      subst hy
      have hvc := bool_inv (e1 ▸ ev c)
      have hvp := asB_inv e2 (ev p)
      have hvq := asB_inv e3 (ev q)
      refine opOK_val ⟨.bool (if b1 = true then b2 else b3), w, ?_, Goes.pure h .bool⟩
      simp only [execOp, ho, hvc, hvp, hvq, asBool, Sem.run_bind, Sem.run_pure, Result.andThen_ok]
      cases b1 <;> rfl
    · cases hy
  · rename_i T ho
    cases hz : tzero P T with
    | none => simp [hz] at hy
    | some z =>
      simp only [hz, Option.some.injEq] at hy
      subst hy
      obtain ⟨u, w', h1, h2⟩ := alloc_sound (P := P) h hz hf
      exact opOK_val ⟨u, w', by simp only [execOp, ho, Sem.run_bind, h1, Result.andThen_ok, Sem.run_pure], h2⟩
  · rename_i T x ho
    cases hc : cellsOf (evO N τ x) with
    | none => simp [hc] at hy
    | some ng =>
      obtain ⟨n, g⟩ := ng
      simp only [hc, Option.some.injEq] at hy
      subst hy
      obtain ⟨u, w', h1, h2⟩ := box_sound (P := P) h (ev x) hc hf
      exact opOK_val ⟨u, w', by simp only [execOp, ho, Sem.run_bind, h1, Result.andThen_ok, Sem.run_pure], h2⟩
  · rename_i T parts ho
    have hps := parts_sound ht parts.toList
    have hmap : (parts.map fun p : Nat × Operand => (p.1, a.eval p.2)).toList = parts.toList.map fun p => (p.1, a.eval p.2) := Array.toList_map ..
    rw [← hmap] at hps
    have fin : (∃ u w', (Instr.build T (parts.map fun p : Nat × Operand => (p.1, a.eval p.2))).run P w = .ok u w' ∧ Goes w0 X0 H E w nm y.eff y.val u w') → OpOK P o a w (fun v w' => Goes w0 X0 H E w nm y.eff y.val v w') := by
      rintro ⟨u, w', h1, h2⟩
      exact opOK_val ⟨u, w', by simp only [execOp, ho, Sem.run_bind, h1, Result.andThen_ok, Sem.run_pure], h2⟩
    cases hz : tzero P T with
    | none => simp [hz] at hy
    | some z =>
      simp only [hz] at hy
      cases hfl : tflds P T with
      | some fl =>
        simp only [hfl] at hy
        exact fin (evBuildS_sound (P := P) h hz hfl hps hy)
      | none =>
        simp only [hfl] at hy
        cases hai : tarr P T with
        | none => simp [hai] at hy
        | some ai =>
          simp only [hai] at hy
          exact fin (evBuildA_sound (P := P) h hz hai hps hy)
  · rename_i T len parts ho
    have hps := parts_sound ht parts.toList
    have hmap : (parts.map fun p : Nat × Operand => (p.1, a.eval p.2)).toList = parts.toList.map fun p => (p.1, a.eval p.2) := Array.toList_map ..
    rw [← hmap] at hps
    cases hte : tsl P T with
    | none => simp [hte] at hy
    | some te =>
      simp only [hte] at hy
      cases hz : tzero P te.1 with
      | none => simp [hz] at hy
      | some z =>
        simp only [hz] at hy
        obtain ⟨u, w', h1, h2⟩ := evBuildSlice_sound (P := P) h hte hz hps hy hf
        exact opOK_val ⟨u, w', by simp only [execOp, ho, Sem.run_bind, h1, Result.andThen_ok, Sem.run_pure], h2⟩
  · rename_i T x ho
    cases hti : tinf P T with
    | none => simp [hti] at hy
    | some ti =>
      simp only [hti] at hy
      obtain ⟨u, w', h1, h2⟩ := evLoad_sound (P := P) (nm := nm) h hti (ev x) hy hask
      exact opOK_val ⟨u, w', by simp only [execOp, ho, Sem.run_bind, h1, Result.andThen_ok, Sem.run_pure], h2⟩
  · rename_i T x z ho
    cases hti : tinf P T with
    | none => simp [hti] at hy
    | some ti =>
      simp only [hti] at hy
      obtain ⟨w', h1, h2⟩ := evStore_sound (P := P) (nm := nm) h hti (ev x) (ev z) hy hask
      have hval : y.val = .any := evStore_val hy
      exact opOK_skip ⟨w', by simp only [execOp, ho, Sem.run_bind, h1, Result.andThen_ok, Sem.run_pure], by rw [hval]; exact h2⟩
  · rename_i x ho
    exact opOK_val (evNil_sound (P := P) (nm := nm) h (ev x) hy ho)
  · rename_i op T x z yT ho
    split at hy
    · rename_i hnil
      split at hy
      case h_2 => cases hy
      rename_i te hte
      obtain ⟨n, c, hz⟩ : ∃ n c, a.eval z = .slice none n c := by
        cases z <;> simp only [isNilO, Bool.false_eq_true] at hnil
        rename_i v
        cases v <;> simp only [Bool.false_eq_true] at hnil
        rename_i ad n c
        cases ad
        · exact ⟨n, c, rfl⟩
        · cases hnil
      obtain ⟨u, w', h1, h2⟩ := evNilC_sound (P := P) (nm := nm) (xo := x) (yo := z) (n := n) (c := c) h hte (ev x) hy
      refine opOK_val ⟨u, w', ?_, h2⟩
      simp only [execOp, ho, hz, Sem.run_bind] at h1 ⊢
      rw [h1]
      rfl
    · obtain ⟨u, w', h1, h2⟩ := ev2_sound (P := P) (nm := nm) (xo := x) (yo := z) h heqs (ev x) (ev z) hy hask
      refine opOK_val ⟨u, w', ?_, h2⟩
      simp only [execOp, ho, Sem.run_bind] at h1 ⊢
      rw [h1]
      rfl
  · rename_i op T x ho
    obtain ⟨u, w', h1, h2⟩ := ev1_sound (P := P) (nm := nm) h (ev x) hy hask
    exact opOK_val ⟨u, w', by simp only [execOp, ho, Sem.run_bind, h1, Result.andThen_ok, Sem.run_pure], h2⟩
  · rename_i s d x ho
    split at hy
    case h_2 => cases hy
    rename_i k1 k2 e1 e2
    obtain ⟨u, w', h1, h2⟩ := evConvert_sound (P := P) (nm := nm) h (by rw [e1]; simp) e2 (ev x) hy hask
    exact opOK_val ⟨u, w', by simp only [execOp, ho, Sem.run_bind, h1, Result.andThen_ok, Sem.run_pure], h2⟩
  · rename_i f first caps ho
    obtain ⟨hfs, hyy⟩ := ite_some (show (if first.size = 0 then some (Yd.mk True (.fn f caps.size (fun i => (mapArgs N τ caps).getD i .any)) .keep) else none) = some y from hy)
    subst hyy
    have hfe : first = #[] := Array.eq_empty_of_size_eq_zero hfs
    obtain ⟨g1, g2⟩ := args_sound ht caps
    refine opOK_val ⟨.func (.func f) #[] (caps.map a.eval), w, ?_, Goes.pure h (.fn (by simp) fun i hi => g2 i (by simpa [mapArgs] using hi))⟩
    simp only [execOp, ho, Instr.makeFunc, hfe, Sem.run_bind, Sem.run_pure, Result.andThen_ok, Array.map_empty]
  · rename_i T l c ho
    cases hte : tsl P T with
    | none => simp [hte] at hy
    | some te =>
      simp only [hte] at hy
      cases hz : tzero P te.1 with
      | none => simp [hz] at hy
      | some z =>
        simp only [hz] at hy
        split at hy
        case h_2 => cases hy
        rename_i kl l' kc c' e1 e2
        have hv1 := int_inv (e1 ▸ ev l)
        have hv2 := int_inv (e2 ▸ ev c)
        obtain ⟨u, w', h1, h2⟩ := evMakeSlice_sound (P := P) (kl := kl) (kc := kc) h hte hz hy hask hf
        exact opOK_val ⟨u, w', by simp only [execOp, ho, hv1, hv2, Sem.run_bind, h1, Result.andThen_ok, Sem.run_pure], h2⟩
  · rename_i T x lo hi mx ho
    cases hte : tsl P T with
    | none => simp [hte] at hy
    | some te =>
      simp only [hte] at hy
      split at hy
      case h_2 => cases hy
      rename_i lo' hi' mx' e1 e2 e3
      have o1 := optO_sound ht e1
      have o2 := optO_sound ht e2
      have o3 := optO_sound ht e3
      have fin : (∃ u w', (Instr.sliceAt T (a.eval x) (optV lo') (optV hi') (optV mx')).run P w = .ok u w' ∧ Goes w0 X0 H E w nm y.eff y.val u w') → OpOK P o a w (fun v w' => Goes w0 X0 H E w nm y.eff y.val v w') := by
        rintro ⟨u, w', h1, h2⟩
        exact opOK_val ⟨u, w', by simp only [execOp, ho, o1, o2, o3, Sem.run_bind, h1, Result.andThen_ok, Sem.run_pure], h2⟩
      split at hy
      · split at hy
        · rename_i hc
          obtain ⟨rfl, rfl⟩ := hc
          exact fin (evCut0_sound (P := P) (nm := nm) h hte (ev x) hy)
        · exact fin (evSlice_sound (P := P) (nm := nm) h hte (ev x) hy hask)
      · exact fin (evSlice_sound (P := P) (nm := nm) h hte (ev x) hy hask)
  · rename_i T x f ho
    cases hfd : tfld P T f with
    | none => simp [hfd] at hy
    | some fd =>
      simp only [hfd] at hy
      obtain ⟨u, w', h1, h2⟩ := evFieldAddr_sound (P := P) (nm := nm) h hfd (ev x) hy
      exact opOK_val ⟨u, w', by simp only [execOp, ho, Sem.run_bind, h1, Result.andThen_ok, Sem.run_pure], h2⟩
  · rename_i T x f ho
    cases hfd : tfld P T f with
    | none => simp [hfd] at hy
    | some fd =>
      simp only [hfd] at hy
      obtain ⟨u, w', h1, h2⟩ := evField_sound (P := P) (nm := nm) h hfd (ev x) hy
      exact opOK_val ⟨u, w', by simp only [execOp, ho, Sem.run_bind, h1, Result.andThen_ok, Sem.run_pure], h2⟩
  · rename_i T x i ho
    split at hy
    case h_2 => cases hy
    rename_i k i' e1
    have hv := int_inv (e1 ▸ ev i)
    cases hte : tsl P T with
    | some te =>
      simp only [hte] at hy
      obtain ⟨u, w', h1, h2⟩ := evIndexAddrS_sound (P := P) (nm := nm) (k := k) h hte (ev x) hy hask
      exact opOK_val ⟨u, w', by simp only [execOp, ho, hv, Sem.run_bind, h1, Result.andThen_ok, Sem.run_pure], h2⟩
    | none =>
      simp only [hte] at hy
      cases hai : tarr P T with
      | none => simp [hai] at hy
      | some ai =>
        simp only [hai] at hy
        obtain ⟨u, w', h1, h2⟩ := evIndexAddrA_sound (P := P) (nm := nm) (k := k) h hai (ev x) hy hask
        exact opOK_val ⟨u, w', by simp only [execOp, ho, hv, Sem.run_bind, h1, Result.andThen_ok, Sem.run_pure], h2⟩
  · rename_i T x i ho
    split at hy
    case h_2 => cases hy
    rename_i k i' e1
    have hv := int_inv (e1 ▸ ev i)
    cases hai : tarr P T with
    | none =>
      simp only [hai] at hy
      cases hst : tstr P T with
      | false => simp [hst] at hy
      | true =>
        simp only [hst] at hy
        obtain ⟨u, w', h1, h2⟩ := evIndexB_sound (P := P) (nm := nm) (k := k) h hst (ev x) hy hask
        exact opOK_val ⟨u, w', by simp only [execOp, ho, hv, Sem.run_bind, h1, Result.andThen_ok, Sem.run_pure], h2⟩
    | some ai =>
      simp only [hai] at hy
      obtain ⟨u, w', h1, h2⟩ := evIndex_sound (P := P) (nm := nm) (k := k) h hai (ev x) hy hask
      exact opOK_val ⟨u, w', by simp only [execOp, ho, hv, Sem.run_bind, h1, Result.andThen_ok, Sem.run_pure], h2⟩
  · rename_i x i ho
    obtain ⟨u, w', h1, h2⟩ := evExtract_sound (P := P) (nm := nm) h (ev x) hy
    exact opOK_val ⟨u, w', by simp only [execOp, ho, Sem.run_bind, h1, Result.andThen_ok, Sem.run_pure], h2⟩
  · rename_i c ho
    have hargs := args_sound ht c.args
    split at hy
    · rename_i b hb
      obtain ⟨u, w', h1, h2⟩ := evBuiltin_sound (P := P) (nm := nm) (ty := o.type) (cs := c.args.map fun | .const _ => true | _ => false) h hargs hy hask hf
      refine opOK_val ⟨u, w', ?_, h2⟩
      obtain ⟨cc, ca, ct⟩ := c
      simp only at hb
      subst hb
      simp only [execOp, ho, resolve, Sem.run_bind, Sem.run_pure, Result.andThen_ok, invoke]
      exact h1
    · rename_i fo hb
      split at hy
      case h_2 => cases hy
      rename_i F n g e1
      obtain ⟨vs, hv, hs, hr⟩ := fn_inv (e1 ▸ ev fo)
      obtain ⟨h1, h2⟩ := evCall_sound (P := P) (nm := nm) h hspecs (args_append hargs hs hr) hy hask hf
      refine opOK_call ?_ h2
      obtain ⟨cc, ca, ct⟩ := c
      simp only at hb
      subst hb
      simp only [execOp, ho, resolve, Sem.run_bind, Sem.run_pure, Result.andThen_ok, hv, Deferred.ofValue, invoke, Array.empty_append]
      exact h1
    · cases hy
  · rename_i T r ho
    split at hy
    case h_2 => cases hy
    obtain ⟨u, w', h1, h2⟩ := evMakeMap_sound h hy hf
    exact opOK_val ⟨u, w', by simp only [execOp, ho, Option.map_none, Sem.run_bind, h1, Result.andThen_ok, Sem.run_pure], h2⟩
  · rename_i T x i ok ho
    split at hy
    case h_2 => cases hy
    rename_i ke hke
    split at hy
    case h_2 => cases hy
    rename_i kk z hkk hz
    obtain ⟨u, w', h1, h2⟩ := evLookup_sound h hke hkk hz (ev x) (ev i) hy hask
    exact opOK_val ⟨u, w', by simp only [execOp, ho, Sem.run_bind, h1, Result.andThen_ok, Sem.run_pure], h2⟩
  · rename_i T x i v ho
    split at hy
    case h_2 => cases hy
    rename_i ke hke
    split at hy
    case h_2 => cases hy
    rename_i kk hkk
    obtain ⟨w', h1, h2, h3⟩ := evMapUpd_sound h hke hkk (ev x) (ev i) (ev v) hy hask
    rw [h3]
    exact opOK_skip ⟨w', by simp only [execOp, ho, Sem.run_bind, h1, Result.andThen_ok, Sem.run_pure], h2⟩
  · cases hy
end Go.Proofs.YthappngbapbkfaaDoor.Sx
/- The evaluation of a region whose order is the text's. -/
namespace Go.Proofs.YthappngbapbkfaaDoor.Sx
open Go.RowKit
theorem Ext.app (H l : List SO) : Ext H (H ++ l) := by
  intro k hk
  refine getD_append_left (Nat.not_le.1 fun hc => hk ?_)
  rw [List.getD_eq_getElem?_getD, List.getElem?_eq_none hc]
  rfl
theorem evLoad_ext {ti H HF x y} (he : Ext H HF) (h : evLoad ti H x = some y) : evLoad ti HF x = some y := by
  cases x <;> simp only [evLoad, reduceCtorEq] at h ⊢
  case own k off =>
    generalize hk : H.getD k .dead = so at h
    cases so <;> simp only [reduceCtorEq] at h <;> rw [he k (by rw [hk]; simp), hk] <;> exact h
  case ownAt k ver i m off =>
    generalize hk : H.getD k .dead = so at h
    cases so <;> simp only [reduceCtorEq] at h <;> rw [he k (by rw [hk]; simp), hk] <;> exact h
  all_goals exact h
theorem evStore_ext {ti H HF x z y} (he : Ext H HF) (h : evStore ti H x z = some y) : evStore ti HF x z = some y := by
  unfold evStore at h ⊢
  cases hc : cellsOf z with
  | none => simp [hc] at h
  | some mf =>
    simp only [hc] at h ⊢
    split at h
    case isFalse => cases h
    rename_i hm
    rw [if_pos hm]
    cases x <;> simp only [reduceCtorEq] at h ⊢
    case own k off =>
      generalize hk : H.getD k .dead = so at h
      cases so <;> (try (simp only [reduceCtorEq] at h; done)) <;> rw [he k (by rw [hk]; simp), hk] <;> exact h
    case ownAt k ver i m off =>
      generalize hk : H.getD k .dead = so at h
      cases so <;> simp only [reduceCtorEq] at h <;> rw [he k (by rw [hk]; simp), hk] <;> exact h
theorem evIndexAddrS_ext {es H HF i x y} (he : Ext H HF) (h : evIndexAddrS es H i x = some y) : evIndexAddrS es HF i x = some y := by
  cases x <;> simp only [evIndexAddrS, reduceCtorEq] at h ⊢
  case osl k ver =>
    generalize hk : H.getD k .dead = so at h
    cases so <;> simp only [reduceCtorEq] at h <;> rw [he k (by rw [hk]; simp), hk] <;> exact h
  case win k ver n lo len =>
    generalize hk : H.getD k .dead = so at h
    cases so <;> simp only [reduceCtorEq] at h <;> rw [he k (by rw [hk]; simp), hk] <;> exact h
  all_goals exact h
theorem evSlice_ext {es H HF lo hi mx x y} (he : Ext H HF) (h : evSlice es H lo hi mx x = some y) : evSlice es HF lo hi mx x = some y := by
  cases x <;> simp only [evSlice, reduceCtorEq] at h ⊢
  case osl k ver =>
    generalize hk : H.getD k .dead = so at h
    cases so <;> simp only [reduceCtorEq] at h <;> rw [he k (by rw [hk]; simp), hk] <;> exact h
  case win k ver n lo0 len =>
    generalize hk : H.getD k .dead = so at h
    cases so <;> simp only [reduceCtorEq] at h <;> rw [he k (by rw [hk]; simp), hk] <;> exact h
  all_goals exact h
theorem srcOf_ext {H HF x y} (he : Ext H HF) (h : srcOf H x = some y) : srcOf HF x = some y := by
  cases x <;> simp only [srcOf, reduceCtorEq] at h ⊢
  case osl k ver =>
    generalize hk : H.getD k .dead = so at h
    cases so <;> simp only [reduceCtorEq] at h <;> rw [he k (by rw [hk]; simp), hk] <;> exact h
  case win k ver n lo len =>
    generalize hk : H.getD k .dead = so at h
    cases so <;> simp only [reduceCtorEq] at h <;> rw [he k (by rw [hk]; simp), hk] <;> exact h
  all_goals exact h
theorem lenOf_ext {H HF x y} (he : Ext H HF) (h : lenOf H x = some y) : lenOf HF x = some y := by
  have viaSrc : (srcOf H x).map (·.1) = some y → (srcOf HF x).map (·.1) = some y := by
    intro h
    cases hs : srcOf H x with
    | none => simp [hs] at h
    | some q => rw [srcOf_ext he hs]; rw [hs] at h; exact h
  cases x <;> first | exact h | exact viaSrc h | skip
  rename_i k ver
  simp only [lenOf] at h ⊢
  by_cases hd : H.getD k .dead = .dead
  · rw [hd] at h
    simp only [srcOf, hd] at h
    cases h
  · rw [he k hd]
    split at h
    · exact h
    · exact viaSrc h
theorem evAppendD_ext {te H HF s x y} (he : Ext H HF) (h : evAppendD te H s x = some y) : evAppendD te HF s x = some y := by
  unfold evAppendD at h ⊢
  split at h
  case h_2 => cases h
  rename_i k ver
  split at h
  case h_2 => cases h
  rename_i k2 ver2
  split at h
  case h_2 => cases h
  rename_i hk
  split at h
  case h_2 => cases h
  rename_i hk2
  have e1 := he k (by rw [hk]; simp)
  have e2 := he k2 (by rw [hk2]; simp)
  simp only [e1, e2, hk, hk2]
  exact h
theorem evAppend_ext {te H HF nm s x y} (he : Ext H HF) (h : evAppend te H nm s x = some y) : evAppend te HF nm s x = some y := by
  unfold evAppend at h ⊢
  cases hs : srcOf H x with
  | none =>
    simp only [hs] at h
    have hF : srcOf HF x = none := by
      unfold evAppendD at h
      split at h
      case h_2 => cases h
      split at h
      case h_2 => cases h
      rename_i k2 ver2
      split at h
      case h_2 => cases h
      split at h
      case h_2 => cases h
      rename_i hk2
      simp only [srcOf, he k2 (by rw [hk2]; simp), hk2]
    simp only [hF]
    exact evAppendD_ext he h
  | some q =>
    rw [srcOf_ext he hs]
    simp only [hs] at h ⊢
    split at h
    case isFalse => cases h
    rename_i hc
    rw [if_pos hc]
    cases s <;> simp only [reduceCtorEq] at h ⊢
    case osl k ver =>
      generalize hk : H.getD k .dead = so at h
      cases so <;> simp only [reduceCtorEq] at h <;> rw [he k (by rw [hk]; simp), hk] <;> exact h
    exact h
theorem evCopy_ext {te H HF s x y} (he : Ext H HF) (h : evCopy te H s x = some y) : evCopy te HF s x = some y := by
  unfold evCopy at h ⊢
  cases hs : srcOf H x with
  | none => simp [hs] at h
  | some q =>
    rw [srcOf_ext he hs]
    simp only [hs] at h ⊢
    cases s <;> simp only [reduceCtorEq] at h ⊢
    case osl k ver =>
      generalize hk : H.getD k .dead = so at h
      cases so <;> simp only [reduceCtorEq] at h <;> rw [he k (by rw [hk]; simp), hk] <;> exact h
    case win k ver n lo len =>
      generalize hk : H.getD k .dead = so at h
      cases so <;> simp only [reduceCtorEq] at h <;> rw [he k (by rw [hk]; simp), hk] <;> exact h
theorem evClear_ext {te z H HF s y} (he : Ext H HF) (h : evClear te z H s = some y) : evClear te z HF s = some y := by
  unfold evClear at h ⊢
  cases s <;> simp only [reduceCtorEq] at h ⊢
  case win k ver n lo len =>
    generalize hk : H.getD k .dead = so at h
    cases so <;> simp only [reduceCtorEq] at h <;> rw [he k (by rw [hk]; simp), hk] <;> exact h
theorem evBuiltin_ext {P H HF nm b ats ss y} (he : Ext H HF) (h : evBuiltin P H nm b ats ss = some y) : evBuiltin P HF nm b ats ss = some y := by
  unfold evBuiltin at h ⊢
  split at h
  · split at h
    case h_2 => cases h
    split at h
    case isFalse => cases h
    rename_i htt
    subst htt
    simp only [if_true]
    split at h
    case h_2 => cases h
    split at h
    case h_2 => cases h
    exact evAppend_ext he h
  · split at h
    case h_2 => cases h
    split at h
    · split at h
      · cases h
      · split at h
        case h_2 => cases h
        rename_i n hn
        rw [lenOf_ext he hn]
        exact h
    · exact h
  · split at h
    case h_2 => cases h
    split at h
    case h_2 => cases h
    exact evCopy_ext he h
  · repeat' (split at h)
    all_goals first | (cases h; done) | skip
    exact evClear_ext he h
  · exact h
  · exact h
  · cases h
theorem evLookup_ext {kk z H HF x i ok y} (he : Ext H HF) (h : evLookup kk z H x i ok = some y) : evLookup kk z HF x i ok = some y := by
  unfold evLookup at h ⊢
  split at h
  case h_2 => cases h
  rename_i k
  have hne : H.getD k .dead ≠ .dead := fun hc => by rw [hc] at h; cases h
  rw [he k hne]
  exact h
theorem evMapUpd_sets {kk H x i v y} (h : evMapUpd kk H x i v = some y) : ∃ l, y.eff = .sets l := by
  unfold evMapUpd at h
  repeat' (split at h)
  all_goals first | (cases h; done) | (cases h; exact ⟨_, rfl⟩) | (obtain ⟨_, rfl⟩ := ite_some h; exact ⟨_, rfl⟩)
theorem evLookup_eff {kk z H x i ok y} (h : evLookup kk z H x i ok = some y) : y.eff = .keep := by
  unfold evLookup at h
  repeat' (split at h)
  all_goals first | (cases h; done) | (cases h; rfl) | (obtain ⟨_, rfl⟩ := ite_some h; rfl)
theorem evMakeMap_eff {P t nm y} (h : evMakeMap P t nm = some y) : ∃ so, y.eff = .new so := by
  unfold evMakeMap at h
  repeat' (split at h)
  all_goals first | (cases h; done) | (cases h; exact ⟨_, rfl⟩)
theorem evOp_ext {P : Program} {w0 : World} {X0 : Fr} {specs eqs N τ H HF nm o y} (hspecs : ∀ s ∈ specs, SpecAt P w0 X0 s) (he : Ext H HF) (hns : ∀ l, y.eff ≠ .sets l) (h : evOp P specs eqs N τ H nm o = some y) : evOp P specs eqs N τ HF nm o = some y := by
  unfold evOp at h ⊢
  split at h
  case h_8 =>
    rename_i T x ho
    cases hti : tinf P T with
    | none => simp [hti] at h
    | some ti => simp only [hti] at h ⊢; exact evLoad_ext he h
  case h_9 =>
    rename_i T x z ho
    cases hti : tinf P T with
    | none => simp [hti] at h
    | some ti => simp only [hti] at h ⊢; exact evStore_ext he h
  case h_16 =>
    rename_i T x lo hi mx ho
    cases hte : tsl P T with
    | none => simp [hte] at h
    | some te =>
      simp only [hte] at h ⊢
      split at h
      case h_2 => cases h
      split at h
      · split at h
        · rename_i hc
          rw [if_pos hc]
          exact h
        · rename_i hc
          rw [if_neg hc]
          exact evSlice_ext he h
      · exact evSlice_ext he h
  case h_19 =>
    rename_i T x i ho
    split at h
    case h_2 => cases h
    cases hte : tsl P T with
    | none => simp only [hte] at h ⊢; exact h
    | some te => simp only [hte] at h ⊢; exact evIndexAddrS_ext he h
  case h_22 =>
    rename_i c ho
    split at h
    · exact evBuiltin_ext he h
    · split at h
      · exact evCall_ext hspecs he hns h
      · cases h
    · cases h
  case h_24 =>
    split at h
    case h_2 => cases h
    split at h
    case h_2 => cases h
    exact evLookup_ext he h
  case h_25 =>
    split at h
    case h_2 => cases h
    split at h
    case h_2 => cases h
    obtain ⟨l, hl⟩ := evMapUpd_sets h
    exact absurd hl (hns l)
  all_goals exact h
/-! Regions. -/
def undefS : SV := .tup 0 (fun _ => .any)
theorem undefS_sound {w X E} : R w X E undefS undef := .tup rfl fun _ hi => absurd hi (Nat.not_lt_zero _)
def putT (dst : Option Tmp) (s : SV) (τ : Tmps) : Tmps := match dst with
  | some d => (d, s) :: τ
  | none => τ
def nextH (H : List SO) : Eff → List SO
  | .keep => H
  | .new so => H ++ [so]
  | .sets l => applyS H l
/-- What a guard sees. -/
def gsv (N : Nat) (ops : Array Oper) (τ : Tmps) (j : Nat) : SV :=
  match (ops[j]?).bind (·.dst) with
  | some d => if d < N then lookT τ d else .any
  | none => .any
theorem TR.put {n0 w X E N τ a dst s v} (h : TR n0 w X E N τ a) (hr : R w X E s v) : TR n0 w X E N (putT dst s τ) (a.put dst v) := by
  cases dst with
  | none => exact h
  | some d =>
    refine ⟨by simp [Act.put, h.1], h.2.1, fun t ht => ?_⟩
    simp only [Act.put, putT, lookT]
    by_cases hd : d = t
    · subst hd
      rw [if_pos rfl, Array.getD_eq_getD_getElem?, Array.getElem?_setIfInBounds_self_of_lt (by rw [h.1]; exact ht)]
      exact hr
    · rw [if_neg hd, Array.getD_eq_getD_getElem?, Array.getElem?_setIfInBounds_ne hd, ← Array.getD_eq_getD_getElem?]
      exact h.2.2 t ht
theorem TR.mono {n0 w w' X X' E E' N τ a} (h : TR n0 w X E N τ a) (hk : Keeps X w w') (hx : Within X X' w) (le : E.le E') : TR n0 w' X' E' N τ a :=
  ⟨h.1, h.2.1.mono hk hx, fun t ht => (h.2.2 t ht).mono hk hx le⟩
/-- A state of the evaluation, and a frame and a memory that it describes. -/
structure St : Type where
  τ : Tmps
  H : List SO
def StR (w0 : World) (X0 : Fr) (N : Nat) (s : St) (a : Act) (w : World) : Prop := ∃ E, Rep w0 X0 s.H E w ∧ TR (X0.n0 w0) w (Xo X0 E s.H) E N s.τ a
theorem yielded_sound {n0 w X E N τ a ops} (h : TR n0 w X E N τ a) (j : Nat) : (∀ b, asB (gsv N ops τ j) = some b → yielded ops a.tmps j = some b) ∧ (∀ n g, gsv N ops τ j = .tup n g → yielded ops a.tmps j = none) := by
  unfold gsv yielded
  cases hd : (ops[j]?).bind (·.dst) with
  | none => exact ⟨fun b hb => (nomatch hb), fun n g hb => (nomatch hb)⟩
  | some d =>
    simp only [Option.bind_some]
    by_cases hlt : d < N
    · rw [if_pos hlt]
      have hr := h.2.2 d hlt
      have hget : a.tmps[d]? = some (a.tmps.getD d undef) := by
        rw [Array.getD_eq_getD_getElem?, Array.getElem?_eq_getElem (by rw [h.1]; exact hlt)]; rfl
      rw [hget]
      refine ⟨fun b hb => ?_, fun n g hb => ?_⟩
      · rw [asB_inv hb hr]
      · rw [hb] at hr
        generalize a.tmps.getD d undef = v at hr
        cases hr with
        | tup => rfl
    · rw [if_neg hlt]
      exact ⟨fun b hb => (nomatch hb), fun n g hb => (nomatch hb)⟩
/-- Whether the guard lets the operation by. -/
def Want (N : Nat) (ops : Array Oper) (τ : Tmps) (o : Oper) (yes : Bool) : Prop :=
  match o.guard with
  | none => yes = true
  | some (j, want) => (∃ b, asB (gsv N ops τ j) = some b ∧ yes = (b == want)) ∨ (∃ n g, gsv N ops τ j = .tup n g ∧ yes = false)
theorem Want.wanted {n0 w X E N τ a ops o yes} (h : TR n0 w X E N τ a) (hw : Want N ops τ o yes) : Region.wanted o (yielded ops a.tmps) = yes := by
  unfold Want at hw
  unfold Region.wanted
  cases hg : o.guard with
  | none => rw [hg] at hw; exact hw.symm
  | some jw =>
    obtain ⟨j, want⟩ := jw
    rw [hg] at hw
    simp only at hw ⊢
    rcases hw with ⟨b, h1, rfl⟩ | ⟨n, g, h1, rfl⟩
    · rw [(yielded_sound h j).1 b h1]
      cases b <;> cases want <;> rfl
    · rw [(yielded_sound h j).2 n g h1]
      rfl
/-- One operation of the evaluation. -/
inductive Step (P : Program) (specs : List FSpec) (eqs : List (TypeId × List CK)) (N : Nat) (ops : Array Oper) (o : Oper) (s : St) : St → Prop
  | run {y v} (hw : Want N ops s.τ o true) (hy : evOp P specs eqs N s.τ s.H s.H.length o = some y) (hask : y.ask) (hv : ∀ w X E u, R w X E y.val u → R w X E v u) (hv2 : ∀ k o, y.val = .own k o → v = .own k o) (hv3 : ∀ n g, y.val = .ref n g → v = .ref n g) (hv4 : ∀ n m g, y.val = .sl n m g → v = .sl n m g) : Step P specs eqs N ops o s ⟨putT o.dst v s.τ, nextH s.H y.eff⟩
  | skip (hw : Want N ops s.τ o false) : Step P specs eqs N ops o s ⟨putT o.dst undefS s.τ, s.H⟩
theorem nextH_app {H : List SO} {y : Eff} {so : SO} (h : y = .new so) : nextH H y = H ++ [so] := by subst h; rfl
/-- The operation itself does what the evaluation says. -/
theorem run_sound {P : Program} {w0 X0 N} {specs : List FSpec} (hspecs : ∀ s ∈ specs, SpecAt P w0 X0 s) {eqs : List (TypeId × List CK)} (heqs : ∀ t n, (t, n) ∈ eqs → EqOK P t n) {s : St} {a : Act} {w : World}
    (h : StR w0 X0 N s a w) {o : Oper} {y : Yd} {sv : SV} (hy : evOp P specs eqs N s.τ s.H s.H.length o = some y) (hask : y.ask) (hsv : ∀ w X E u, R w X E y.val u → R w X E sv u) :
    OpOK P o a w (fun v w' => StR w0 X0 N ⟨putT o.dst sv s.τ, nextH s.H y.eff⟩ (a.put o.dst v) w') := by
  obtain ⟨E, hrep, htr⟩ := h
  have fin : ∀ {HF : List SO}, (appE HF y.eff = nextH s.H y.eff) → TR (X0.n0 w0) w (Xo X0 E HF) E N s.τ a → ∀ v w', Goes w0 X0 HF E w s.H.length y.eff y.val v w' → StR w0 X0 N ⟨putT o.dst sv s.τ, nextH s.H y.eff⟩ (a.put o.dst v) w' := by
    intro HF he htr v w' ⟨E', le, hk, hx, hr, hv, _⟩
    rw [he] at hx hr hv
    exact ⟨E', hr, (htr.mono hk hx le).put (hsv _ _ _ _ hv)⟩
  intro F n hF next Q hn
  cases he : y.eff with
  | keep =>
    exact evOp_sound hrep hspecs heqs htr hy hask (fun so hso => by rw [he] at hso; cases hso) F n hF next Q fun v w' hg => hn v w' (fin (by rw [he]; rfl) htr v w' hg)
  | sets l =>
    exact evOp_sound hrep hspecs heqs htr hy hask (fun so hso => by rw [he] at hso; cases hso) F n hF next Q fun v w' hg => hn v w' (fin (by rw [he]; rfl) htr v w' hg)
  | new so =>
    have hn0 : E s.H.length = none := by
      cases hc : E s.H.length with
      | none => rfl
      | some e => have := hrep.dom _ _ hc; omega
    have hext : ∀ k, k < s.H.length → (s.H ++ [so]).getD k .dead = s.H.getD k .dead := fun k hk => getD_append_left hk
    have hxo : Xo X0 E (s.H ++ [so]) = Xo X0 E s.H := Xo_ext fun k e hke => hext k (hrep.dom k e hke)
    refine evOp_sound (hrep.ext (by simp) hext) hspecs heqs (by rw [hxo]; exact htr) (evOp_ext hspecs (Ext.app _ _) (fun l hc => by rw [he] at hc; cases hc) hy) hask (fun so' hso => ?_) F n hF next Q fun v w' hg => hn v w' (fin (by rw [he]; rfl) (by rw [hxo]; exact htr) v w' hg)
    rw [he] at hso
    cases hso
    refine ⟨hn0, by simp, ?_⟩
    rw [List.getD_eq_getElem?_getD, List.getElem?_append_right (Nat.le_refl _)]
    simp
theorem skip_sound {w0 X0 N} {s : St} {a : Act} {w : World} (h : StR w0 X0 N s a w) (dst : Option Tmp) : StR w0 X0 N ⟨putT dst undefS s.τ, s.H⟩ (a.put dst undef) w := by
  obtain ⟨E, hrep, htr⟩ := h
  exact ⟨E, hrep, htr.put undefS_sound⟩
/-- A run through a list of operations. -/
inductive Tr (P : Program) (specs : List FSpec) (eqs : List (TypeId × List CK)) (N : Nat) (ops : Array Oper) : List Oper → St → St → Prop
  | nil {s} : Tr P specs eqs N ops [] s s
  | cons {o l s s1 s2} (h : Step P specs eqs N ops o s s1) (r : Tr P specs eqs N ops l s1 s2) : Tr P specs eqs N ops (o :: l) s s2
theorem tr_seq {P : Program} {w0 X0 N} {specs : List FSpec} (hspecs : ∀ s ∈ specs, SpecAt P w0 X0 s) {eqs : List (TypeId × List CK)} (heqs : ∀ t n, (t, n) ∈ eqs → EqOK P t n) {ops : Array Oper} {F : Fence} {n : Nat} (hF : Wd F) {Q : Exit → Act → World → Prop} :
    ∀ {l : List Oper} {s s' : St}, Tr P specs eqs N ops l s s' → (∀ a w, StR w0 X0 N s' a w → Q .normal a w) → ∀ a w, StR w0 X0 N s a w → wpListIn F n P ops Q l a w := by
  intro l s s' ht hq
  induction ht with
  | nil => exact fun a w h => hq a w h
  | cons hs _ ih =>
    intro a w h
    obtain ⟨E, hrep, htr⟩ := id h
    simp only [wpListIn]
    cases hs with
    | run hw hy hask hv hv2 hv3 hv4 =>
      rw [if_pos (hw.wanted htr)]
      exact run_sound hspecs heqs h hy hask hv F n hF _ _ fun v w' hg => ih hq _ _ hg
    | skip hw =>
      rw [if_neg (by rw [hw.wanted htr]; simp)]
      exact ⟨fun f _ => hF.fn f, ih hq _ _ (skip_sound h _)⟩
end Go.Proofs.YthappngbapbkfaaDoor.Sx
/- A region whose order is drawn: the evaluation in the text's order tells of every order. -/
namespace Go.Proofs.YthappngbapbkfaaDoor.Sx
open Go.RowKit
/-- It works on values alone. -/
def pureOp (o : Oper) : Bool :=
  match o.op with
  | .move _ | .assign _ | .pick .. | .nilCheck _ | .binOp .. | .unOp .. | .convert .. | .makeFunc .. | .fieldAddr .. | .field .. | .index .. | .extract .. | .build .. => true
  | _ => false
/-- Some of the specifications (of this function) write. -/
def effS (specs : List FSpec) : Option FuncId → Bool
  | some f => specs.any fun s => s.f == f && s.eff
  | none => specs.any (·.eff)
def calleeF : Operand → Option FuncId
  | .func f => some f
  | _ => none
/-- It writes (ef: calls of this function may). -/
def isEff (ef : Option FuncId → Bool) (o : Oper) : Bool :=
  match o.op with
  | .store .. => true
  | .mapUpdate .. => true
  | .call c => match c.callee with
    | .builtin .append => true
    | .builtin .copy => true
    | .builtin .clear => true
    | .builtin _ => false
    | .value x => ef (calleeF x)
    | _ => true
  | _ => false
theorem pureY_eff {s y} (h : pureY s = some y) : y.eff = .keep := by cases h; rfl
theorem map_eff {o : Option SV} {f : SV → Yd} {y : Yd} (hf : ∀ s, (f s).eff = .keep) (h : o.map f = some y) : y.eff = .keep := by
  cases o with
  | none => cases h
  | some s => cases h; exact hf s
theorem ite_eff {c : Prop} [Decidable c] {a : Yd} {y : Yd} (ha : a.eff = .keep) (h : (if c then some a else none) = some y) : y.eff = .keep := by
  obtain ⟨_, rfl⟩ := ite_some h; exact ha
theorem evNil_eff {s y} (h : evNil s = some y) : y.eff = .keep := by cases s <;> simp only [evNil, reduceCtorEq] at h <;> exact pureY_eff h
theorem binI_eff {op k a b y} (h : binI op k a b = some y) : y.eff = .keep := by cases op <;> simp only [binI, reduceCtorEq] at h <;> first | exact pureY_eff h | (cases h; rfl)
theorem shI_eff {op k a b y} (h : shI op k a b = some y) : y.eff = .keep := by cases op <;> simp only [shI, reduceCtorEq] at h <;> (cases h; rfl)
theorem evEqB_eff {op b y} (h : evEqB op b = some y) : y.eff = .keep := by cases op <;> simp only [evEqB, reduceCtorEq] at h <;> exact pureY_eff h
theorem ev2_eff {op eqs kb kf t x z y} (h : ev2 op eqs kb kf t x z = some y) : y.eff = .keep := by
  unfold ev2 at h
  repeat' (split at h)
  all_goals first | exact shI_eff h | exact binI_eff h | exact evEqB_eff h | (cases h; done)
theorem evNilC_eff {op x y} (h : evNilC op x = some y) : y.eff = .keep := by
  unfold evNilC at h
  repeat' (split at h)
  all_goals first | exact pureY_eff h | (cases h; done)
theorem ev1_eff {op x y} (h : ev1 op x = some y) : y.eff = .keep := by
  unfold ev1 at h
  repeat' (split at h)
  all_goals first | exact pureY_eff h | (cases h; rfl) | (cases h; done)
theorem evConvert_eff {k x y} (h : evConvert k x = some y) : y.eff = .keep := by cases x <;> simp only [evConvert, reduceCtorEq] at h; cases h; rfl
theorem evFieldAddr_eff {fd x y} (h : evFieldAddr fd x = some y) : y.eff = .keep := by
  cases x <;> simp only [evFieldAddr, reduceCtorEq] at h
  all_goals (split at h <;> first | exact pureY_eff h | (cases h; done))
theorem evField_eff {fd x y} (h : evField fd x = some y) : y.eff = .keep := by
  cases x <;> simp only [evField, reduceCtorEq] at h
  exact map_eff (fun _ => rfl) h
theorem evIndex_eff {ai i x y} (h : evIndex ai i x = some y) : y.eff = .keep := by
  unfold evIndex at h
  repeat' (split at h)
  all_goals first | (cases h; rfl) | (cases h; done)
theorem evIndexB_eff {i x y} (h : evIndexB i x = some y) : y.eff = .keep := by
  unfold evIndexB at h
  split at h <;> first | (cases h; rfl) | (cases h; done)
theorem evLenB_eff {x y} (h : evLenB x = some y) : y.eff = .keep := by
  unfold evLenB at h
  split at h <;> first | (cases h; rfl) | (cases h; done)
theorem evExtract_eff {i x y} (h : evExtract i x = some y) : y.eff = .keep := by
  cases x <;> simp only [evExtract, reduceCtorEq] at h
  exact ite_eff rfl h
theorem evBuildS_eff {z fl ps y} (h : evBuildS z fl ps = some y) : y.eff = .keep := by
  unfold evBuildS at h
  split at h
  · exact pureY_eff h
  · cases h
theorem evBuildA_eff {z es ps y} (h : evBuildA z es ps = some y) : y.eff = .keep := by
  unfold evBuildA at h
  split at h
  · exact pureY_eff h
  · cases h
theorem pureOp_spec {P specs eqs N τ H nm o y} (hp : pureOp o = true) (h : evOp P specs eqs N τ H nm o = some y) : y.eff = .keep ∧ ∀ H' nm', evOp P specs eqs N τ H' nm' o = some y := by
  refine ⟨?_, fun H' nm' => ?_⟩
  · unfold evOp at h
    unfold pureOp at hp
    split at h <;> (try (rename_i ho; simp only [ho, Bool.false_eq_true] at hp; done))
    all_goals first
      | exact pureY_eff h
      | (split at h <;> (try split at h) <;> first | exact pureY_eff h | (cases h; done))
      | exact evNil_eff h
      | exact ev2_eff h
      | (split at h
         · split at h
           · exact evNilC_eff h
           · cases h
         · exact ev2_eff h)
      | exact ev1_eff h
      | (split at h <;> first | exact pureY_eff h | exact evConvert_eff h | exact evFieldAddr_eff h | exact evField_eff h | exact ite_eff rfl h | (cases h; done))
      | (split at h
         · split at h
           · exact evIndex_eff h
           · split at h
             · exact evIndexB_eff h
             · cases h
         · cases h)
      | (cases h; done)
      | exact evExtract_eff h
      | exact ite_eff rfl h
      | (split at h
         · split at h
           · exact evBuildS_eff h
           · split at h
             · exact evBuildA_eff h
             · cases h
         · cases h)
  · unfold evOp at h ⊢
    unfold pureOp at hp
    split at h <;> first | exact h | (rename_i ho; simp only [ho, Bool.false_eq_true] at hp)
theorem evLoad_eff {ti H x y} (h : evLoad ti H x = some y) : y.eff = .keep := by
  unfold evLoad at h
  repeat' (split at h)
  all_goals first | exact map_eff (fun _ => rfl) h | (cases h; rfl) | (cases h; done)
theorem evIndexAddrS_eff {es H i x y} (h : evIndexAddrS es H i x = some y) : y.eff = .keep := by
  unfold evIndexAddrS at h
  repeat' (split at h)
  all_goals first | (cases h; rfl) | (cases h; done)
theorem evIndexAddrA_eff {len es i x y} (h : evIndexAddrA len es i x = some y) : y.eff = .keep := by
  unfold evIndexAddrA at h
  repeat' (split at h)
  all_goals first | (cases h; rfl) | (cases h; done)
theorem evSlice_eff {es H lo hi mx x y} (h : evSlice es H lo hi mx x = some y) : y.eff = .keep := by
  unfold evSlice at h
  repeat' (split at h)
  all_goals first | (cases h; rfl) | (cases h; done)
theorem evCut0_eff {x y} (h : evCut0 x = some y) : y.eff = .keep := by
  unfold evCut0 at h
  split at h <;> first | exact pureY_eff h | (cases h; done)
theorem foldI_eff {f k} : ∀ {l a y}, foldI f k a l = some y → y.eff = .keep
  | [], a, y, h => pureY_eff h
  | s :: r, a, y, h => by
    cases s <;> simp only [foldI, reduceCtorEq] at h
    split at h
    · exact foldI_eff h
    · cases h
theorem evMin_eff {f ss y} (h : evMin f ss = some y) : y.eff = .keep := by
  unfold evMin at h
  split at h
  · exact foldI_eff h
  · cases h
/-- What does not write makes at most one new object. -/
def NewOrKeep (y : Yd) : Prop := y.eff = .keep ∨ ∃ so, y.eff = .new so
theorem free_spec {P : Program} {specs eqs N τ H nm o y} (hp : isEff (effS specs) o = false) (h : evOp P specs eqs N τ H nm o = some y) : NewOrKeep y := by
  by_cases hpu : pureOp o = true
  · exact .inl (pureOp_spec hpu h).1
  unfold evOp at h
  unfold isEff at hp
  unfold pureOp at hpu
  split at h <;> (try (rename_i ho; simp only [ho, not_true_eq_false] at hpu; done)) <;> (try (rename_i ho; simp only [ho, Bool.true_eq_false] at hp; done))
  · split at h
    · cases h; exact .inr ⟨_, rfl⟩
    · cases h
  · split at h
    · cases h; exact .inr ⟨_, rfl⟩
    · cases h
  · split at h
    · split at h
      · unfold evBuildSlice at h
        split at h
        · split at h
          · cases h
            split
            · exact .inl rfl
            · exact .inr ⟨_, rfl⟩
          · split at h
            · unfold evBuildP at h
              obtain ⟨_, rfl⟩ := ite_some h
              exact .inl rfl
            unfold evBuildD at h
            split at h
            · obtain ⟨_, rfl⟩ := ite_some h
              exact .inr ⟨_, rfl⟩
            · cases h
        · cases h
      · cases h
    · cases h
  · split at h
    · exact .inl (evLoad_eff h)
    · cases h
  · repeat' (split at h)
    all_goals first | (cases h; done) | (unfold evMakeSlice at h; obtain ⟨_, rfl⟩ := ite_some h; exact .inr ⟨_, rfl⟩)
  · repeat' (split at h)
    all_goals first | (cases h; done) | exact .inl (evCut0_eff h) | exact .inl (evSlice_eff h)
  · repeat' (split at h)
    all_goals first | (cases h; done) | exact .inl (evIndexAddrS_eff h) | exact .inl (evIndexAddrA_eff h)
  · rename_i c ho
    split at h
    · rename_i b hb
      obtain ⟨cc, ca, ct⟩ := c
      simp only at hb
      subst hb
      rw [ho] at hp
      unfold evBuiltin at h
      split at h
      · simp at hp
      · repeat' (split at h)
        all_goals first | (cases h; done) | exact .inl (pureY_eff h) | exact .inl (evLenB_eff h) | (cases h; exact .inl rfl)
      · simp at hp
      · simp at hp
      · exact .inl (evMin_eff h)
      · exact .inl (evMin_eff h)
      · cases h
    · rename_i x hb
      split at h
      · rename_i F n g hfn
        obtain ⟨s, hmem, hsf, hr, hl⟩ := evCall_spec h
        have hse : s.eff = false := by
          obtain ⟨cc, ca, ct⟩ := c
          simp only at hb
          subst hb
          rw [ho] at hp
          simp only at hp
          cases x with
          | func f =>
            cases hfn
            simp only [calleeF, effS, List.any_eq_false] at hp
            have := hp s hmem
            simpa [hsf] using this
          | _ =>
            simp only [calleeF, effS, List.any_eq_false] at hp
            simpa using hp s hmem
        cases he : y.eff with
        | keep => exact .inl he
        | new so => exact .inr ⟨so, he⟩
        | sets l => rw [hl l he] at hse; cases hse
      · cases h
    · cases h
  · split at h
    · obtain ⟨so, hso⟩ := evMakeMap_eff h
      exact .inr ⟨so, hso⟩
    · cases h
  · split at h
    · split at h
      · exact .inl (evLookup_eff h)
      · cases h
    · cases h
  · cases h
end Go.Proofs.YthappngbapbkfaaDoor.Sx
