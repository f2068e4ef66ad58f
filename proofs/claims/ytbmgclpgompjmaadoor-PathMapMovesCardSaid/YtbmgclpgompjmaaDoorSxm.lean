/- The evaluation tells the truth: any operation, with its operands. -/
import Derived.Test.YtbmgclpgompjmaaDoorSxl
namespace Go.Proofs.YtbmgclpgompjmaaDoor.Sx
open Go.RowKit
theorem optV_cut {kh km : IntKind} : optV (some (kh, 0)) = some (.int kh 0) ∧ optV (some (km, 0)) = some (.int km 0) := ⟨rfl, rfl⟩
theorem lit_inv {w X E b v} (h : R w X E (.lit b) v) : v = .bool b := by cases h; rfl
theorem bool_inv {w X E b v} (h : R w X E (.bool b) v) : v = .bool b := by cases h; rfl
theorem evStore_val {ti : Nat × Bool} {H : List SO} {x z : SV} {y : Yd} (h : evStore ti H x z = some y) : y.val = .any := by
  unfold evStore at h
  repeat' (split at h)
  all_goals first | (cases h; done) | (cases h; rfl)
theorem fn_inv {w X E f n g v} (h : R w X E (.fn f n g) v) : ∃ vs, v = .func (.func f) #[] vs ∧ vs.size = n ∧ ∀ i, i < n → R w X E (g i) (vs.getD i undef) := by
  cases h with
  | fn hs hr => exact ⟨_, rfl, hs, hr⟩
theorem args_append {w X E} {ss : List SV} {vs : Array Value} (h : ArgsR w X E ss vs) {n : Nat} {g : Nat → SV} {cs : Array Value} (hs : cs.size = n) (hr : ∀ i, i < n → R w X E (g i) (cs.getD i undef)) :
    ArgsR w X E (ss ++ (List.range n).map g) (vs ++ cs) := by
  obtain ⟨h1, h2⟩ := h
  refine ⟨by simp [h1, hs], fun i hi => ?_⟩
  simp only [List.length_append, List.length_map, List.length_range] at hi
  by_cases hlt : i < ss.length
  · have e1 : (ss ++ (List.range n).map g).getD i .any = ss.getD i .any := getD_append_left hlt
    have e2 : (vs ++ cs).getD i undef = vs.getD i undef := by
      rw [Array.getD_eq_getD_getElem?, Array.getElem?_append_left (by omega), Array.getD_eq_getD_getElem?]
    rw [e1, e2]
    exact h2 i hlt
  · have e1 : (ss ++ (List.range n).map g).getD i .any = g (i - ss.length) := by
      rw [List.getD_eq_getElem?_getD, List.getElem?_append_right (by omega), List.getElem?_map, List.getElem?_range (by omega)]
      rfl
    have e2 : (vs ++ cs).getD i undef = cs.getD (i - ss.length) undef := by
      rw [Array.getD_eq_getD_getElem?, Array.getElem?_append_right (by omega), Array.getD_eq_getD_getElem?, h1]
    rw [e1, e2]
    exact hr _ (by omega)
theorem evOp_sound {P : Program} {w0 X0 H E w nm} (h : Rep w0 X0 H E w) {specs : List FSpec} (hspecs : ∀ s ∈ specs, SpecOK P s) {eqs : List (TypeId × List CK)} (heqs : ∀ t n, (t, n) ∈ eqs → EqOK P t n)
    {N : Nat} {τ : Tmps} {a : Act} (ht : TR w (Xo X0 E H) E N τ a) {o : Oper} {y : Yd} (hy : evOp P specs eqs N τ H nm o = some y) (hask : y.ask) (hf : Free H E nm y.eff) :
    OpOK P o a w (fun v w' => Goes w0 X0 H E w nm y.eff y.val v w') := by
  have ev := fun x => evO_sound ht x
  unfold evOp at hy
  split at hy
  · rename_i x ho
    simp only [pureY, Option.some.injEq] at hy
    subst hy
    exact opOK_val ⟨_, w, by simp only [execOp, ho, Sem.run_pure], Goes.pure h (ev x)⟩
  · rename_i x ho
    simp only [pureY, Option.some.injEq] at hy
    subst hy
    exact opOK_val ⟨_, w, by simp only [execOp, ho, Sem.run_pure], Goes.pure h (ev x)⟩
  · rename_i c p q ho
    split at hy
    · rename_i t e1
      have hvc := lit_inv (e1 ▸ ev c)
      cases t with
      | true =>
        simp only [pureY, Option.some.injEq] at hy
        subst hy
        exact opOK_val ⟨a.eval p, w, by simp only [execOp, ho, hvc, asBool, Sem.run_bind, Sem.run_pure, Result.andThen_ok, if_true], Goes.pure h (ev p)⟩
      | false =>
        simp only [pureY, Option.some.injEq] at hy
        subst hy
        exact opOK_val ⟨a.eval q, w, by simp only [execOp, ho, hvc, asBool, Sem.run_bind, Sem.run_pure, Result.andThen_ok, Bool.false_eq_true, if_false], Goes.pure h (ev q)⟩
    · rename_i b1 e1
      split at hy
      case h_2 => cases hy
      rename_i b2 b3 e2 e3
      simp only [pureY, Option.some.injEq] at hy
      subst hy
      have hvc := bool_inv (e1 ▸ ev c)
      have hvp := asB_inv e2 (ev p)
      have hvq := asB_inv e3 (ev q)
      refine opOK_val ⟨.bool (if b1 = true then b2 else b3), w, ?_, Goes.pure h .bool⟩
      simp only [execOp, ho, hvc, hvp, hvq, asBool, Sem.run_bind, Sem.run_pure, Result.andThen_ok]
      cases b1 <;> rfl
    · cases hy
  · rename_i T ho
    cases hz : tzero P T with
    | none => simp [hz] at hy
    | some z =>
      simp only [hz, Option.some.injEq] at hy
      subst hy
      obtain ⟨u, w', h1, h2⟩ := alloc_sound (P := P) h hz hf
      exact opOK_val ⟨u, w', by simp only [execOp, ho, Sem.run_bind, h1, Result.andThen_ok, Sem.run_pure], h2⟩
  · rename_i T x ho
    cases hc : cellsOf (evO N τ x) with
    | none => simp [hc] at hy
    | some ng =>
      obtain ⟨n, g⟩ := ng
      simp only [hc, Option.some.injEq] at hy
      subst hy
      obtain ⟨u, w', h1, h2⟩ := box_sound (P := P) h (ev x) hc hf
      exact opOK_val ⟨u, w', by simp only [execOp, ho, Sem.run_bind, h1, Result.andThen_ok, Sem.run_pure], h2⟩
  · rename_i T parts ho
    have hps := parts_sound ht parts.toList
    have hmap : (parts.map fun p : Nat × Operand => (p.1, a.eval p.2)).toList = parts.toList.map fun p => (p.1, a.eval p.2) := Array.toList_map ..
    rw [← hmap] at hps
    have fin : (∃ u w', (Instr.build T (parts.map fun p : Nat × Operand => (p.1, a.eval p.2))).run P w = .ok u w' ∧ Goes w0 X0 H E w nm y.eff y.val u w') → OpOK P o a w (fun v w' => Goes w0 X0 H E w nm y.eff y.val v w') := by
      rintro ⟨u, w', h1, h2⟩
      exact opOK_val ⟨u, w', by simp only [execOp, ho, Sem.run_bind, h1, Result.andThen_ok, Sem.run_pure], h2⟩
    cases hz : tzero P T with
    | none => simp [hz] at hy
    | some z =>
      simp only [hz] at hy
      cases hfl : tflds P T with
      | some fl =>
        simp only [hfl] at hy
        exact fin (evBuildS_sound (P := P) h hz hfl hps hy)
      | none =>
        simp only [hfl] at hy
        cases hai : tarr P T with
        | none => simp [hai] at hy
        | some ai =>
          simp only [hai] at hy
          exact fin (evBuildA_sound (P := P) h hz hai hps hy)
  · rename_i T len parts ho
    have hps := parts_sound ht parts.toList
    have hmap : (parts.map fun p : Nat × Operand => (p.1, a.eval p.2)).toList = parts.toList.map fun p => (p.1, a.eval p.2) := Array.toList_map ..
    rw [← hmap] at hps
    cases hte : tsl P T with
    | none => simp [hte] at hy
    | some te =>
      simp only [hte] at hy
      cases hz : tzero P te.1 with
      | none => simp [hz] at hy
      | some z =>
        simp only [hz] at hy
        obtain ⟨u, w', h1, h2⟩ := evBuildSlice_sound (P := P) h hte hz hps hy hf
        exact opOK_val ⟨u, w', by simp only [execOp, ho, Sem.run_bind, h1, Result.andThen_ok, Sem.run_pure], h2⟩
  · rename_i T x ho
    cases hti : tinf P T with
    | none => simp [hti] at hy
    | some ti =>
      simp only [hti] at hy
      obtain ⟨u, w', h1, h2⟩ := evLoad_sound (P := P) (nm := nm) h hti (ev x) hy hask
      exact opOK_val ⟨u, w', by simp only [execOp, ho, Sem.run_bind, h1, Result.andThen_ok, Sem.run_pure], h2⟩
  · rename_i T x z ho
    cases hti : tinf P T with
    | none => simp [hti] at hy
    | some ti =>
      simp only [hti] at hy
      obtain ⟨w', h1, h2⟩ := evStore_sound (P := P) (nm := nm) h hti (ev x) (ev z) hy hask
      have hval : y.val = .any := evStore_val hy
      exact opOK_skip ⟨w', by simp only [execOp, ho, Sem.run_bind, h1, Result.andThen_ok, Sem.run_pure], by rw [hval]; exact h2⟩
  · rename_i x ho
    exact opOK_val (evNil_sound (P := P) (nm := nm) h (ev x) hy ho)
  · rename_i op T x z yT ho
    split at hy
    · rename_i hnil
      split at hy
      case h_2 => cases hy
      rename_i te hte
      obtain ⟨n, c, hz⟩ : ∃ n c, a.eval z = .slice none n c := by
        cases z <;> simp only [isNilO, Bool.false_eq_true] at hnil
        rename_i v
        cases v <;> simp only [Bool.false_eq_true] at hnil
        rename_i ad n c
        cases ad
        · exact ⟨n, c, rfl⟩
        · cases hnil
      obtain ⟨u, w', h1, h2⟩ := evNilC_sound (P := P) (nm := nm) (xo := x) (yo := z) (n := n) (c := c) h hte (ev x) hy
      refine opOK_val ⟨u, w', ?_, h2⟩
      simp only [execOp, ho, hz, Sem.run_bind] at h1 ⊢
      rw [h1]
      rfl
    · obtain ⟨u, w', h1, h2⟩ := ev2_sound (P := P) (nm := nm) (xo := x) (yo := z) h heqs (ev x) (ev z) hy hask
      refine opOK_val ⟨u, w', ?_, h2⟩
      simp only [execOp, ho, Sem.run_bind] at h1 ⊢
      rw [h1]
      rfl
  · rename_i op T x ho
    obtain ⟨u, w', h1, h2⟩ := ev1_sound (P := P) (nm := nm) h (ev x) hy hask
    exact opOK_val ⟨u, w', by simp only [execOp, ho, Sem.run_bind, h1, Result.andThen_ok, Sem.run_pure], h2⟩
  · rename_i s d x ho
    split at hy
    case h_2 => cases hy
    rename_i k1 k2 e1 e2
    obtain ⟨u, w', h1, h2⟩ := evConvert_sound (P := P) (nm := nm) h (by rw [e1]; simp) e2 (ev x) hy hask
    exact opOK_val ⟨u, w', by simp only [execOp, ho, Sem.run_bind, h1, Result.andThen_ok, Sem.run_pure], h2⟩
  · rename_i f first caps ho
    obtain ⟨hfs, hyy⟩ := ite_some (show (if first.size = 0 then some (Yd.mk True (.fn f caps.size (fun i => (mapArgs N τ caps).getD i .any)) .keep) else none) = some y from hy)
    subst hyy
    have hfe : first = #[] := Array.eq_empty_of_size_eq_zero hfs
    obtain ⟨g1, g2⟩ := args_sound ht caps
    refine opOK_val ⟨.func (.func f) #[] (caps.map a.eval), w, ?_, Goes.pure h (.fn (by simp) fun i hi => g2 i (by simpa [mapArgs] using hi))⟩
    simp only [execOp, ho, Instr.makeFunc, hfe, Sem.run_bind, Sem.run_pure, Result.andThen_ok, Array.map_empty]
  · rename_i T l c ho
    cases hte : tsl P T with
    | none => simp [hte] at hy
    | some te =>
      simp only [hte] at hy
      cases hz : tzero P te.1 with
      | none => simp [hz] at hy
      | some z =>
        simp only [hz] at hy
        split at hy
        case h_2 => cases hy
        rename_i kl l' kc c' e1 e2
        have hv1 := int_inv (e1 ▸ ev l)
        have hv2 := int_inv (e2 ▸ ev c)
        obtain ⟨u, w', h1, h2⟩ := evMakeSlice_sound (P := P) (kl := kl) (kc := kc) h hte hz hy hask hf
        exact opOK_val ⟨u, w', by simp only [execOp, ho, hv1, hv2, Sem.run_bind, h1, Result.andThen_ok, Sem.run_pure], h2⟩
  · rename_i T x lo hi mx ho
    cases hte : tsl P T with
    | none => simp [hte] at hy
    | some te =>
      simp only [hte] at hy
      split at hy
      case h_2 => cases hy
      rename_i lo' hi' mx' e1 e2 e3
      have o1 := optO_sound ht e1
      have o2 := optO_sound ht e2
      have o3 := optO_sound ht e3
      have fin : (∃ u w', (Instr.sliceAt T (a.eval x) (optV lo') (optV hi') (optV mx')).run P w = .ok u w' ∧ Goes w0 X0 H E w nm y.eff y.val u w') → OpOK P o a w (fun v w' => Goes w0 X0 H E w nm y.eff y.val v w') := by
        rintro ⟨u, w', h1, h2⟩
        exact opOK_val ⟨u, w', by simp only [execOp, ho, o1, o2, o3, Sem.run_bind, h1, Result.andThen_ok, Sem.run_pure], h2⟩
      split at hy
      · split at hy
        · rename_i hc
          obtain ⟨rfl, rfl⟩ := hc
          exact fin (evCut0_sound (P := P) (nm := nm) h hte (ev x) hy)
        · exact fin (evSlice_sound (P := P) (nm := nm) h hte (ev x) hy hask)
      · exact fin (evSlice_sound (P := P) (nm := nm) h hte (ev x) hy hask)
  · rename_i T x f ho
    cases hfd : tfld P T f with
    | none => simp [hfd] at hy
    | some fd =>
      simp only [hfd] at hy
      obtain ⟨u, w', h1, h2⟩ := evFieldAddr_sound (P := P) (nm := nm) h hfd (ev x) hy
      exact opOK_val ⟨u, w', by simp only [execOp, ho, Sem.run_bind, h1, Result.andThen_ok, Sem.run_pure], h2⟩
  · rename_i T x f ho
    cases hfd : tfld P T f with
    | none => simp [hfd] at hy
    | some fd =>
      simp only [hfd] at hy
      obtain ⟨u, w', h1, h2⟩ := evField_sound (P := P) (nm := nm) h hfd (ev x) hy
      exact opOK_val ⟨u, w', by simp only [execOp, ho, Sem.run_bind, h1, Result.andThen_ok, Sem.run_pure], h2⟩
  · rename_i T x i ho
    split at hy
    case h_2 => cases hy
    rename_i k i' e1
    have hv := int_inv (e1 ▸ ev i)
    cases hte : tsl P T with
    | some te =>
      simp only [hte] at hy
      obtain ⟨u, w', h1, h2⟩ := evIndexAddrS_sound (P := P) (nm := nm) (k := k) h hte (ev x) hy hask
      exact opOK_val ⟨u, w', by simp only [execOp, ho, hv, Sem.run_bind, h1, Result.andThen_ok, Sem.run_pure], h2⟩
    | none =>
      simp only [hte] at hy
      cases hai : tarr P T with
      | none => simp [hai] at hy
      | some ai =>
        simp only [hai] at hy
        obtain ⟨u, w', h1, h2⟩ := evIndexAddrA_sound (P := P) (nm := nm) (k := k) h hai (ev x) hy hask
        exact opOK_val ⟨u, w', by simp only [execOp, ho, hv, Sem.run_bind, h1, Result.andThen_ok, Sem.run_pure], h2⟩
  · rename_i T x i ho
    split at hy
    case h_2 => cases hy
    rename_i k i' e1
    have hv := int_inv (e1 ▸ ev i)
    cases hai : tarr P T with
    | none => simp [hai] at hy
    | some ai =>
      simp only [hai] at hy
      obtain ⟨u, w', h1, h2⟩ := evIndex_sound (P := P) (nm := nm) (k := k) h hai (ev x) hy hask
      exact opOK_val ⟨u, w', by simp only [execOp, ho, hv, Sem.run_bind, h1, Result.andThen_ok, Sem.run_pure], h2⟩
  · rename_i x i ho
    obtain ⟨u, w', h1, h2⟩ := evExtract_sound (P := P) (nm := nm) h (ev x) hy
    exact opOK_val ⟨u, w', by simp only [execOp, ho, Sem.run_bind, h1, Result.andThen_ok, Sem.run_pure], h2⟩
  · rename_i c ho
    have hargs := args_sound ht c.args
    split at hy
    · rename_i b hb
      obtain ⟨u, w', h1, h2⟩ := evBuiltin_sound (P := P) (nm := nm) (ty := o.type) (cs := c.args.map fun | .const _ => true | _ => false) h hargs hy hask hf
      refine opOK_val ⟨u, w', ?_, h2⟩
      obtain ⟨cc, ca, ct⟩ := c
      simp only at hb
      subst hb
      simp only [execOp, ho, resolve, Sem.run_bind, Sem.run_pure, Result.andThen_ok, invoke]
      exact h1
    · rename_i fo hb
      split at hy
      case h_2 => cases hy
      rename_i F n g e1
      obtain ⟨vs, hv, hs, hr⟩ := fn_inv (e1 ▸ ev fo)
      obtain ⟨h1, h2⟩ := evCall_sound (P := P) (nm := nm) h hspecs (args_append hargs hs hr) hy hask hf
      refine opOK_call ?_ h2
      obtain ⟨cc, ca, ct⟩ := c
      simp only at hb
      subst hb
      simp only [execOp, ho, resolve, Sem.run_bind, Sem.run_pure, Result.andThen_ok, hv, Deferred.ofValue, invoke, Array.empty_append]
      exact h1
    · cases hy
  · cases hy
end Go.Proofs.YtbmgclpgompjmaaDoor.Sx
