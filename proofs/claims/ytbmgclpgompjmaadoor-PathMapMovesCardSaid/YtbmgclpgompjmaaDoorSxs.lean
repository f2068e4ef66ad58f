/- The evaluation of a piece of code: what is asked of it, and that this is enough. -/
import Derived.Test.YtbmgclpgompjmaaDoorSxr
namespace Go.Proofs.YtbmgclpgompjmaaDoor.Sx
open Go.RowKit
theorem mem_rdy {ops : Array Oper} {j : Nat} {listed : Array Bool} (h : j ∈ Region.ready .any ops listed) :
    listed.getD j true = false ∧ ∃ o, ops[j]? = some o ∧ ∀ e ∈ o.after, Region.binds .any e = true → listed.getD e.on false = true := mem_ready.1 h
theorem LB_set {listed : Array Bool} {i : Nat} (hi : i < listed.size) (j : Nat) : LB (listed.setIfInBounds i true) j ↔ (LB listed j ∨ j = i) := by
  unfold LB
  by_cases hji : j = i
  · subst hji
    rw [Array.getD_eq_getD_getElem?, Array.getElem?_setIfInBounds_self_of_lt hi]
    simp
  · rw [Array.getD_eq_getD_getElem?, Array.getElem?_setIfInBounds_ne (Ne.symm hji), ← Array.getD_eq_getD_getElem?]
    simp [hji]
theorem LB_funext {listed : Array Bool} {i : Nat} (hi : i < listed.size) : LB (listed.setIfInBounds i true) = fun j => LB listed j ∨ j = i := funext fun j => propext (LB_set hi j)
def unlisted (listed : Array Bool) : Nat := ((List.range listed.size).filter fun i => !listed.getD i true).length
section
variable {P : Program} {w0 : World} {X0 : Fr} {specs : List FSpec} {eqs : List (TypeId × List CK)} {N : Nat} {ops : Array Oper} {st : Nat → St} {pu : Nat → Oper → Bool} {ap : Nat → Nat → Oper → Oper → Prop}
theorem any_sound (hpu : PuOK P specs eqs N ops st pu) (hspecs : ∀ s ∈ specs, SpecOK P s) (heqs : ∀ t n, (t, n) ∈ eqs → EqOK P t n) {e1 : Nat} (hap : ApOK P N ops st e1 ap) (hr : RegOK pu ap (effS specs) ops e1) (hst : ∀ i o, ops[i]? = some o → Step P specs eqs N ops o (st i) (st (i + 1)))
    {Q : Exit → Act → World → Prop} (hQ : ∀ a w, StR w0 X0 N (st ops.size) a w → Q .normal a w) :
    ∀ (fuel : Nat) (listed : Array Bool) (a : Act) (w : World) (p : Nat) (E : Env), listed.size = ops.size → unlisted listed ≤ fuel → Mid pu w0 X0 N ops st e1 (LB listed) a w p E → wpAny P .any ops Q fuel listed a w := by
  have fin : ∀ (listed : Array Bool) (a : Act) (w : World) (p : Nat) (E : Env), listed.size = ops.size → (∀ i, i < ops.size → LB listed i) → Mid pu w0 X0 N ops st e1 (LB listed) a w p E → Q .normal a w := by
    intro listed a w p E hsz hall h
    have hH : (st ops.size).H = (st p).H := by
      have := heap_keep hpu hst (ops.size - p) p (by have := h.len; omega) fun m om h1 h2 hom => by
        cases hpm : pu m om with
        | true => rfl
        | false => exact absurd (hall m (by omega)) (h.todo m om hom hpm h1)
      rwa [show p + (ops.size - p) = ops.size by have := h.len; omega] at this
    refine hQ a w ⟨E, by rw [hH]; exact h.rep, h.size, h.defers, fun t ht => ?_⟩
    rw [hH]
    exact h.look t ht _ (look_all hr hst hall t)
  have stuck : ∀ (listed : Array Bool), listed.size = ops.size → Region.ready .any ops listed = [] → ∀ i, i < ops.size → LB listed i := by
    intro listed hsz hrd i
    induction i using Nat.strongRecOn with
    | _ i ih =>
      intro hi
      refine Classical.byContradiction fun hc => ?_
      have ho : ops[i]? = some ops[i] := Array.getElem?_eq_getElem hi
      have : i ∈ Region.ready .any ops listed := mem_ready.2 ⟨?_, ops[i], ho, fun e he hb => ?_⟩
      · rw [hrd] at this; cases this
      · unfold LB at hc
        have hlt : i < listed.size := by omega
        simp only [Array.getD, hlt, dite_true] at hc ⊢
        simpa using hc
      · have hlt := hr.back i ops[i] ho e he hb
        exact ih e.on hlt (by omega)
  intro fuel
  induction fuel with
  | zero =>
    intro listed a w p E hsz hf h
    have hall : ∀ i, i < ops.size → LB listed i := by
      intro i hi
      refine Classical.byContradiction fun hc => ?_
      have hmem : i ∈ (List.range listed.size).filter fun i => !listed.getD i true := by
        rw [List.mem_filter, List.mem_range]
        refine ⟨by omega, ?_⟩
        unfold LB at hc
        have hlt : i < listed.size := by omega
        simp only [Array.getD, hlt, dite_true] at hc ⊢
        simpa using hc
      unfold unlisted at hf
      rw [List.eq_nil_of_length_eq_zero (Nat.le_zero.1 hf)] at hmem
      cases hmem
    refine ⟨?_, fin listed a w p E hsz hall h⟩
    cases hrd : Region.ready .any ops listed with
    | nil => rfl
    | cons j r =>
      have hj : j ∈ Region.ready .any ops listed := by rw [hrd]; exact List.mem_cons_self
      obtain ⟨h1, o, ho, _⟩ := mem_rdy hj
      have hlt : j < ops.size := (Array.getElem?_eq_some_iff.1 ho).1
      have h2 := hall j hlt
      unfold LB at h2
      have hlt' : j < listed.size := by omega
      simp only [Array.getD, hlt', dite_true] at h1 h2
      rw [h1] at h2
      cases h2
  | succ fuel ih =>
    intro listed a w p E hsz hf h
    refine ⟨fun hrd => fin listed a w p E hsz (stuck listed hsz hrd) h, fun i hi => ?_⟩
    obtain ⟨h1, o, ho, hrd⟩ := mem_rdy hi
    have hlt : i < listed.size := by have := (Array.getElem?_eq_some_iff.1 ho).1; omega
    have hL : ¬ LB listed i := by
      unfold LB
      simp only [Array.getD, hlt, dite_true] at h1 ⊢
      rw [h1]; simp
    refine mid_op hpu hspecs heqs hap hr hst h ho hL hrd fun a' w' p' E' h' => ?_
    rw [← LB_funext hlt] at h'
    refine ih _ a' w' p' E' (by simp [hsz]) ?_ h'
    have hdec : unlisted (listed.setIfInBounds i true) < unlisted listed := by
      unfold unlisted
      rw [Array.size_setIfInBounds]
      have hsub : ∀ (l : List Nat), l.Nodup → i ∈ l → (∀ j ∈ l, j < listed.size) → ((l.filter fun j => !(listed.setIfInBounds i true).getD j true).length < (l.filter fun j => !listed.getD j true).length) := by
        have hsame : ∀ j, j ≠ i → (listed.setIfInBounds i true).getD j true = listed.getD j true := fun j hj => by
          rw [Array.getD_eq_getD_getElem?, Array.getElem?_setIfInBounds_ne (Ne.symm hj), ← Array.getD_eq_getD_getElem?]
        have hit : (listed.setIfInBounds i true).getD i true = true := by
          rw [Array.getD_eq_getD_getElem?, Array.getElem?_setIfInBounds_self_of_lt hlt]; rfl
        intro l
        induction l with
        | nil => intro _ hm; cases hm
        | cons x r ihl =>
          intro hnd hm hj
          obtain ⟨hx, hnd⟩ := List.nodup_cons.1 hnd
          by_cases hxi : x = i
          · subst hxi
            have hr' : (r.filter fun j => !(listed.setIfInBounds x true).getD j true) = r.filter fun j => !listed.getD j true := by
              refine List.filter_congr fun j hj' => ?_
              rw [hsame j (fun hc => hx (hc ▸ hj'))]
            rw [List.filter_cons_of_neg (by rw [hit]; simp), List.filter_cons_of_pos (by rw [h1]; rfl), hr']
            simp
          · have hm' : i ∈ r := by
              cases hm with
              | head => exact absurd rfl hxi
              | tail _ h => exact h
            have := ihl hnd hm' fun j hj' => hj j (List.mem_cons_of_mem _ hj')
            by_cases hb : (!listed.getD x true) = true
            · rw [List.filter_cons_of_pos (by rw [hsame x hxi]; exact hb), List.filter_cons_of_pos (p := fun j => !listed.getD j true) hb]
              simpa using this
            · rw [List.filter_cons_of_neg (by rw [hsame x hxi]; exact hb), List.filter_cons_of_neg (p := fun j => !listed.getD j true) hb]
              exact this
      exact hsub _ List.nodup_range (List.mem_range.2 hlt) fun j hj => List.mem_range.1 hj
    omega
/-- The start of a region. -/
theorem mid_start {e1 : Nat} (hr : RegOK pu ap (effS specs) ops e1) (he1 : e1 ≤ ops.size) (hst : ∀ i o, ops[i]? = some o → Step P specs eqs N ops o (st i) (st (i + 1))) {L : Nat → Prop} (hL : ∀ i, ¬ L i) {a : Act} {w : World} (h : StR w0 X0 N (st 0) a w) :
    ∃ E, Mid pu w0 X0 N ops st e1 L a w e1 E := by
  obtain ⟨E, hrep, htr⟩ := h
  obtain ⟨l, hl⟩ := heap_grows hr hst e1 0 (by omega) (by omega)
  rw [Nat.zero_add] at hl
  have hget : ∀ k, k < (st 0).H.length → ((st 0).H ++ l).getD k .dead = (st 0).H.getD k .dead := fun k hk => getD_append_left hk
  have hxo : Xo X0 E (st e1).H = Xo X0 E (st 0).H := by rw [hl]; exact Xo_ext fun k e hke => hget k (hrep.dom k e hke)
  refine ⟨E, fun j o hj => absurd hj (hL j), Nat.le_refl _, he1, fun i o _ _ h1 h2 => by omega, fun i o _ _ _ => hL i, by rw [hl]; exact hrep.ext (by simp) hget, fun i o ho hi _ hne => ?_, htr.1, htr.2.1, fun t ht s hs => ?_⟩
  · cases hc : E (st i).H.length with
    | none => rfl
    | some e =>
      have hlt := hrep.dom _ _ hc
      obtain ⟨l2, hl2⟩ := heap_grows hr hst i 0 (by omega) (by omega)
      rw [Nat.zero_add] at hl2
      rw [hl2] at hlt
      simp at hlt
      omega
  · rcases hs with ⟨i, o, _, hi, _⟩ | ⟨_, rfl⟩
    · exact absurd hi (hL i)
    · rw [hxo]; exact htr.2.2 t ht
end
theorem refT_spec {N τ t} (h : refT N τ t = true) : t < N ∧ ∃ n g, lookT τ t = .ref n g := by
  unfold refT at h
  split at h
  case h_2 => cases h
  rename_i hb
  split at h
  case h_2 => cases h
  rename_i n g hl
  exact ⟨Nat.le_of_ble_eq_true hb, n, g, hl⟩
theorem noDst_spec {ops : Array Oper} {t : Nat} (h : noDst ops t = true) {m : Nat} {o : Oper} (ho : ops[m]? = some o) : o.dst ≠ some t := by
  have := List.all_eq_true.1 h o (Array.mem_toList_iff.2 (Array.mem_of_getElem? ho))
  simpa using this
theorem slT_spec {N τ t} (h : slT N τ t = true) : t < N ∧ ∃ n m g, lookT τ t = .sl n m g := by
  unfold slT at h
  split at h
  case h_2 => cases h
  rename_i hb
  split at h
  case h_2 => cases h
  rename_i n m g hl
  exact ⟨Nat.le_of_ble_eq_true hb, n, m, g, hl⟩
theorem sl_key {P : Program} {specs : List FSpec} {eqs : List (TypeId × List CK)} {N : Nat} {ops : Array Oper} {st : Nat → St} {pu : Nat → Oper → Bool} {ap : Nat → Nat → Oper → Oper → Prop} {e1 : Nat} {ef : Option FuncId → Bool} (hr : RegOK pu ap ef ops e1)
    (hst : ∀ i o, ops[i]? = some o → Step P specs eqs N ops o (st i) (st (i + 1))) {i c : Nat} (hi : i < ops.size) (hp : slB N (st 0).τ ops i c = true) : ∃ n m g, evO N (st i).τ (.tmp c) = .sl n m g := by
  unfold slB at hp
  obtain ⟨a, ha, h⟩ := List.any_eq_true.1 hp
  have hai := List.mem_range.1 ha
  split at h
  case h_2 => cases h
  rename_i oa hoa
  split at h
  case h_2 => cases h
  rename_i hg
  split at h
  case h_2 => cases h
  rename_i y2 hop2
  split at h
  case h_2 => cases h
  rename_i c0
  rw [Bool.and_eq_true, Bool.and_eq_true, Bool.and_eq_true] at h
  obtain ⟨hd, hb, h1, h2⟩ := h
  have hd' : oa.dst = some c := by simpa using hd
  have hlt : c < N := Nat.le_of_ble_eq_true hb
  obtain ⟨hlt0, n, m, g, hl⟩ := slT_spec h1
  have hc0 := chain hst (t := c0) a 0 (by omega) fun m om _ hm hom => by
    have hm' : om ∈ ops.toList.take a := by
      refine List.mem_of_getElem? (i := m) ?_
      rw [List.getElem?_take_of_lt (by omega), Array.getElem?_toList]
      exact hom
    have := List.all_eq_true.1 h2 om hm'
    simpa using this
  rw [Nat.zero_add] at hc0
  have hcc := chain hst (t := c) (i - (a + 1)) (a + 1) (by omega) fun m om g1 g2 hom hdm => hr.once a m oa om (by omega) hoa hom c hd' hdm
  rw [show a + 1 + (i - (a + 1)) = i by omega] at hcc
  simp only [evO]
  rw [if_pos hlt, hcc]
  generalize hs1 : st (a + 1) = s1
  have hs := hst a oa hoa
  rw [hs1] at hs
  cases hs with
  | skip hw =>
    unfold Want at hw
    rw [hg] at hw
    cases hw
  | run hw hy2 hask hv hv2 hv3 hv4 =>
    rw [hd']
    rw [lookT_put_eq]
    unfold evOp at hy2
    rw [hop2] at hy2
    simp only [evO] at hy2
    rw [if_pos hlt0, hc0, hl] at hy2
    simp only [pureY] at hy2
    cases hy2
    exact ⟨_, _, _, hv4 _ _ _ rfl⟩
theorem sl_ok {P : Program} {specs : List FSpec} {eqs : List (TypeId × List CK)} {N : Nat} {ops : Array Oper} {st : Nat → St} {pu : Nat → Oper → Bool} {ap : Nat → Nat → Oper → Oper → Prop} {e1 : Nat} {ef : Option FuncId → Bool} (hr : RegOK pu ap ef ops e1)
    (hst : ∀ i o, ops[i]? = some o → Step P specs eqs N ops o (st i) (st (i + 1))) {i : Nat} {o : Oper} (ho : ops[i]? = some o) (hp : slOp N (st 0).τ ops i o = true) {τ H nm y} (heq : ∀ x, x ∈ o.op.operands → evO N (st i).τ x = evO N τ x)
    (hy : evOp P specs eqs N τ H nm o = some y) : y.eff = .keep ∧ ∀ H' nm', evOp P specs eqs N τ H' nm' o = some y := by
  have hi : i < ops.size := (Array.getElem?_eq_some_iff.1 ho).1
  unfold slOp at hp
  split at hp
  case h_3 => cases hp
  case h_2 =>
    rename_i T x ix hop
    split at hp
    case h_2 => cases hp
    rename_i c
    obtain ⟨n, m, g, hk⟩ := sl_key hr hst hi hp
    have hx : evO N τ (.tmp c) = .sl n m g := by
      rw [← hk]
      exact (heq (.tmp c) (by rw [hop]; simp [Op.operands])).symm
    unfold evOp at hy ⊢
    rw [hop] at hy ⊢
    simp only [hx] at hy ⊢
    split at hy
    case h_2 => cases hy
    split at hy
    · simp only [evIndexAddrS] at hy ⊢
      obtain ⟨_, rfl⟩ := ite_some hy
      exact ⟨rfl, fun _ _ => hy⟩
    · split at hy
      · simp only [evIndexAddrA, reduceCtorEq] at hy
      · cases hy
  rename_i T x lo hi' mx hop
  split at hp
  case h_2 => cases hp
  rename_i c
  have key : ∃ n m g, evO N (st i).τ (.tmp c) = .sl n m g := sl_key hr hst hi hp
  obtain ⟨n, m, g, hk⟩ := key
  have hx : evO N τ (.tmp c) = .sl n m g := by
    rw [← hk]
    exact (heq (.tmp c) (by rw [hop]; simp [Op.operands])).symm
  unfold evOp at hy ⊢
  rw [hop] at hy ⊢
  simp only [hx] at hy ⊢
  have he : ∀ (es : Nat) (lo hi mx : Option Int), evSlice es H lo hi mx (SV.sl n m g) = some y → y.eff = .keep := fun es lo hi mx h => by
    simp only [evSlice] at h
    split at h
    · cases h; rfl
    · cases h
  refine ⟨?_, fun H' nm' => hy⟩
  split at hy
  case h_2 => cases hy
  split at hy
  case h_2 => cases hy
  split at hy
  · split at hy
    · simp only [evCut0, pureY] at hy
      cases hy; rfl
    · exact he _ _ _ _ hy
  · exact he _ _ _ _ hy
theorem pu_ok {P : Program} {specs : List FSpec} {eqs : List (TypeId × List CK)} {N : Nat} {ops : Array Oper} {st : Nat → St} {pu : Nat → Oper → Bool} {ap : Nat → Nat → Oper → Oper → Prop} {e1 : Nat} {ef : Option FuncId → Bool} (hr : RegOK pu ap ef ops e1)
    (hst : ∀ i o, ops[i]? = some o → Step P specs eqs N ops o (st i) (st (i + 1))) : PuOK P specs eqs N ops st (puB N (st 0).τ ops) := by
  intro i o ho hp τ H nm y heq hy
  have hi : i < ops.size := (Array.getElem?_eq_some_iff.1 ho).1
  unfold puB at hp
  cases hpo : pureOp o with
  | true => exact pureOp_spec hpo hy
  | false =>
    rw [hpo, Bool.false_or] at hp
    unfold puX at hp
    rw [Bool.or_eq_true, Bool.or_eq_true] at hp
    rcases hp with (hp | hp) | hp
    rotate_left
    · exact sl_ok hr hst ho hp heq hy
    · unfold minOp at hp
      split at hp
      case h_2 => cases hp
      rename_i c hop
      split at hp
      case h_2 => cases hp
      rename_i b hcb
      unfold evOp at hy ⊢
      rw [hop] at hy ⊢
      simp only [hcb] at hy ⊢
      split at hp
      · exact ⟨evMin_eff hy, fun _ _ => hy⟩
      · exact ⟨evMin_eff hy, fun _ _ => hy⟩
      · cases hp
    unfold refLoad at hp
    split at hp
    case h_2 => cases hp
    rename_i T x hop
    split at hp
    case h_2 => cases hp
    rename_i c
    have key : ∃ n g, evO N (st i).τ (.tmp c) = .ref n g := by
      rw [Bool.or_eq_true] at hp
      rcases hp with hp | hp
      · rw [Bool.and_eq_true] at hp
        obtain ⟨hlt, n, g, hl⟩ := refT_spec hp.1
        have hc := chain hst (t := c) i 0 (by omega) fun m om _ _ hom => noDst_spec hp.2 hom
        rw [Nat.zero_add] at hc
        exact ⟨n, g, by simp only [evO]; rw [if_pos hlt, hc, hl]⟩
      · obtain ⟨a, ha, h⟩ := List.any_eq_true.1 hp
        have hai := List.mem_range.1 ha
        split at h
        case h_2 => cases h
        rename_i oa hoa
        split at h
        case h_2 => cases h
        rename_i hg
        split at h
        case h_2 => cases h
        rename_i T2 y2 f hop2
        split at h
        case h_2 => cases h
        rename_i c0
        rw [Bool.and_eq_true, Bool.and_eq_true, Bool.and_eq_true] at h
        obtain ⟨hd, hb, h1, h2⟩ := h
        have hd' : oa.dst = some c := by simpa using hd
        have hlt : c < N := Nat.le_of_ble_eq_true hb
        obtain ⟨hlt0, n, g, hl⟩ := refT_spec h1
        have hc0 := chain hst (t := c0) a 0 (by omega) fun m om _ _ hom => noDst_spec h2 hom
        rw [Nat.zero_add] at hc0
        have hcc := chain hst (t := c) (i - (a + 1)) (a + 1) (by omega) fun m om g1 g2 hom hdm => hr.once a m oa om (by omega) hoa hom c hd' hdm
        rw [show a + 1 + (i - (a + 1)) = i by omega] at hcc
        simp only [evO]
        rw [if_pos hlt, hcc]
        generalize hs1 : st (a + 1) = s1
        have hs := hst a oa hoa
        rw [hs1] at hs
        cases hs with
        | skip hw =>
          unfold Want at hw
          rw [hg] at hw
          cases hw
        | run hw hy2 hask hv hv2 hv3 hv4 =>
          rename_i y3 v3
          rw [hd']
          rw [lookT_put_eq]
          unfold evOp at hy2
          rw [hop2] at hy2
          simp only [evO] at hy2
          rw [if_pos hlt0, hc0, hl] at hy2
          split at hy2
          · unfold evFieldAddr at hy2
            simp only at hy2
            split at hy2
            · cases hy2
            · simp only [pureY] at hy2
              cases hy2
              exact ⟨_, _, hv3 _ _ rfl⟩
          · cases hy2
    obtain ⟨n, g, hk⟩ := key
    have hx : evO N τ (.tmp c) = .ref n g := by
      rw [← hk]
      exact (heq (.tmp c) (by rw [hop]; simp [Op.operands])).symm
    unfold evOp at hy ⊢
    rw [hop] at hy ⊢
    simp only [hx] at hy ⊢
    split at hy
    · rename_i ti hti
      refine ⟨evLoad_eff hy, fun H' nm' => ?_⟩
      exact hy
    · cases hy
theorem ap_ok {P : Program} {specs : List FSpec} {eqs : List (TypeId × List CK)} {N : Nat} {ops : Array Oper} {st : Nat → St} {e1 : Nat}
    (hst : ∀ i o, ops[i]? = some o → Step P specs eqs N ops o (st i) (st (i + 1))) : ApOK P N ops st e1 (Apart2 P N (st ops.size).τ ops e1) := by
  intro i j oi oj hoi hoj hA
  obtain ⟨T, c, T', d, z, hop, hop', hc, hcase⟩ := hA.is
  have hi : i < ops.size := (Array.getElem?_eq_some_iff.1 hoi).1
  have hj : j < ops.size := (Array.getElem?_eq_some_iff.1 hoj).1
  have look : ∀ {m t}, m ≤ ops.size → noW ops m t = true → evO N (st m).τ (.tmp t) = evO N (st ops.size).τ (.tmp t) := fun {m t} hm hw => by
    have := chain hst (t := t) (ops.size - m) m (by omega) fun q oq h1 h2 hoq => noW_spec hw h1 hoq
    rw [show m + (ops.size - m) = ops.size by omega] at this
    simp only [evO, this]
  refine ⟨hA.lt, T, .tmp c, hop, fun ti y hti hask hy => ?_⟩
  rcases hcase with ⟨n0, g0, hk⟩ | ⟨k, off, k', off', hd, hk, hk', hne⟩
  · rw [look (Nat.le_of_lt hi) hc, hk] at hy ⊢
    exact hy
  rw [look (Nat.le_of_lt hi) hc, hk] at hy ⊢
  generalize hs1 : st (j + 1) = s1
  have hs := hst _ _ hoj
  rw [hs1] at hs
  cases hs with
  | skip => exact hy
  | run hw hy' hask' hv hv2 hv3 hv4 =>
    rename_i y' v
    unfold evOp at hy'
    rw [hop'] at hy'
    simp only at hy'
    split at hy'
    case h_2 => cases hy'
    rename_i ti' hti'
    rw [look (Nat.le_of_lt hj) hd, hk'] at hy'
    unfold evStore at hy'
    split at hy'
    case h_2 => cases hy'
    rename_i m f hcv
    split at hy'
    case isFalse => cases hy'
    rename_i hm1
    simp only at hy'
    split at hy'
    case h_2 => cases hy'
    rename_i n g T0 hobj
    have hlt : k' < (st j).H.length := by
      refine Nat.not_le.1 fun hc => ?_
      rw [List.getD_eq_getElem?_getD, List.getElem?_eq_none hc] at hobj
      cases hobj
    have put : ∀ so, nextH (st j).H (.sets [(k', so)]) = (st j).H.set k' so := fun so => rfl
    have apart : ∀ so, k ≠ k' → evLoad ti ((st j).H.set k' so) (.own k off) = some y := fun so h => by
      simp only [evLoad] at hy ⊢
      rw [getD_set_ne' h]
      exact hy
    have one : ∀ {T ti}, oneT P T = true → tinf P T = some ti → ti = (1, false) := fun {T ti} h1 h2 => by
      unfold oneT at h1
      rw [h2] at h1
      simp only [Bool.and_eq_true] at h1
      obtain ⟨a, b⟩ := ti
      have := Nat.eq_of_beq_eq_true h1.1
      simp only at this
      subst this
      cases b
      · rfl
      · simp at h1
    by_cases hkk : k = k'
    · subst hkk
      obtain ⟨ho, hT, hT'⟩ : off ≠ off' ∧ oneT P T = true ∧ oneT P T' = true := hne.resolve_left fun h => h rfl
      obtain rfl := one hT hti
      obtain rfl := one hT' hti'
      simp only [evLoad, hobj, Option.some.injEq] at hy
      subst hy
      have hf : off + 1 ≤ n := Fit.le hask
      split at hy'
      · rename_i hb
        have hmn := Nat.eq_of_beq_eq_true hb
        cases hy'
        have hf' : off' + m ≤ n := Fit.le hask'
        simp only at hm1
        omega
      · cases hy'
        show evLoad (1, false) (nextH (st j).H (.sets [(k, _)])) (.own k off) = _
        rw [put]
        simp only [evLoad, getD_set_eq hlt]
        congr 1
        have e : updF g off' m f off = g off := by
          unfold updF
          rw [selS_eq]
          have : ¬ (off' ≤ off ∧ off < off' + m) := by simp only at hm1; omega
          rw [decide_eq_false this]
          rfl
        show Yd.mk _ (updF g off' m f off) _ = Yd.mk _ (g off) _
        rw [e]
    · split at hy' <;> (cases hy'; exact apart _ hkk)
/-- A region, in whatever order. -/
theorem region_sound {P : Program} {w0 X0 N} {specs : List FSpec} (hspecs : ∀ s ∈ specs, SpecOK P s) {eqs : List (TypeId × List CK)} (heqs : ∀ t n, (t, n) ∈ eqs → EqOK P t n) (hm : P.follows .mixedOrders = true) {ops : Array Oper} {id : Nat} {draw : Bool}
    {Q : Exit → Act → World → Prop} {s s' : St} (ht : Tr P specs eqs N ops ops.toList s s') (hd : draw = true → regB P (effS specs) N s.τ s'.τ ops = true) (hQ : ∀ a w, StR w0 X0 N s' a w → Q .normal a w) {a : Act} {w : World} (h : StR w0 X0 N s a w) :
    (Code.region id ops draw).wp P Q a w := by
  cases draw with
  | false => exact wp_region_list (tr_seq hspecs heqs ht hQ a w h)
  | true =>
    have hr := regB_spec (hd rfl)
    obtain ⟨st, h0, h1, h2⟩ := ht.states
    rw [Array.length_toList] at h1
    rw [← h0, ← h1] at hr
    have hst : ∀ i o, ops[i]? = some o → Step P specs eqs N ops o (st i) (st (i + 1)) := fun i o ho => h2 i o (by rw [Array.getElem?_toList]; exact ho)
    have hdr : StR w0 X0 N (st 0) a { w with drawn := w.drawn + 1 } := by
      rw [h0]
      obtain ⟨E, hrep, htr⟩ := h
      have hb : Below w.heap.size w w.drew := (Below.refl _ _).drew
      exact ⟨E, hrep.world hb, htr.mono (Rep.keeps hb) (Within.refl _ _) (Env.le_refl _)⟩
    have hnone : ∀ i, ¬ LB (Array.replicate ops.size false) i := fun i hi => by
      unfold LB at hi
      rw [Array.getD_eq_getD_getElem?, Array.getElem?_replicate] at hi
      split at hi <;> simp at hi
    obtain ⟨E, hmid⟩ := mid_start hr (by have := List.findIdx_le_length (p := isEff (effS specs)) (xs := ops.toList); simpa using this) hst hnone hdr
    refine wp_region_any hm (any_sound (pu_ok hr hst) hspecs heqs (ap_ok hst) hr hst (by rw [h1]; exact hQ) ops.size _ a _ _ E (by simp) ?_ hmid)
    unfold unlisted
    have := List.length_filter_le (fun i => !(Array.replicate ops.size false).getD i true) (List.range (Array.replicate ops.size false).size)
    simpa using this
end Go.Proofs.YtbmgclpgompjmaaDoor.Sx
