/- A region whose order is drawn: the induction over all orders. -/
import Derived.Test.YtbmgclpgompjmaaDoorSxp
namespace Go.Proofs.YtbmgclpgompjmaaDoor.Sx
open Go.RowKit
theorem optO_congr {N τ τ'} {x : Option Operand} (h : ∀ y, x = some y → evO N τ y = evO N τ' y) : optO N τ x = optO N τ' x := by
  cases x with
  | none => rfl
  | some y => simp only [optO, h y rfl]
theorem evOp_congr {P specs eqs N τ τ' H nm o} (h : ∀ x, x ∈ o.op.operands → evO N τ x = evO N τ' x) : evOp P specs eqs N τ H nm o = evOp P specs eqs N τ' H nm o := by
  unfold evOp
  have parts : ∀ (ps : Array (Nat × Operand)), (∀ x, x ∈ (ps.toList.map (·.2)).toArray → evO N τ x = evO N τ' x) → (ps.toList.map fun p => (p.1, evO N τ p.2)) = ps.toList.map fun p => (p.1, evO N τ' p.2) := by
    intro ps hp
    refine List.map_congr_left fun p hm => ?_
    rw [hp p.2 (by simp only [List.mem_toArray, List.mem_map]; exact ⟨p, hm, rfl⟩)]
  have args : ∀ (xs : Array Operand), (∀ x, x ∈ xs → evO N τ x = evO N τ' x) → mapArgs N τ xs = mapArgs N τ' xs := by
    intro xs hx
    exact List.map_congr_left fun x hm => hx x (Array.mem_toList_iff.1 hm)
  cases hop : o.op <;> rw [hop] at h <;> simp only [Op.operands] at h <;> (try simp only)
  case move x => rw [h x (by simp)]
  case assign x => rw [h x (by simp)]
  case pick c a b => rw [h c (by simp), h a (by simp), h b (by simp)]
  case box t x => rw [h x (by simp)]
  case build t ps => rw [parts ps h]
  case buildSlice t n ps => rw [parts ps h]
  case load t x => rw [h x (by simp)]
  case store t a v => rw [h a (by simp), h v (by simp)]
  case nilCheck x => rw [h x (by simp)]
  case binOp op t a v yt => rw [h a (by simp), h v (by simp)]
  case unOp op t x => rw [h x (by simp)]
  case convert s d x => rw [h x (by simp)]
  case makeFunc fn first caps =>
    cases fn <;> simp only
    rw [args caps fun x hx => h x (by simp [hx])]
  case makeSlice t a v => rw [h a (by simp), h v (by simp)]
  case slice t x lo hi mx =>
    rw [h x (by simp), optO_congr (x := lo) (τ' := τ') fun y hy => h y (by subst hy; simp), optO_congr (x := hi) (τ' := τ') fun y hy => h y (by subst hy; simp), optO_congr (x := mx) (τ' := τ') fun y hy => h y (by subst hy; simp)]
  case fieldAddr t x f => rw [h x (by simp)]
  case field t x f => rw [h x (by simp)]
  case indexAddr t a v => rw [h a (by simp), h v (by simp)]
  case index t a v => rw [h a (by simp), h v (by simp)]
  case extract x i => rw [h x (by simp)]
  case call c =>
    obtain ⟨callee, cargs, cts⟩ := c
    simp only [Call.operands] at h
    cases callee <;> simp only
    case value f => rw [h f (by simp), args cargs fun x hx => h x (by simp [hx])]
    case builtin b => rw [args cargs fun x hx => h x (by simp [hx])]
theorem evO_eq {N τ τ' ops} {o : Oper} (h : ∀ t, t < N → t ∈ o.looksAt ops → lookT τ t = lookT τ' t) : ∀ x, x ∈ o.op.operands → evO N τ x = evO N τ' x := by
  intro x hx
  cases x with
  | tmp t =>
    simp only [evO]
    split
    · rename_i hlt
      refine h t hlt ?_
      unfold Oper.looksAt
      refine List.mem_append_left _ (List.mem_filterMap.2 ⟨.tmp t, Array.mem_toList_iff.2 hx, rfl⟩)
    · rfl
  | _ => rfl
theorem gsv_eq {N τ τ' ops} {o : Oper} (h : ∀ t, t < N → t ∈ o.looksAt ops → lookT τ t = lookT τ' t) {j : Nat} {want : Bool} (hg : o.guard = some (j, want)) : gsv N ops τ j = gsv N ops τ' j := by
  unfold gsv
  cases hd : (ops[j]?).bind (·.dst) with
  | none => rfl
  | some d =>
    simp only
    split
    · rename_i hlt
      refine h d hlt ?_
      unfold Oper.looksAt
      refine List.mem_append_right _ ?_
      rw [hg]
      simp [hd]
    · rfl
theorem Want.congr {N τ τ' ops} {o : Oper} {yes : Bool} (h : ∀ t, t < N → t ∈ o.looksAt ops → lookT τ t = lookT τ' t) (hw : Want N ops τ o yes) : Want N ops τ' o yes := by
  unfold Want at *
  cases hg : o.guard with
  | none => rw [hg] at hw; exact hw
  | some jw =>
    obtain ⟨j, want⟩ := jw
    rw [hg] at hw
    simp only at hw ⊢
    rw [← gsv_eq h hg]
    exact hw
/-- Only these temporaries. -/
def pick (τ : Tmps) (ts : List Nat) : Tmps := ts.map fun t => (t, lookT τ t)
theorem lookT_pick {τ : Tmps} {t : Nat} : ∀ {ts : List Nat}, (t ∈ ts → lookT (pick τ ts) t = lookT τ t) ∧ (t ∉ ts → lookT (pick τ ts) t = .any)
  | [] => ⟨fun h => (nomatch h), fun _ => rfl⟩
  | u :: ts => by
    obtain ⟨h1, h2⟩ := @lookT_pick τ t ts
    simp only [pick, List.map_cons, lookT]
    by_cases hu : u = t
    · subst hu
      rw [if_pos rfl]
      exact ⟨fun _ => rfl, fun h => absurd List.mem_cons_self h⟩
    · rw [if_neg hu]
      refine ⟨fun h => h1 ?_, fun h => h2 fun hc => h (List.mem_cons_of_mem _ hc)⟩
      cases h with
      | head => exact absurd rfl hu
      | tail _ h => exact h
theorem TR_pick {w X E N τ a ts} (h1 : a.tmps.size = N) (h2 : a.defers = []) (h : ∀ t, t < N → t ∈ ts → R w X E (lookT τ t) (a.tmps.getD t undef)) : TR w X E N (pick τ ts) a := by
  refine ⟨h1, h2, fun t ht => ?_⟩
  by_cases hm : t ∈ ts
  · rw [lookT_pick.1 hm]; exact h t ht hm
  · rw [lookT_pick.2 hm]; exact .any
section
variable {P : Program} {specs : List FSpec} {eqs : List (TypeId × List CK)} {N : Nat} {ops : Array Oper} {st : Nat → St} {pu : Nat → Oper → Bool} {ap : Nat → Nat → Oper → Oper → Prop}
theorem step_tau {o : Oper} {s s' : St} (h : Step P specs eqs N ops o s s') : ∃ v, s'.τ = putT o.dst v s.τ := by
  cases h with
  | run => exact ⟨_, rfl⟩
  | skip => exact ⟨_, rfl⟩
theorem lookT_put_ne {dst : Option Tmp} {v : SV} {τ : Tmps} {t : Nat} (h : dst ≠ some t) : lookT (putT dst v τ) t = lookT τ t := by
  cases dst with
  | none => rfl
  | some d => simp only [putT, lookT]; rw [if_neg (fun hc => h (by rw [hc]))]
theorem lookT_put_eq {v : SV} {τ : Tmps} {t : Nat} : lookT (putT (some t) v τ) t = v := by simp [putT, lookT]
/-- Between i and j nobody writes t. -/
theorem chain (hst : ∀ i o, ops[i]? = some o → Step P specs eqs N ops o (st i) (st (i + 1))) {t : Nat} : ∀ (k i : Nat), i + k ≤ ops.size → (∀ m o, i ≤ m → m < i + k → ops[m]? = some o → o.dst ≠ some t) → lookT (st (i + k)).τ t = lookT (st i).τ t
  | 0, _, _, _ => rfl
  | k + 1, i, hle, h => by
    have ho : ops[i + k]? = some ops[i + k] := Array.getElem?_eq_getElem (by omega)
    obtain ⟨v, hv⟩ := step_tau (hst _ _ ho)
    rw [← Nat.add_assoc, hv, lookT_put_ne (h _ _ (by omega) (by omega) ho)]
    exact chain hst k i (by omega) fun m o h1 h2 => h m o h1 (by omega)
/-- What temporary t holds when the operations of L have been carried out. -/
def Look (ops : Array Oper) (st : Nat → St) (L : Nat → Prop) (t : Nat) (s : SV) : Prop :=
  (∃ i o, ops[i]? = some o ∧ L i ∧ o.dst = some t ∧ s = lookT (st (i + 1)).τ t) ∨ ((∀ i o, ops[i]? = some o → L i → o.dst ≠ some t) ∧ s = lookT (st 0).τ t)
/-- The operands of an operation that may come up are as in the text's order. -/
theorem look_ready {e1 : Nat} (hr : RegOK pu ap (effS specs) ops e1) (hst : ∀ i o, ops[i]? = some o → Step P specs eqs N ops o (st i) (st (i + 1))) {L : Nat → Prop} (hc : Closed ops L) {i : Nat} {o : Oper} (ho : ops[i]? = some o) (hL : ¬ L i)
    (hrd : ∀ e ∈ o.after, Region.binds .any e = true → L e.on) {t : Nat} (ht : t ∈ o.looksAt ops) : Look ops st L t (lookT (st i).τ t) := by
  have hi : i < ops.size := (Array.getElem?_eq_some_iff.1 ho).1
  have hrd' : ∀ o', ops[i]? = some o' → ∀ e ∈ o'.after, Region.binds .any e = true → L e.on := fun o' ho' => by rw [ho] at ho'; cases ho'; exact hrd
  by_cases hw : ∃ k ok, ops[k]? = some ok ∧ k < i ∧ ok.dst = some t
  · obtain ⟨k, ok, hok, hki, hd⟩ := hw
    have hLk : L k := by
      rcases hr.pair k i ok o hki hok ho with ha | ⟨hap, _⟩
      · exact ha.listed hc hrd'
      · exact absurd ht ((Oper.apart_spec hap).1 t hd)
    refine .inl ⟨k, ok, hok, hLk, hd, ?_⟩
    have := chain hst (t := t) (i - (k + 1)) (k + 1) (by omega) fun m om h1 h2 hom hdm => hr.once k m ok om (by omega) hok hom t hd hdm
    rwa [show k + 1 + (i - (k + 1)) = i by omega] at this
  · refine .inr ⟨fun j oj hoj hLj hd => ?_, ?_⟩
    · rcases Nat.lt_trichotomy j i with hji | rfl | hji
      · exact hw ⟨j, oj, hoj, hji, hd⟩
      · exact hL hLj
      · rcases hr.pair i j o oj hji ho hoj with ha | ⟨hap, _⟩
        · exact hL (ha.listed hc fun o' ho' => hc j o' hLj ho')
        · exact (Oper.apart_spec hap).2.2 t hd ht
    · have := chain hst (t := t) i 0 (by omega) fun m om _ h2 hom hdm => hw ⟨m, om, hom, by omega, hdm⟩
      rwa [Nat.zero_add] at this
/-- When all is done. -/
theorem look_all {e1 : Nat} (hr : RegOK pu ap (effS specs) ops e1) (hst : ∀ i o, ops[i]? = some o → Step P specs eqs N ops o (st i) (st (i + 1))) {L : Nat → Prop} (hL : ∀ i, i < ops.size → L i) (t : Nat) : Look ops st L t (lookT (st ops.size).τ t) := by
  by_cases hw : ∃ (k : Nat) (ok : Oper), ops[k]? = some ok ∧ ok.dst = some t
  · obtain ⟨k, ok, hok, hd⟩ := hw
    have hk : k < ops.size := (Array.getElem?_eq_some_iff.1 hok).1
    refine .inl ⟨k, ok, hok, hL k hk, hd, ?_⟩
    have := chain hst (t := t) (ops.size - (k + 1)) (k + 1) (by omega) fun m om h1 h2 hom hdm => hr.once k m ok om (by omega) hok hom t hd hdm
    rwa [show k + 1 + (ops.size - (k + 1)) = ops.size by omega] at this
  · refine .inr ⟨fun j oj hoj _ hd => hw ⟨j, oj, hoj, hd⟩, ?_⟩
    have := chain hst (t := t) ops.size 0 (by omega) fun m om _ _ hom hdm => hw ⟨m, om, hom, hdm⟩
    rwa [Nat.zero_add] at this
/-- What pu says of an operation: it writes nothing, and what is in the heap is nothing to it. -/
def PuOK (P : Program) (specs : List FSpec) (eqs : List (TypeId × List CK)) (N : Nat) (ops : Array Oper) (st : Nat → St) (pu : Nat → Oper → Bool) : Prop :=
  ∀ i o, ops[i]? = some o → pu i o = true → ∀ {τ H nm y}, (∀ x, x ∈ o.op.operands → evO N (st i).τ x = evO N τ x) → evOp P specs eqs N τ H nm o = some y → y.eff = .keep ∧ ∀ H' nm', evOp P specs eqs N τ H' nm' o = some y
/-- The heaps of data along the text. -/
theorem heap_keep (hpu : PuOK P specs eqs N ops st pu) (hst : ∀ i o, ops[i]? = some o → Step P specs eqs N ops o (st i) (st (i + 1))) : ∀ (k i : Nat), i + k ≤ ops.size → (∀ m o, i ≤ m → m < i + k → ops[m]? = some o → pu m o = true) → (st (i + k)).H = (st i).H
  | 0, _, _, _ => rfl
  | k + 1, i, hle, h => by
    have ho : ops[i + k]? = some ops[i + k] := Array.getElem?_eq_getElem (by omega)
    have hp := h _ _ (by omega) (by omega) ho
    have ih := heap_keep hpu hst k i (by omega) fun m o h1 h2 => h m o h1 (by omega)
    rw [← Nat.add_assoc, ← ih]
    generalize hs1 : st (i + k + 1) = s1
    have hs := hst _ _ ho
    rw [hs1] at hs
    cases hs with
    | run hw hy hask hv hv2 hv3 hv4 =>
      rw [(hpu _ _ ho hp (fun _ _ => rfl) hy).1]
      rfl
    | skip => rfl
theorem heap_grows {e1 : Nat} (hr : RegOK pu ap (effS specs) ops e1) (hst : ∀ i o, ops[i]? = some o → Step P specs eqs N ops o (st i) (st (i + 1))) : ∀ (k i : Nat), i + k ≤ ops.size → i + k ≤ e1 → ∃ l, (st (i + k)).H = (st i).H ++ l
  | 0, i, _, _ => ⟨[], by simp⟩
  | k + 1, i, hle, he => by
    have ho : ops[i + k]? = some ops[i + k] := Array.getElem?_eq_getElem (by omega)
    have hp := hr.free _ _ (by omega) ho
    obtain ⟨l, ih⟩ := heap_grows hr hst k i (by omega) (by omega)
    rw [← Nat.add_assoc]
    generalize hs1 : st (i + k + 1) = s1
    have hs := hst _ _ ho
    rw [hs1] at hs
    cases hs with
    | run hw hy hask hv hv2 hv3 hv4 =>
      rcases free_spec hp hy with h | ⟨so, h⟩
      · rw [h]; exact ⟨l, ih⟩
      · rw [h]; exact ⟨l ++ [so], by simp only [nextH]; rw [ih, List.append_assoc]⟩
    | skip => exact ⟨l, ih⟩
/-- What ap says of a read and a later write: the read is the same behind the write. -/
def ApOK (P : Program) (N : Nat) (ops : Array Oper) (st : Nat → St) (e1 : Nat) (ap : Nat → Nat → Oper → Oper → Prop) : Prop :=
  ∀ i j oi oj, ops[i]? = some oi → ops[j]? = some oj → ap i j oi oj → i < e1 ∧ ∃ T x, oi.op = .load T x ∧ ∀ ti y, tinf P T = some ti → y.ask → evLoad ti (st j).H (evO N (st i).τ x) = some y → evLoad ti (st (j + 1)).H (evO N (st i).τ x) = some y
theorem Late.lt {ops : Array Oper} {e1 i j : Nat} {oi oj : Oper} (h : Late ops e1 i j oi oj) : i < e1 := by
  obtain ⟨_, _, _, a, _, _, _, h2, _, h4, _⟩ := h.store
  omega
/-- A read of what was there already, behind a change of what came later. -/
theorem evLoad_set {ti : Nat × Bool} {H0 H : List SO} {A : SV} {y0 y : Yd} {q : Nat} {so : SO} (h0 : evLoad ti H0 A = some y0) (h : evLoad ti H A = some y) (hq : H0.length ≤ q) : evLoad ti (H.set q so) A = some y := by
  have big : ∀ k, H0.length ≤ k → H0.getD k .dead = .dead := fun k hk => by rw [List.getD_eq_getElem?_getD, List.getElem?_eq_none hk]; rfl
  cases A <;> simp only [evLoad, reduceCtorEq] at h h0 ⊢
  case own k off =>
    have hk : k ≠ q := fun hc => by rw [hc, big q hq] at h0; cases h0
    rw [getD_set_ne' hk]
    exact h
  case ownAt k ver i m off =>
    have hk : k ≠ q := fun hc => by rw [hc, big q hq] at h0; cases h0
    rw [getD_set_ne' hk]
    exact h
  all_goals exact h
/-- A read that comes up late reads what it reads in its place. -/
theorem late_load (hpu : PuOK P specs eqs N ops st pu) {e1 : Nat} (hap : ApOK P N ops st e1 ap) (hr : RegOK pu ap (effS specs) ops e1) (hst : ∀ i o, ops[i]? = some o → Step P specs eqs N ops o (st i) (st (i + 1))) {i : Nat} {o : Oper} (hi : i < e1) (he1 : e1 ≤ ops.size)
    (hoi : ops[i]? = some o) {T : TypeId} {x : Operand} (hop : o.op = .load T x) {ti : Nat × Bool} (hti : tinf P T = some ti) {y : Yd} (hask : y.ask) (hy : evLoad ti (st i).H (evO N (st i).τ x) = some y) :
    ∀ (k : Nat), e1 + k ≤ ops.size → (∀ m om, e1 ≤ m → m < e1 + k → ops[m]? = some om → pu m om = true ∨ Late ops e1 i m o om ∨ ap i m o om) → evLoad ti (st (e1 + k)).H (evO N (st i).τ x) = some y
  | 0, _, _ => by
    obtain ⟨l, hl⟩ := heap_grows hr hst (e1 - i) i (by omega) (by omega)
    rw [show i + (e1 - i) = e1 by omega] at hl
    rw [Nat.add_zero, hl]
    exact evLoad_ext (Ext.app _ _) hy
  | k + 1, hle, h => by
    have ih := late_load hpu hap hr hst hi he1 hoi hop hti hask hy k (by omega) fun m om h1 h2 => h m om h1 (by omega)
    have ho : ops[e1 + k]? = some ops[e1 + k] := Array.getElem?_eq_getElem (by omega)
    rcases h _ _ (by omega) (by omega) ho with hp | hL | hA
    · have := heap_keep hpu hst 1 (e1 + k) (by omega) fun m om h1 h2 hom => by
        obtain rfl : m = e1 + k := by omega
        rw [ho] at hom; cases hom; exact hp
      rw [← Nat.add_assoc, this]
      exact ih
    · obtain ⟨T, d, x, a, oa, T', h1, h2, h3, h4, h5, h6, h7⟩ := hL.store
      rw [← Nat.add_assoc]
      -- what the temporary names
      have hch : lookT (st (e1 + k)).τ d = lookT (st (a + 1)).τ d := by
        have := chain hst (t := d) (e1 + k - (a + 1)) (a + 1) (by omega) fun m om g1 g2 hom hdm => hr.once a m oa om (by omega) h5 hom d h7 hdm
        rwa [show a + 1 + (e1 + k - (a + 1)) = e1 + k by omega] at this
      obtain ⟨l, hl⟩ := heap_grows hr hst (a - i) i (by omega) (by omega)
      rw [show i + (a - i) = a by omega] at hl
      have hlen : (st i).H.length ≤ (st a).H.length := by rw [hl]; simp
      have hname : lookT (st (a + 1)).τ d = .own (st a).H.length 0 ∨ lookT (st (a + 1)).τ d = undefS := by
        generalize hs1 : st (a + 1) = s1
        have hs := hst _ _ h5
        rw [hs1] at hs
        cases hs with
        | run hw hy hask hv hv2 hv3 hv4 =>
          rename_i y v
          unfold evOp at hy
          rw [h6] at hy
          simp only at hy
          split at hy
          case h_2 => cases hy
          cases hy
          rw [h7, hv2 _ _ rfl, lookT_put_eq]
          exact .inl rfl
        | skip => rw [h7, lookT_put_eq]; exact .inr rfl
      generalize hs1 : st (e1 + k + 1) = s1
      have hs := hst _ _ ho
      rw [hs1] at hs
      cases hs with
      | run hw hy' hask' hv hv2 hv3 hv4 =>
        rename_i y' v
        unfold evOp at hy'
        rw [h1] at hy'
        simp only at hy'
        split at hy'
        case h_2 => cases hy'
        rename_i ti' hti'
        have hev : evO N (st (e1 + k)).τ (.tmp d) = .any ∨ evO N (st (e1 + k)).τ (.tmp d) = .own (st a).H.length 0 ∨ evO N (st (e1 + k)).τ (.tmp d) = undefS := by
          simp only [evO]
          split
          · rw [hch]; rcases hname with g | g <;> rw [g] <;> simp
          · exact .inl rfl
        unfold evStore at hy'
        split at hy'
        case h_2 => cases hy'
        split at hy'
        case isFalse => cases hy'
        have hsets : ∃ so, y'.eff = .sets [((st a).H.length, so)] := by
          rcases hev with g | g | g <;> rw [g] at hy'
          · cases hy'
          · simp only at hy'
            split at hy'
            · split at hy' <;> (cases hy'; exact ⟨_, rfl⟩)
            · cases hy'
          · cases hy'
        obtain ⟨so, hso⟩ := hsets
        rw [hso]
        exact evLoad_set hy ih hlen
      | skip => exact ih
    · obtain ⟨_, T2, x2, hop2, hA⟩ := hap i (e1 + k) o _ hoi ho hA
      rw [hop] at hop2
      cases hop2
      rw [← Nat.add_assoc]
      exact hA ti y hti hask ih
end
end Go.Proofs.YtbmgclpgompjmaaDoor.Sx
