/- A region whose order is drawn: whatever order comes up, it ends where the text's order ends. -/
import Derived.Test.YtbmgclpgompjmaaDoorSxq
namespace Go.Proofs.YtbmgclpgompjmaaDoor.Sx
open Go.RowKit
def LB (listed : Array Bool) (i : Nat) : Prop := listed.getD i false = true
section
variable {P : Program} {w0 : World} {X0 : Fr} {specs : List FSpec} {eqs : List (TypeId × List CK)} {N : Nat} {ops : Array Oper} {st : Nat → St} {pu : Nat → Oper → Bool} {ap : Nat → Nat → Oper → Oper → Prop}
/-- In the midst of an order. -/
structure Mid (pu : Nat → Oper → Bool) (w0 : World) (X0 : Fr) (N : Nat) (ops : Array Oper) (st : Nat → St) (e1 : Nat) (L : Nat → Prop) (a : Act) (w : World) (p : Nat) (E : Env) : Prop where
  closed : Closed ops L
  le1 : e1 ≤ p
  len : p ≤ ops.size
  done : ∀ i o, ops[i]? = some o → pu i o = false → e1 ≤ i → i < p → L i
  todo : ∀ i o, ops[i]? = some o → pu i o = false → p ≤ i → ¬ L i
  rep : Rep w0 X0 (st p).H E w
  names : ∀ i o, ops[i]? = some o → i < e1 → ¬ L i → (st (i + 1)).H.length ≠ (st i).H.length → E (st i).H.length = none
  size : a.tmps.size = N
  defers : a.defers = []
  look : ∀ t, t < N → ∀ s, Look ops st L t s → R w (Xo X0 E (st p).H) E s (a.tmps.getD t undef)
theorem put_getD {a : Act} {dst : Option Tmp} {v : Value} {t : Nat} (h : dst ≠ some t) : (a.put dst v).tmps.getD t undef = a.tmps.getD t undef := by
  cases dst with
  | none => rfl
  | some d =>
    simp only [Act.put]
    rw [Array.getD_eq_getD_getElem?, Array.getElem?_setIfInBounds_ne (fun hc => h (by rw [hc])), ← Array.getD_eq_getD_getElem?]
theorem put_getD_same {a : Act} {v : Value} {t : Nat} (h : t < a.tmps.size) : (a.put (some t) v).tmps.getD t undef = v := by
  simp only [Act.put]
  rw [Array.getD_eq_getD_getElem?, Array.getElem?_setIfInBounds_self_of_lt h]
  rfl
/-- One operation more. -/
theorem Mid.step {e1 : Nat} (hr : RegOK pu ap (effS specs) ops e1) {L : Nat → Prop} {a : Act} {w w' : World} {p p' : Nat} {E E' : Env} (h : Mid pu w0 X0 N ops st e1 L a w p E) {i : Nat} {o : Oper} (ho : ops[i]? = some o)
    (hrd : ∀ e ∈ o.after, Region.binds .any e = true → L e.on) {sv : SV} {v : Value} (hs : (st (i + 1)).τ = putT o.dst sv (st i).τ)
    (hp1 : e1 ≤ p') (hp2 : p' ≤ ops.size) (hp3 : ∀ j oj, ops[j]? = some oj → pu j oj = false → e1 ≤ j → j < p' → L j ∨ j = i) (hp4 : ∀ j oj, ops[j]? = some oj → pu j oj = false → p' ≤ j → ¬ L j ∧ j ≠ i)
    (le : E.le E') (hk : Keeps (Xo X0 E (st p).H) w w') (hx : Within (Xo X0 E (st p).H) (Xo X0 E' (st p').H) w) (hrep : Rep w0 X0 (st p').H E' w') (hv : R w' (Xo X0 E' (st p').H) E' sv v)
    (hn : ∀ j oj, ops[j]? = some oj → j < e1 → ¬ L j → j ≠ i → (st (j + 1)).H.length ≠ (st j).H.length → E (st j).H.length = none → E' (st j).H.length = none) :
    Mid pu w0 X0 N ops st e1 (fun j => L j ∨ j = i) (a.put o.dst v) w' p' E' := by
  refine ⟨fun j oj hj hoj e he hb => ?_, hp1, hp2, hp3, fun j oj hoj hpj hle hc => ?_, hrep, fun j oj hoj hj hL hne => ?_, ?_, ?_, fun t ht s hl => ?_⟩
  · rcases hj with hj | rfl
    · exact .inl (h.closed j oj hj hoj e he hb)
    · rw [ho] at hoj; cases hoj; exact .inl (hrd e he hb)
  · obtain ⟨g1, g2⟩ := hp4 j oj hoj hpj hle
    rcases hc with hc | hc
    · exact g1 hc
    · exact g2 hc
  · exact hn j oj hoj hj (fun hc => hL (.inl hc)) (fun hc => hL (.inr hc)) hne (h.names j oj hoj hj (fun hc => hL (.inl hc)) hne)
  · cases o.dst with
    | none => exact h.size
    | some d => simp [Act.put, h.size]
  · cases o.dst with
    | none => exact h.defers
    | some d => exact h.defers
  · have hold : o.dst ≠ some t → Look ops st L t s → R w' (Xo X0 E' (st p').H) E' s ((a.put o.dst v).tmps.getD t undef) := fun hd hl' => by
      rw [put_getD hd]
      exact (h.look t ht s hl').mono hk hx le
    rcases hl with ⟨j, oj, hoj, hj, hd, rfl⟩ | ⟨hno, rfl⟩
    · by_cases hji : j = i
      · subst hji
        rw [ho] at hoj
        cases hoj
        rw [hs, hd, lookT_put_eq, put_getD_same (by rw [h.size]; exact ht)]
        exact hv
      · refine hold (fun hc => ?_) (.inl ⟨j, oj, hoj, hj.resolve_right hji, hd, rfl⟩)
        rcases Nat.lt_or_gt_of_ne hji with hlt | hgt
        · exact hr.once j i oj o hlt hoj ho t hd hc
        · exact hr.once i j o oj hgt ho hoj t hc hd
    · exact hold (hno i o ho (.inr rfl)) (.inr ⟨fun j oj hoj hj => hno j oj hoj (.inl hj), rfl⟩)
/-- An operation that may come up. -/
theorem mid_op (hpu : PuOK P specs eqs N ops st pu) (hspecs : ∀ s ∈ specs, SpecOK P s) (heqs : ∀ t n, (t, n) ∈ eqs → EqOK P t n) {e1 : Nat} (hap : ApOK P N ops st e1 ap) (hr : RegOK pu ap (effS specs) ops e1) (hst : ∀ i o, ops[i]? = some o → Step P specs eqs N ops o (st i) (st (i + 1)))
    {Q : Exit → Act → World → Prop} {K : Act → World → Prop} {L : Nat → Prop} {a : Act} {w : World} {p : Nat} {E : Env} (h : Mid pu w0 X0 N ops st e1 L a w p E) {i : Nat} {o : Oper} (ho : ops[i]? = some o) (hL : ¬ L i)
    (hrd : ∀ e ∈ o.after, Region.binds .any e = true → L e.on) (hK : ∀ a' w' p' E', Mid pu w0 X0 N ops st e1 (fun j => L j ∨ j = i) a' w' p' E' → K a' w') : wpOp P ops Q i K a w := by
  have hi : i < ops.size := (Array.getElem?_eq_some_iff.1 ho).1
  have htr : TR w (Xo X0 E (st p).H) E N (pick (st i).τ (o.looksAt ops)) a := TR_pick h.size h.defers fun t ht hm => h.look t ht _ (look_ready hr hst h.closed ho hL hrd hm)
  have heq : ∀ t, t < N → t ∈ o.looksAt ops → lookT (st i).τ t = lookT (pick (st i).τ (o.looksAt ops)) t := fun t _ hm => (lookT_pick.1 hm).symm
  have hrd' : ∀ o', ops[i]? = some o' → ∀ e ∈ o'.after, Region.binds .any e = true → L e.on := fun o' ho' => by rw [ho] at ho'; cases ho'; exact hrd
  have before : ∀ j oj, ops[j]? = some oj → pu j oj = false → pu i o = false → j < i → e1 ≤ i → L j ∨ Late ops e1 j i oj o ∨ ap j i oj o := fun j oj hoj hpj hpi hji hle => by
    rcases hr.pair j i oj o hji hoj ho with ha | ⟨_, hc⟩
    · exact .inl (ha.listed h.closed hrd')
    · rw [hpj, hpi] at hc
      rcases hc with hc | hc | hc | hc | hc
      · cases hc
      · cases hc
      · omega
      · exact .inr (.inl hc)
      · exact .inr (.inr hc)
  have after : ∀ j oj, ops[j]? = some oj → pu j oj = false → pu i o = false → i < j → e1 ≤ j → ¬ L j ∨ Late ops e1 i j o oj ∨ ap i j o oj := fun j oj hoj hpj hpi hij hle => by
    rcases hr.pair i j o oj hij ho hoj with ha | ⟨_, hc⟩
    · exact .inl fun hLj => hL (ha.listed h.closed fun o' ho' => h.closed j o' hLj ho')
    · rw [hpj, hpi] at hc
      rcases hc with hc | hc | hc | hc | hc
      · cases hc
      · cases hc
      · omega
      · exact .inr (.inl hc)
      · exact .inr (.inr hc)
  have laLt : ∀ {j k oj ok}, ops[j]? = some oj → ops[k]? = some ok → (Late ops e1 j k oj ok ∨ ap j k oj ok) → j < e1 ∧ ∃ T x, oj.op = .load T x := fun hj hk h => by
    rcases h with h | h
    · exact ⟨h.lt, h.load⟩
    · obtain ⟨h1, T, x, h2, _⟩ := hap _ _ _ _ hj hk h
      exact ⟨h1, T, x, h2⟩
  have before2 : ∀ j oj, ops[j]? = some oj → pu j oj = false → pu i o = false → j < i → e1 ≤ i → e1 ≤ j → L j := fun j oj hoj hpj hpi hji hle hle2 => by
    rcases before j oj hoj hpj hpi hji hle with hb | hb
    · exact hb
    · have := (laLt hoj ho hb).1
      omega
  have after2 : ∀ j oj, ops[j]? = some oj → pu j oj = false → pu i o = false → i < j → e1 ≤ j → e1 ≤ i → ¬ L j := fun j oj hoj hpj hpi hij hle hle2 => by
    rcases after j oj hoj hpj hpi hij hle with hb | hb
    · exact hb
    · have := (laLt ho hoj hb).1
      omega
  have same : ∀ q, q ≤ p → (∀ m om, q ≤ m → m < p → ops[m]? = some om → pu m om = true) → (st p).H = (st q).H := fun q hq hm => by
    have := heap_keep hpu hst (p - q) q (by have := h.len; omega) fun m om h1 h2 hom => hm m om h1 (by omega) hom
    rwa [show q + (p - q) = p by omega] at this
  -- in the first part the heap is that of the first write
  have first : pu i o = false → (∀ T x, o.op ≠ .load T x) → i < e1 → (st p).H = (st e1).H := fun hpi hnl hie => by
    refine same e1 h.le1 fun m om h1 h2 hom => ?_
    cases hpm : pu m om with
    | true => rfl
    | false =>
      rcases after m om hom hpm hpi (by omega) h1 with hb | hb
      · exact absurd (h.done m om hom hpm h1 h2) hb
      · obtain ⟨T, x, hc⟩ := (laLt ho hom hb).2
        exact absurd hc (hnl T x)
  have lateE : pu i o = false → i < e1 → ∀ {T x ti y}, o.op = .load T x → tinf P T = some ti → y.ask → evLoad ti (st i).H (evO N (st i).τ x) = some y → evLoad ti (st p).H (evO N (st i).τ x) = some y := fun hpi hie {T x ti y} hop hti hask hy => by
    have := late_load hpu hap hr hst hie (Nat.le_trans h.le1 h.len) ho hop hti hask hy (p - e1) (by have := h.le1; have := h.len; omega) fun m om h1 h2 hom => by
      cases hpm : pu m om with
      | true => exact .inl rfl
      | false =>
        rcases after m om hom hpm hpi (by omega) h1 with hb | hb
        · exact absurd (h.done m om hom hpm h1 (by have := h.le1; omega)) hb
        · exact .inr hb
    rwa [show e1 + (p - e1) = p by have := h.le1; omega] at this
  -- in the second part it is the text's own
  have second : pu i o = false → e1 ≤ i → p ≤ i ∧ (st p).H = (st i).H := fun hpi hie => by
    have hpi' : p ≤ i := by
      refine Nat.not_lt.1 fun hc => hL (h.done i o ho hpi hie hc)
    refine ⟨hpi', ?_⟩
    have := heap_keep hpu hst (i - p) p (by omega) fun m om h1 h2 hom => by
      cases hpm : pu m om with
      | true => rfl
      | false => exact absurd (before2 m om hom hpm hpi (by omega) hie (Nat.le_trans h.le1 h1)) (h.todo m om hom hpm h1)
    rw [show p + (i - p) = i by omega] at this
    exact this.symm
  have p3 : ∀ j oj, ops[j]? = some oj → pu j oj = false → e1 ≤ j → j < p → L j ∨ j = i := fun j oj hoj hpj h1 h2 => .inl (h.done j oj hoj hpj h1 h2)
  unfold wpOp
  rw [ho]
  simp only
  generalize hs1 : st (i + 1) = s1
  have hst1 := hst i o ho
  rw [hs1] at hst1
  cases hst1 with
  | skip hw =>
    rw [if_neg (by rw [(hw.congr heq).wanted htr]; simp)]
    have hτ : (st (i + 1)).τ = putT o.dst undefS (st i).τ := by rw [hs1]
    have hH : (st (i + 1)).H = (st i).H := by rw [hs1]
    by_cases hsec : pu i o = false ∧ e1 ≤ i
    · obtain ⟨hpi, hHp⟩ := second hsec.1 hsec.2
      have hHH : (st (i + 1)).H = (st p).H := by rw [hH, hHp]
      refine hK _ _ (i + 1) E (h.step hr ho hrd hτ (by omega) (by omega) (fun j oj hoj hpj h1 h2 => ?_) (fun j oj hoj hpj h1 => ⟨after2 j oj hoj hpj hsec.1 (by omega) (by omega) hsec.2, by omega⟩) (Env.le_refl _) (fun _ _ _ => rfl) (by rw [hHH]; exact Within.refl _ _) (by rw [hHH]; exact h.rep) undefS_sound
        fun j oj _ _ _ _ _ hn => hn)
      by_cases hji : j = i
      · exact .inr hji
      · exact .inl (before2 j oj hoj hpj hsec.1 (by omega) hsec.2 h1)
    · refine hK _ _ p E (h.step hr ho hrd hτ h.le1 h.len p3 (fun j oj hoj hpj h1 => ⟨h.todo j oj hoj hpj h1, fun hc => ?_⟩) (Env.le_refl _) (fun _ _ _ => rfl) (Within.refl _ _) h.rep undefS_sound fun j oj _ _ _ _ _ hn => hn)
      subst hc
      rw [ho] at hoj
      cases hoj
      exact hsec ⟨hpj, Nat.le_trans h.le1 h1⟩
  | run hw hy hask hsv hv2 hv3 hv4 =>
    rename_i y sv
    rw [if_pos ((hw.congr heq).wanted htr)]
    refine .inl ?_
    have hτ : (st (i + 1)).τ = putT o.dst sv (st i).τ := by rw [hs1]
    have hH : (st (i + 1)).H = nextH (st i).H y.eff := by rw [hs1]
    rw [evOp_congr (evO_eq heq)] at hy
    by_cases hpp : pu i o = true
    · obtain ⟨hkeep, hany⟩ := hpu i o ho hpp (evO_eq heq) hy
      refine evOp_sound (nm := 0) h.rep hspecs heqs htr (hany (st p).H 0) hask (fun so hso => by rw [hkeep] at hso; cases hso) K Q fun v w' ⟨E', le, hk, hx, hrep, hv, hE⟩ => ?_
      rw [hkeep] at hx hrep hv
      refine hK _ _ p E' (h.step hr ho hrd hτ h.le1 h.len p3 (fun j oj hoj hpj h1 => ⟨h.todo j oj hoj hpj h1, fun hc => ?_⟩) le hk hx hrep (hsv _ _ _ _ hv) fun j oj _ _ _ _ _ hn => ?_)
      · subst hc; rw [ho] at hoj; cases hoj; rw [hpp] at hpj; cases hpj
      · cases hc : E' (st j).H.length with
        | none => rfl
        | some e =>
          rcases hE _ (by rw [hc]; simp) with h1 | ⟨_, so, h1⟩
          · exact absurd hn h1
          · rw [hkeep] at h1; cases h1
    · have hpf : pu i o = false := by simpa using hpp
      by_cases hie : i < e1
      · -- the first part
        by_cases hload : ∃ T x, o.op = .load T x
        · obtain ⟨T, x, hop⟩ := hload
          have hkeep : y.eff = .keep := by
            unfold evOp at hy
            rw [hop] at hy
            simp only at hy
            split at hy
            · exact evLoad_eff hy
            · cases hy
          have hyp : evOp P specs eqs N (pick (st i).τ (o.looksAt ops)) (st p).H (st i).H.length o = some y := by
            have ex : evO N (st i).τ x = evO N (pick (st i).τ (o.looksAt ops)) x := evO_eq heq x (by rw [hop]; simp [Op.operands])
            unfold evOp at hy ⊢
            rw [hop] at hy ⊢
            simp only at hy ⊢
            split at hy
            case h_2 => cases hy
            rename_i ti hti
            rw [← ex] at hy ⊢
            exact lateE hpf hie hop hti hask hy
          refine evOp_sound h.rep hspecs heqs htr hyp hask (fun so hso => by rw [hkeep] at hso; cases hso) K Q fun v w' ⟨E', le, hk, hx, hrep, hv, hE⟩ => ?_
          rw [hkeep] at hx hrep hv
          refine hK _ _ p E' (h.step hr ho hrd hτ h.le1 h.len p3 (fun j oj hoj hpj h1 => ⟨h.todo j oj hoj hpj h1, fun hc => by have := h.le1; omega⟩) le hk hx hrep (hsv _ _ _ _ hv) fun j oj hoj hje hLj hji hne hn => ?_)
          cases hc : E' (st j).H.length with
          | none => rfl
          | some e =>
            rcases hE _ (by rw [hc]; simp) with h1 | ⟨h1, so, hso⟩
            · exact absurd hn h1
            · rw [hkeep] at hso; cases hso
        have hHp := first hpf (fun T x hc => hload ⟨T, x, hc⟩) hie
        obtain ⟨l1, hl1⟩ := heap_grows hr hst (e1 - i) i (by have := h.le1; have := h.len; omega) (by omega)
        rw [show i + (e1 - i) = e1 by omega] at hl1
        have hext : Ext (st i).H (st p).H := by rw [hHp, hl1]; exact Ext.app _ _
        have hnk := free_spec (hr.free i o hie ho) hy
        have hnosets : ∀ l, y.eff ≠ .sets l := fun l hc => by
          rcases hnk with h1 | ⟨so, h1⟩ <;> rw [h1] at hc <;> cases hc
        have happ : appE (st p).H y.eff = (st p).H := by
          rcases hnk with h1 | ⟨so, h1⟩ <;> rw [h1] <;> rfl
        have hfree : Free (st p).H E (st i).H.length y.eff := by
          intro so hso
          have hH' : (st (i + 1)).H = (st i).H ++ [so] := by rw [hH, hso]; rfl
          obtain ⟨l2, hl2⟩ := heap_grows hr hst (e1 - (i + 1)) (i + 1) (by have := h.le1; have := h.len; omega) (by omega)
          rw [show i + 1 + (e1 - (i + 1)) = e1 by omega, hH'] at hl2
          refine ⟨h.names i o ho hie hL (by rw [hH']; simp), by rw [hHp, hl2]; simp, ?_⟩
          rw [hHp, hl2, List.getD_eq_getElem?_getD, List.append_assoc, List.getElem?_append_right (Nat.le_refl _)]
          simp
        refine evOp_sound h.rep hspecs heqs htr (evOp_ext hspecs hext hnosets hy) hask hfree K Q fun v w' ⟨E', le, hk, hx, hrep, hv, hE⟩ => ?_
        rw [happ] at hx hrep hv
        refine hK _ _ p E' (h.step hr ho hrd hτ h.le1 h.len p3 (fun j oj hoj hpj h1 => ⟨h.todo j oj hoj hpj h1, fun hc => by have := h.le1; omega⟩) le hk hx hrep (hsv _ _ _ _ hv) fun j oj hoj hje hLj hji hne hn => ?_)
        cases hc : E' (st j).H.length with
        | none => rfl
        | some e =>
          rcases hE _ (by rw [hc]; simp) with h1 | ⟨h1, so, hso⟩
          · exact absurd hn h1
          · -- two names are never one
            exfalso
            have hH' : (st (i + 1)).H.length = (st i).H.length + 1 := by rw [hH, hso]; simp [nextH]
            have hlen : ∀ a b, a ≤ b → b ≤ e1 → (st a).H.length ≤ (st b).H.length := fun a b hab hb => by
              obtain ⟨l, hl⟩ := heap_grows hr hst (b - a) a (by have := h.le1; have := h.len; omega) (by omega)
              rw [show a + (b - a) = b by omega] at hl
              rw [hl]; simp
            rcases Nat.lt_or_gt_of_ne hji with hlt | hgt
            · have g1 := hlen (j + 1) i (by omega) (by omega)
              have g2 := hlen j (j + 1) (by omega) (by omega)
              omega
            · have g1 := hlen (i + 1) j (by omega) (by omega)
              omega
      · -- the second part
        have hie' : e1 ≤ i := Nat.not_lt.1 hie
        obtain ⟨hpi, hHp⟩ := second hpf hie'
        have hp3' : ∀ j oj, ops[j]? = some oj → pu j oj = false → e1 ≤ j → j < i + 1 → L j ∨ j = i := fun j oj hoj hpj h1 h2 => by
          by_cases hji : j = i
          · exact .inr hji
          · exact .inl (before2 j oj hoj hpj hpf (by omega) hie' h1)
        have hp4' : ∀ j oj, ops[j]? = some oj → pu j oj = false → i + 1 ≤ j → ¬ L j ∧ j ≠ i := fun j oj hoj hpj h1 => ⟨after2 j oj hoj hpj hpf (by omega) (by omega) hie', by omega⟩
        have noname : ∀ {E' : Env}, (∀ k, E' k ≠ none → E k ≠ none ∨ (k = (st i).H.length ∧ ∃ so, y.eff = .new so)) → ∀ j oj, ops[j]? = some oj → j < e1 → ¬ L j → j ≠ i → (st (j + 1)).H.length ≠ (st j).H.length → E (st j).H.length = none → E' (st j).H.length = none := by
          intro E' hE j oj hoj hje hLj hji hne hn
          -- what comes before a write is done
          exfalso
          have hpj : pu j oj = false := by
            cases hpj : pu j oj with
            | false => rfl
            | true =>
              exfalso
              have := heap_keep hpu hst 1 j (by have := (Array.getElem?_eq_some_iff.1 hoj).1; omega) fun m om h1 h2 hom => by
                obtain rfl : m = j := by omega
                rw [hoj] at hom; cases hom; exact hpj
              exact hne (by rw [this])
          rcases before j oj hoj hpj hpf (by omega) hie' with hb | hb
          · exact hLj hb
          · obtain ⟨T, x, hop⟩ := (laLt hoj ho hb).2
            refine hne ?_
            generalize hs1 : st (j + 1) = s1
            have hs := hst j oj hoj
            rw [hs1] at hs
            cases hs with
            | run hw hy hask hv hv2 hv3 hv4 =>
              rename_i y' v'
              have hkeep : y'.eff = .keep := by
                unfold evOp at hy
                rw [hop] at hy
                simp only at hy
                split at hy
                · exact evLoad_eff hy
                · cases hy
              rw [hkeep]
              rfl
            | skip => rfl
        rw [hHp] at htr
        have hrep0 := h.rep
        rw [hHp] at hrep0
        cases he : y.eff with
        | new so =>
          have hH' : (st (i + 1)).H = (st i).H ++ [so] := by rw [hH, he]; rfl
          have hn0 : E (st i).H.length = none := by
            cases hc : E (st i).H.length with
            | none => rfl
            | some e => have := hrep0.dom _ _ hc; omega
          have hget : ∀ k, k < (st i).H.length → ((st i).H ++ [so]).getD k .dead = (st i).H.getD k .dead := fun k hk => getD_append_left hk
          have hxo : Xo X0 E ((st i).H ++ [so]) = Xo X0 E (st i).H := Xo_ext fun k e hke => hget k (hrep0.dom k e hke)
          refine evOp_sound (hrep0.ext (by simp) hget) hspecs heqs (by rw [hxo]; exact htr) (evOp_ext hspecs (Ext.app _ _) (fun l hc => by rw [he] at hc; cases hc) hy) hask (fun so' hso => ?_) K Q fun v w' ⟨E', le, hk, hx, hrep, hv, hE⟩ => ?_
          · rw [he] at hso
            cases hso
            refine ⟨hn0, by simp, ?_⟩
            rw [List.getD_eq_getElem?_getD, List.getElem?_append_right (Nat.le_refl _)]
            simp
          · have happ : appE ((st i).H ++ [so]) y.eff = (st (i + 1)).H := by rw [he, hH']; rfl
            rw [happ] at hx hrep hv
            rw [hxo] at hk hx
            exact hK _ _ (i + 1) E' (h.step hr ho hrd hτ (by omega) (by omega) hp3' hp4' le (by rw [hHp]; exact hk) (by rw [hHp]; exact hx) hrep (hsv _ _ _ _ hv) (noname hE))
        | keep =>
          refine evOp_sound hrep0 hspecs heqs htr hy hask (fun so hso => by rw [he] at hso; cases hso) K Q fun v w' ⟨E', le, hk, hx, hrep, hv, hE⟩ => ?_
          have happ : appE (st i).H y.eff = (st (i + 1)).H := by rw [hH, he]; rfl
          rw [happ] at hx hrep hv
          exact hK _ _ (i + 1) E' (h.step hr ho hrd hτ (by omega) (by omega) hp3' hp4' le (by rw [hHp]; exact hk) (by rw [hHp]; exact hx) hrep (hsv _ _ _ _ hv) (noname hE))
        | sets l =>
          refine evOp_sound hrep0 hspecs heqs htr hy hask (fun so hso => by rw [he] at hso; cases hso) K Q fun v w' ⟨E', le, hk, hx, hrep, hv, hE⟩ => ?_
          have happ : appE (st i).H y.eff = (st (i + 1)).H := by rw [hH, he]; rfl
          rw [happ] at hx hrep hv
          exact hK _ _ (i + 1) E' (h.step hr ho hrd hτ (by omega) (by omega) hp3' hp4' le (by rw [hHp]; exact hk) (by rw [hHp]; exact hx) hrep (hsv _ _ _ _ hv) (noname hE))
end
end Go.Proofs.YtbmgclpgompjmaaDoor.Sx
