import Derived.Test.YtbkgncikjhibiaaSxz
/- Iterators: functions that call yield, walked in pieces. -/
namespace Go.Proofs.Ytbkgncikjhibiaa.Sx
open Go.RowKit
/-- The frame's temporaries as pure data. -/
def TI (N : Nat) (X : Nat → Prop) (τ : Tmps) (a : Act) (W : World) : Prop := a.tmps.size = N ∧ a.defers = [] ∧ ∀ t, t < N → R W X E0 (lookT τ t) (a.tmps.getD t undef)
/-- Blocks on which an iterator must not count. -/
def XB (n : Nat) (X B : Nat → Prop) (W : World) (b : Nat) : Prop := b < W.heap.size ∧ ¬ B b ∧ (n ≤ b ∨ X b)
/-- What an iterator's caller says between two rounds, and the iterator's own frame. -/
def SI (N n : Nat) (X : Nat → Prop) (J : Nat → (Nat → Prop) → World → Prop) (τ : Tmps) (i : Nat) (a : Act) (W : World) : Prop := ∃ B, J i B W ∧ TI N (XB n X B W) τ a W
/-- .. and when a round has ended the loop. -/
def JX (Jx : Nat → World → Prop) (i : Nat) (B : Nat → Prop) (W : World) : Prop := Jx i W ∧ ∀ b, B b → b < W.heap.size
def JClosed (J : Nat → (Nat → Prop) → World → Prop) : Prop := (∀ i B W W', J i B W → Below W.heap.size W W' → J i (fun b => B b ∨ (W.heap.size ≤ b ∧ b < W'.heap.size)) W') ∧ ∀ i B W, J i B W → ∀ b, B b → b < W.heap.size
theorem JX_closed {Jx : Nat → World → Prop} (h : ∀ i W W', Jx i W → Below W.heap.size W W' → Jx i W') : JClosed (JX Jx) :=
  ⟨fun i _ W W' hj hb => ⟨h i W W' hj.1 hb, fun b hbb => by
    rcases hbb with hbb | hbb
    · exact Nat.lt_of_lt_of_le (hj.2 b hbb) hb.size
    · exact hbb.2⟩, fun _ _ _ hj b hb => hj.2 b hb⟩
section
variable {P : Program} {specs : List FSpec} {eqs : List (TypeId × List CK)} {N n : Nat} {X : Nat → Prop} {J : Nat → (Nat → Prop) → World → Prop}
theorem SI.start {τ : Tmps} {i : Nat} {a : Act} {W : World} (h : SI N n X J τ i a W) : ∃ B, J i B W ∧ StR W ⟨XB n X B W, fun _ => False, E0, false⟩ N ⟨τ, []⟩ a W := by
  obtain ⟨B, hj, h1, h2, h3⟩ := h
  have hxo : Xo ⟨XB n X B W, fun _ => False, E0, false⟩ E0 [] = XB n X B W := by
    funext b
    apply propext
    exact ⟨fun hb => hb.elim id (fun ⟨k, e, he, _⟩ => (nomatch he)), fun hb => Or.inl hb⟩
  refine ⟨B, hj, E0, ⟨Bel.refl _ _, fun b hb => ⟨hb.1, id⟩, fun k e he => (nomatch he), fun k e he => (nomatch he), fun k e he => (nomatch he), fun k e b he => (nomatch he), fun k k' e e' b he => (nomatch he)⟩, h1, by rw [h2]; exact DefOK.nil _ _ _, fun t ht => ?_⟩
  rw [hxo]
  exact h3 t ht
/-! A region of which a first part is walked apart. -/
/-- Every operation from q on comes behind all those before it. -/
def splitB (ops : Array Oper) (q : Nat) : Bool := (List.range ops.size).all fun j => Nat.blt j q || (List.range j).all fun i => ((befs ops.toList []).getD j 0).testBit i
theorem splitB_spec {ops : Array Oper} {q : Nat} (h : splitB ops q = true) : ∀ i j, j < ops.size → q ≤ j → i < j → Anc ops i j := by
  intro i j hj hq hi
  have h1 := all_range h hj
  rw [Bool.or_eq_true] at h1
  rcases h1 with h1 | h1
  · have := Nat.le_of_ble_eq_true h1; omega
  · exact befs_spec ops.toList [] (fun k => by simp) (fun k i hk => absurd hk (Nat.not_lt_zero _)) j i (all_range h1 hi)
/-- Nothing looks ahead. -/
def backB (ops : Array Oper) : Bool := (List.range ops.size).all fun j => match ops[j]? with
  | some o => o.after.toList.all fun e => !Region.binds .any e || Nat.blt e.on j
  | none => true
theorem backB_spec {ops : Array Oper} (h : backB ops = true) {j : Nat} {o : Oper} (ho : ops[j]? = some o) : ∀ e ∈ o.after, Region.binds .any e = true → e.on < j := by
  intro e he hb
  have h1 := all_range h (Array.getElem?_eq_some_iff.1 ho).1
  rw [ho] at h1
  simp only [List.all_eq_true] at h1
  have h2 := h1 e (by simpa using he)
  rw [hb] at h2
  simp only [Bool.not_true, Bool.false_or] at h2
  exact Nat.le_of_ble_eq_true h2
theorem ready_congr {ops : Array Oper} {l l' : Array Bool} (h : ∀ j, j < ops.size → l.getD j true = l'.getD j true ∧ l.getD j false = l'.getD j false) (hback : backB ops = true) : Region.ready .any ops l = Region.ready .any ops l' := by
  unfold Region.ready
  refine List.filter_congr fun j hj => ?_
  have hlt := List.mem_range.1 hj
  rw [(h j hlt).1]
  cases ho : ops[j]? with
  | none => rfl
  | some o =>
    congr 1
    simp only [Option.map_some, Option.getD_some]
    rw [Bool.eq_iff_iff, Array.all_eq_true_iff_forall_mem, Array.all_eq_true_iff_forall_mem]
    have key : ∀ e ∈ o.after, Region.binds .any e = true → l.getD e.on false = l'.getD e.on false := fun e he hb => (h e.on (by have := backB_spec hback ho e he hb; omega)).2
    constructor
    · intro hh e he
      have := hh e he
      cases hb : Region.binds .any e with
      | false => simp
      | true => rw [hb] at this; simp only [Bool.not_true, Bool.false_or] at this ⊢; rw [← key e he hb]; exact this
    · intro hh e he
      have := hh e he
      cases hb : Region.binds .any e with
      | false => simp
      | true => rw [hb] at this; simp only [Bool.not_true, Bool.false_or] at this ⊢; rw [key e he hb]; exact this
/-- The first p operations are listed. -/
def Upto (ops : Array Oper) (p : Nat) (l : Array Bool) : Prop := l.size = ops.size ∧ ∀ j, j < ops.size → (l.getD j false = true ↔ j < p)
theorem getD_tf {l : Array Bool} {j : Nat} (h : j < l.size) : l.getD j true = l.getD j false := by simp [Array.getD, h]
/-- The rest of a region, where the order is the text's. -/
theorem any_tail {ops : Array Oper} {q : Nat} (hsp : ∀ i j, j < ops.size → q ≤ j → i < j → Anc ops i j) (hback : backB ops = true) {F : Fence} {nn : Nat} {Q : Exit → Act → World → Prop} :
    ∀ (k p fuel : Nat) (l : Array Bool) (a : Act) (w : World), q ≤ p → p + k = ops.size → k ≤ fuel → Upto ops p l → wpListIn F nn P ops Q (ops.toList.drop p) a w → wpAnyIn F nn P .any ops Q fuel l a w
  | 0, p, fuel, l, a, w, hq, hp, hf, hu, h => by
    have hrd : Region.ready .any ops l = [] := by
      rw [List.eq_nil_iff_forall_not_mem]
      intro j hj
      obtain ⟨h1, o, ho, _⟩ := mem_ready.1 hj
      have hlt := (Array.getElem?_eq_some_iff.1 ho).1
      rw [getD_tf (by rw [hu.1]; exact hlt), (hu.2 j hlt).2 (by omega)] at h1
      cases h1
    rw [List.drop_of_length_le (by rw [Array.length_toList]; omega)] at h
    cases fuel with
    | zero => exact ⟨hrd, h⟩
    | succ fuel => exact ⟨fun _ => h, fun i hi => by rw [hrd] at hi; cases hi⟩
  | k + 1, p, fuel, l, a, w, hq, hp, hf, hu, h => by
    obtain ⟨fuel, rfl⟩ : ∃ f, fuel = f + 1 := ⟨fuel - 1, by omega⟩
    have hpl : p < ops.size := by omega
    have hop : ops[p]? = some ops[p] := Array.getElem?_eq_getElem hpl
    have hrd : p ∈ Region.ready .any ops l := mem_ready.2 ⟨by rw [getD_tf (by rw [hu.1]; exact hpl)]; exact Bool.eq_false_iff.2 fun hc => absurd ((hu.2 p hpl).1 hc) (Nat.lt_irrefl _), _, hop, fun e he hb => (hu.2 e.on (by have := backB_spec hback hop e he hb; omega)).2 (backB_spec hback hop e he hb)⟩
    refine ⟨fun hc => (by rw [hc] at hrd; cases hrd), fun i hi => ?_⟩
    obtain ⟨h1, o, ho, hrdy⟩ := mem_ready.1 hi
    have hil := (Array.getElem?_eq_some_iff.1 ho).1
    have hpi : p ≤ i := by
      refine Nat.not_lt.1 fun hc => ?_
      rw [getD_tf (by rw [hu.1]; exact hil), (hu.2 i hil).2 hc] at h1
      cases h1
    obtain rfl : i = p := by
      refine Nat.le_antisymm (Nat.not_lt.1 fun hc => ?_) hpi
      have hcl : Closed ops (fun j => l.getD j false = true) := fun j oj hj hoj e he hb => by
        have h5 := backB_spec hback hoj e he hb
        have h6 := (Array.getElem?_eq_some_iff.1 hoj).1
        exact (hu.2 e.on (by omega)).2 (by have := (hu.2 j h6).1 hj; omega)
      have := (hsp p i hil (by omega) hc).listed hcl fun o' ho' => by rw [ho] at ho'; cases ho'; exact hrdy
      exact absurd ((hu.2 p hpl).1 this) (Nat.lt_irrefl _)
    have hdrop : ops.toList.drop i = ops[i] :: ops.toList.drop (i + 1) := by
      rw [List.drop_eq_getElem_cons (by rw [Array.length_toList]; exact hpl), Array.getElem_toList]
    rw [hdrop] at h
    have hu' : Upto ops (i + 1) (l.setIfInBounds i true) := by
      refine ⟨by rw [Array.size_setIfInBounds]; exact hu.1, fun j hj => ?_⟩
      have := LB_set (listed := l) (i := i) (by rw [hu.1]; exact hpl) j
      unfold LB at this
      rw [this, hu.2 j hj]
      omega
    unfold wpOpIn
    rw [hop]
    simp only [wpListIn] at h ⊢
    split
    · rename_i hw
      rw [if_pos hw] at h
      exact Oper.wpIn_mono (fun a w hh => any_tail hsp hback k (i + 1) fuel _ a w (by omega) (by omega) (by omega) hu' hh) h
    · rename_i hw
      rw [if_neg hw] at h
      exact ⟨h.1, any_tail hsp hback k (i + 1) fuel _ _ w (by omega) (by omega) (by omega) hu' h.2⟩
theorem wpIn_then {F : Fence} {nn : Nat} {o : Oper} {a : Act} {w : World} {next K1 : Act → World → Prop} {Q : Exit → Act → World → Prop} (h : o.wpIn F nn P a w next (Exit.then K1 Q)) : o.wpIn F nn P a w next Q := by
  unfold Oper.wpIn at *
  refine ⟨h.1, ?_⟩
  have h := h.2
  generalize (o.semAt F.round a.eval).run P w = r at *
  cases r with
  | ok x w' =>
    cases x <;> simp only [Oper.uponIn] at h ⊢ <;>
      first
        | exact h
        | exact ⟨h.1, CallsIn.mono h.2 (fun e w'' he => by cases e <;> exact he)⟩
        | exact ⟨h.1, RoundIn.mono h.2 (fun e w'' he => by cases e <;> exact he)⟩
  | halt x w' => cases x <;> simp only [Oper.uponIn] at h ⊢ <;> exact h
/-- A region's first part, then the rest. -/
theorem any_app {ops : Array Oper} {q : Nat} (hqs : q ≤ ops.size) (hsp : ∀ i j, j < ops.size → q ≤ j → i < j → Anc ops i j) (hback : backB ops = true) {F : Fence} {nn : Nat} {Q : Exit → Act → World → Prop} {K1 : Act → World → Prop}
    (hg : ∀ i o, i < q → ops[i]? = some o → ∀ g wt, o.guard = some (g, wt) → g < q)
    (hQ : ∀ a w, K1 a w → wpListIn F nn P ops Q (ops.toList.drop q) a w) :
    ∀ (f1 : Nat) (l1 l : Array Bool) (a : Act) (w : World), l1.size = q → l.size = ops.size → (∀ j, j < q → l.getD j false = l1.getD j false) → (∀ j, q ≤ j → l.getD j false = false) →
      Closed ops (fun j => l.getD j false = true) →
      wpAnyIn F nn P .any (ops.extract 0 q) (Exit.then K1 Q) f1 l1 a w → wpAnyIn F nn P .any ops Q (f1 + (ops.size - q)) l a w := by
  have hsz : (ops.extract 0 q).size = q := by rw [Array.size_extract]; omega
  have hget : ∀ i, i < q → (ops.extract 0 q)[i]? = ops[i]? := fun i hi => by
    rw [Array.getElem?_extract]
    simp only [Nat.zero_add]
    rw [if_pos (by omega)]
  have hy : ∀ {i o a}, i < q → ops[i]? = some o → Region.wanted o (yielded (ops.extract 0 q) a.tmps) = Region.wanted o (yielded ops (Act.tmps a)) := fun {i o a} hi ho => by
    unfold Region.wanted
    cases hgd : o.guard with
    | none => rfl
    | some gw =>
      obtain ⟨g, wt⟩ := gw
      have := hg i o hi ho g wt hgd
      simp only [yielded, hget g this]
  have fin : ∀ (f1 : Nat) (l1 l : Array Bool) (a : Act) (w : World), l1.size = q → l.size = ops.size → (∀ j, j < q → l.getD j false = l1.getD j false) → (∀ j, q ≤ j → l.getD j false = false) → (∀ j, j < q → l1.getD j false = true) → K1 a w → wpAnyIn F nn P .any ops Q (f1 + (ops.size - q)) l a w :=
    fun f1 l1 l a w h1 h2 h3 h4 h5 hq => any_tail hsp hback (ops.size - q) q _ l a w (Nat.le_refl _) (by omega) (by omega) ⟨h2, fun j hj => ⟨fun hc => Classical.byContradiction fun hn => (by rw [h4 j (by omega)] at hc; cases hc), fun hc => by rw [h3 j hc]; exact h5 j hc⟩⟩ (hQ a w hq)
  -- what is ready among all is ready among the first
  have rdy : ∀ (l1 l : Array Bool), l1.size = q → l.size = ops.size → (∀ j, j < q → l.getD j false = l1.getD j false) → (∀ j, q ≤ j → l.getD j false = false) → Closed ops (fun j => l.getD j false = true) →
      (∃ j, j < q ∧ l1.getD j false = false) → ∀ i, i ∈ Region.ready .any ops l ↔ i ∈ Region.ready .any (ops.extract 0 q) l1 := by
    intro l1 l h1 h2 h3 h4 hc ⟨j0, hj0, hj1⟩ i
    rw [mem_ready, mem_ready]
    constructor
    · rintro ⟨g1, o, ho, g2⟩
      have hil := (Array.getElem?_eq_some_iff.1 ho).1
      have hiq : i < q := by
        refine Classical.byContradiction fun hn => ?_
        have := (hsp j0 i hil (by omega) (by omega)).listed hc fun o' ho' => by rw [ho] at ho'; cases ho'; exact g2
        rw [h3 j0 hj0, hj1] at this
        cases this
      refine ⟨?_, o, by rw [hget i hiq]; exact ho, fun e he hb => ?_⟩
      · rw [getD_tf (by omega)] at g1 ⊢
        rw [← h3 i hiq]; exact g1
      · have := backB_spec hback ho e he hb
        rw [← h3 e.on (by omega)]; exact g2 e he hb
    · rintro ⟨g1, o, ho, g2⟩
      have hiq : i < q := by have := (Array.getElem?_eq_some_iff.1 ho).1; omega
      rw [hget i hiq] at ho
      refine ⟨?_, o, ho, fun e he hb => ?_⟩
      · rw [getD_tf (by omega)] at g1 ⊢
        rw [h3 i hiq]; exact g1
      · have := backB_spec hback ho e he hb
        rw [h3 e.on (by omega)]; exact g2 e he hb
  have allOrNot : ∀ (l1 : Array Bool), l1.size = q → (∀ j, j < q → l1.getD j false = true) ∨ ∃ j, j < q ∧ l1.getD j false = false := fun l1 h1 => by
    by_cases hh : ∃ j, j < q ∧ l1.getD j false = false
    · exact .inr hh
    · refine .inl fun j hj => ?_
      cases hc : l1.getD j false with
      | true => rfl
      | false => exact absurd ⟨j, hj, hc⟩ hh
  -- if nothing is ready all is listed
  have none_all : ∀ (l1 : Array Bool), l1.size = q → Region.ready .any (ops.extract 0 q) l1 = [] → ∀ j, j < q → l1.getD j false = true := by
    intro l1 h1 hrd j
    induction j using Nat.strongRecOn with
    | _ j ih =>
      intro hj
      refine Classical.byContradiction fun hcc => ?_
      have ho : (ops.extract 0 q)[j]? = some ops[j] := by rw [hget j hj]; exact Array.getElem?_eq_getElem (by omega)
      have : j ∈ Region.ready .any (ops.extract 0 q) l1 := mem_ready.2 ⟨by rw [getD_tf (by omega)]; simpa using hcc, _, ho, fun e he hb => ?_⟩
      · rw [hrd] at this; cases this
      · have := backB_spec hback (show ops[j]? = some ops[j] from Array.getElem?_eq_getElem (by omega)) e he hb
        exact ih e.on this (by omega)
  intro f1
  induction f1 with
  | zero =>
    intro l1 l a w h1 h2 h3 h4 hc h
    exact fin 0 l1 l a w h1 h2 h3 h4 (none_all l1 h1 h.1) h.2
  | succ f1 ih =>
    intro l1 l a w h1 h2 h3 h4 hc h
    rcases allOrNot l1 h1 with hall | hnot
    · have hrd : Region.ready .any (ops.extract 0 q) l1 = [] := by
        rw [List.eq_nil_iff_forall_not_mem]
        intro j hj
        obtain ⟨g1, o, ho, _⟩ := mem_ready.1 hj
        have hlt : j < q := by have := (Array.getElem?_eq_some_iff.1 ho).1; omega
        rw [getD_tf (by omega), hall j hlt] at g1
        cases g1
      exact fin (f1 + 1) l1 l a w h1 h2 h3 h4 hall (h.1 hrd)
    · have hr := rdy l1 l h1 h2 h3 h4 hc hnot
      rw [show f1 + 1 + (ops.size - q) = (f1 + (ops.size - q)) + 1 by omega]
      refine ⟨fun hcc => ?_, fun i hi => ?_⟩
      · have h0 : Region.ready .any (ops.extract 0 q) l1 = [] := by
          rw [List.eq_nil_iff_forall_not_mem]
          intro j hj
          rw [← hr j, hcc] at hj
          cases hj
        obtain ⟨j, hj, hj2⟩ := hnot
        rw [none_all l1 h1 h0 j hj] at hj2
        cases hj2
      · have hi1 := (hr i).1 hi
        have hop := h.2 i hi1
        obtain ⟨g1, o, ho, g2⟩ := mem_ready.1 hi1
        have hiq : i < q := by have := (Array.getElem?_eq_some_iff.1 ho).1; omega
        have ho' : ops[i]? = some o := by rw [← hget i hiq]; exact ho
        unfold wpOpIn at hop ⊢
        rw [ho] at hop
        rw [ho']
        simp only at hop ⊢
        rw [hy hiq ho'] at hop
        have hl1 : i < l1.size := by omega
        have hl : i < l.size := by omega
        have s1 : ∀ j, (l1.setIfInBounds i true).getD j false = true ↔ (l1.getD j false = true ∨ j = i) := fun j => LB_set (listed := l1) hl1 j
        have s2 : ∀ j, (l.setIfInBounds i true).getD j false = true ↔ (l.getD j false = true ∨ j = i) := fun j => LB_set (listed := l) hl j
        have next : ∀ a w, wpAnyIn F nn P .any (ops.extract 0 q) (Exit.then K1 Q) f1 (l1.setIfInBounds i true) a w → wpAnyIn F nn P .any ops Q (f1 + (ops.size - q)) (l.setIfInBounds i true) a w := fun a w hh => by
          refine ih _ _ a w (by rw [Array.size_setIfInBounds]; exact h1) (by rw [Array.size_setIfInBounds]; exact h2) (fun j hj => ?_) (fun j hj => ?_) (fun j oj hj hoj e he hb => ?_) hh
          · rw [Bool.eq_iff_iff, s1, s2, h3 j hj]
          · rw [Bool.eq_false_iff]
            intro hcc
            rcases (s2 j).1 hcc with hcc | hcc
            · rw [h4 j hj] at hcc; cases hcc
            · omega
          · have hj' := (s2 j).1 hj
            refine (s2 e.on).2 ?_
            rcases hj' with hj' | hj'
            · exact .inl (hc j oj hj' hoj e he hb)
            · subst hj'
              rw [ho'] at hoj
              cases hoj
              have hbk := backB_spec hback ho' e he hb
              exact .inl (by rw [h3 e.on (by omega)]; exact g2 e he hb)
        split
        · rename_i hw
          rw [if_pos hw] at hop
          exact Oper.wpIn_mono next (wpIn_then hop)
        · rename_i hw
          rw [if_neg hw] at hop
          exact ⟨hop.1, next _ _ hop.2⟩
theorem any_of_tr {w0 : World} {X0 : Fr} (hspecs : ∀ s ∈ specs, SpecOK P s) (heqs : ∀ t n, (t, n) ∈ eqs → EqOK P t n) {ops : Array Oper} {F : Fence} {nn : Nat} (hF : Wd F) {Q : Exit → Act → World → Prop} {s s' : St} (ht : Tr P specs eqs N ops ops.toList s s') (hd : regB P (effS specs) s.H.length N s.τ s'.τ ops = true)
    (hQ : ∀ a w, StR w0 X0 N s' a w → Q .normal a w) {a : Act} {w : World} (h : StR w0 X0 N s a w) : wpAnyIn F nn P .any ops Q ops.size (Array.replicate ops.size false) a { w with drawn := w.drawn + 1 } := by
  have hr := regB_spec hd
  obtain ⟨st, h0, h1, h2⟩ := ht.states
  rw [Array.length_toList] at h1
  rw [← h0, ← h1] at hr
  have hst : ∀ i o, ops[i]? = some o → Step P specs eqs N ops o (st i) (st (i + 1)) := fun i o ho => h2 i o (by rw [Array.getElem?_toList]; exact ho)
  have hdr : StR w0 X0 N (st 0) a { w with drawn := w.drawn + 1 } := by
    rw [h0]
    obtain ⟨E, hrep, htr⟩ := h
    have hb : Below w.heap.size w w.drew := (Below.refl _ _).drew
    exact ⟨E, hrep.world hb, htr.mono (Rep.keeps hb) (Within.refl _ _) (Env.le_refl _)⟩
  have hnone : ∀ i, ¬ LB (Array.replicate ops.size false) i := fun i hi => by
    unfold LB at hi
    rw [Array.getD_eq_getD_getElem?, Array.getElem?_replicate] at hi
    split at hi <;> simp at hi
  obtain ⟨E, hmid⟩ := mid_start hr (by have := List.findIdx_le_length (p := isEff (effS specs)) (xs := ops.toList); simpa using this) hst hnone hdr
  refine any_sound (pu_ok hr hst) hspecs heqs (ap_ok hst) hr hst hF (by rw [h1]; exact hQ) ops.size _ a _ _ E (by simp) ?_ hmid
  unfold unlisted
  have := List.length_filter_le (fun i => !(Array.replicate ops.size false).getD i true) (List.range (Array.replicate ops.size false).size)
  simpa using this
def guardsB (ops : Array Oper) (q : Nat) : Bool := (List.range q).all fun i => match ops[i]? with
  | some o => match o.guard with
    | some gw => Nat.blt gw.1 q
    | none => true
  | none => true
/-- What is asked of a region's first q operations. -/
def vcY (P : Program) (specs : List FSpec) (eqs : List (TypeId × List CK)) (N : Nat) (ops : Array Oper) (d : Bool) (q : Nat) (K : St → Prop) (s : St) : Prop := match d with
  | true => vcOps P specs eqs N (ops.extract 0 q) (ops.extract 0 q).toList 0 (fun s' => match (regB P (effS specs) s.H.length N s.τ s'.τ (ops.extract 0 q) && Nat.ble q ops.size) && (splitB ops q && (backB ops && guardsB ops q)) with
    | true => K s'
    | false => False) s
  | false => vcOps P specs eqs N ops (ops.toList.take q) 0 K s
theorem piece_region' (hspecs : ∀ s ∈ specs, SpecOK P s) (heqs : ∀ t n, (t, n) ∈ eqs → EqOK P t n) (hm : P.follows .mixedOrders = true) {ops : Array Oper} {id : Nat} {d : Bool} {q : Nat} {K : St → Prop} {τ : Tmps} {nn : Nat} {a : Act} {W : World} {Q : Exit → Act → World → Prop}
    (h : vcY P specs eqs N ops d q K ⟨τ, []⟩) {X0 : Fr} {w0 : World} (hst : StR w0 X0 N ⟨τ, []⟩ a W) (hQ : ∀ s' a' W', K s' → StR w0 X0 N s' a' W' → wpListIn Fence.wide nn P ops Q (ops.toList.drop q) a' W') : (Code.region id ops d).wpIn Fence.wide nn P Q a W := by
  cases d with
  | false =>
    simp only [vcY] at h
    obtain ⟨s', ht, hk⟩ := vcOps_tr h
    have := tr_app hspecs heqs Wd.wide (nn := nn) (Q := Q) (l2 := ops.toList.drop q) ht (fun a' W' hs' => hQ s' a' W' hk hs') a W hst
    rw [List.take_append_drop] at this
    exact wpIn_region_list this
  | true =>
    simp only [vcY] at h
    obtain ⟨s', ht, hk⟩ := vcOps_tr h
    split at hk
    case h_2 => exact hk.elim
    rename_i hb
    simp only [Bool.and_eq_true] at hb
    obtain ⟨⟨hreg, hqs⟩, hsp, hbk, hgd⟩ := hb
    have hqs := Nat.le_of_ble_eq_true hqs
    have hsz : (ops.extract 0 q).size = q := by rw [Array.size_extract]; omega
    have h1 := any_of_tr hspecs heqs Wd.wide (nn := nn) (Q := Exit.then (fun a' W' => wpListIn Fence.wide nn P ops Q (ops.toList.drop q) a' W') Q) ht hreg (fun a' W' hs' => hQ s' a' W' hk hs') hst
    rw [hsz] at h1
    have h2 := any_app (P := P) hqs (splitB_spec hsp) hbk (F := Fence.wide) (nn := nn) (Q := Q) (fun i o hi ho g wt hg => by
        have h3 := all_range hgd hi
        rw [ho] at h3
        simp only [hg] at h3
        exact Nat.le_of_ble_eq_true h3) (fun _ _ h => h) q (Array.replicate q false) (Array.replicate ops.size false) a _ (by simp) (by simp) (fun j hj => by
        rw [Array.getD_eq_getD_getElem?, Array.getD_eq_getD_getElem?, Array.getElem?_replicate, Array.getElem?_replicate, if_pos hj, if_pos (by omega)]) (fun j hj => by
        rw [Array.getD_eq_getD_getElem?, Array.getElem?_replicate]; split <;> rfl) (fun j oj hj => by
        simp only at hj
        rw [Array.getD_eq_getD_getElem?, Array.getElem?_replicate] at hj
        split at hj <;> simp at hj) h1
    rw [show q + (ops.size - q) = ops.size by omega] at h2
    exact wpIn_region_any hm h2
theorem TI.eval {τ : Tmps} {a : Act} {W : World} {X' : Nat → Prop} (h : TI N X' τ a W) (x : Operand) : R W X' E0 (evO N τ x) (a.eval x) :=
  evO_sound (n0 := none) (w := W) (X := X') (E := E0) (N := N) (τ := τ) (a := a) ⟨h.1, by rw [h.2.1]; exact DefOK.nil _ _ _, h.2.2⟩ x
def argsLe : List SV → List SV → Prop
  | [], [] => True
  | s :: l, t :: r => SVle [] [] s t ∧ argsLe l r
  | _, _ => False
theorem argsLe_get : ∀ {l r : List SV}, argsLe l r → l.length = r.length ∧ ∀ i, i < r.length → SVle [] [] (l.getD i .any) (r.getD i .any)
  | [], [], _ => ⟨rfl, fun i hi => absurd hi (Nat.not_lt_zero _)⟩
  | [], _ :: _, h => h.elim
  | _ :: _, [], h => h.elim
  | s :: l, t :: r, h => by
    obtain ⟨h3, h4⟩ := argsLe_get h.2
    refine ⟨by simp [h3], fun i hi => ?_⟩
    cases i with
    | zero => exact h.1
    | succ i => exact h4 i (by simpa using hi)
/-- A call of yield. -/
theorem yield_op {w : World} {Jx : Nat → World → Prop} {ops : Array Oper} {rest : List Oper} {o : Oper} {c : Call} {y : Tmp} {cs : List SV} {lp i nn : Nat} {τ : Tmps} {a : Act} {W : World} {Q : Exit → Act → World → Prop}
    (ho : o.op = .call c) (hc : c.callee = .value (.tmp y)) (hgd : o.guard = none) (hyN : y < N) (hy : lookT τ y = .con (.func (.yield lp) #[] #[])) (hargs : argsLe (mapArgs N τ c.args) cs)
    (hK : ∀ i B W, J i B W → (w.heap.size ≤ W.heap.size ∧ ∀ b, b < w.heap.size → ¬ X b → W.heap[b]? = w.heap[b]?) ∧ ∀ b, B b → b < W.heap.size)
    (hY : ∀ B W args, J i B W → ArgsR W (fun b => ¬ B b ∧ (w.heap.size ≤ b ∨ X b)) E0 cs args →
        YieldAt Fence.wide 0 P lp args W fun e W' => (e = .returned (.bool true) ∧ J (i + 1) B W' ∧ ∀ b, B b → W'.heap[b]? = W.heap[b]?) ∨ (e = .returned (.bool false) ∧ Jx i W'))
    (hs : SI N w.heap.size X J τ i a W)
    (ht : ∀ a' W', SI N w.heap.size X J (putT o.dst (.lit true) τ) (i + 1) a' W' → wpListIn Fence.wide nn P ops Q rest a' W')
    (hf : ∀ a' W', SI N w.heap.size X (JX Jx) (putT o.dst (.lit false) []) i a' W' → wpListIn Fence.wide nn P ops Q rest a' W') : wpListIn Fence.wide nn P ops Q (o :: rest) a W := by
  obtain ⟨B, hj, hti⟩ := hs
  have hval : a.eval (.tmp y) = .func (.yield lp) #[] #[] := by
    have := hti.2.2 y hyN
    rw [hy] at this
    show a.tmps.getD y undef = _
    generalize a.tmps.getD y undef = v at this
    cases this
    rfl
  obtain ⟨k1, k2⟩ := argsLe_get hargs
  have har : ArgsR W (fun b => ¬ B b ∧ (w.heap.size ≤ b ∨ X b)) E0 cs (c.args.map a.eval) := by
    refine ⟨by rw [Array.size_map, ← k1, mapArgs, List.length_map, Array.length_toList], fun j hj' => ?_⟩
    have hjs : j < c.args.size := by rw [← k1, mapArgs, List.length_map, Array.length_toList] at hj'; exact hj'
    have h1 := hti.eval (c.args[j])
    have e1 : (c.args.map a.eval).getD j undef = a.eval c.args[j] := by
      rw [Array.getD_eq_getD_getElem?, Array.getElem?_map, Array.getElem?_eq_getElem hjs]; rfl
    have e2 : (mapArgs N τ c.args).getD j .any = evO N τ c.args[j] := by
      rw [mapArgs, List.getD_eq_getElem?_getD, List.getElem?_map, Array.getElem?_toList, Array.getElem?_eq_getElem hjs]; rfl
    have h2 := k2 j hj'
    rw [e2] at h2
    rw [e1]
    have := SVle_sound (X := XB w.heap.size X B W) (X' := XB w.heap.size X B W) (fun _ h => h) (E := E0) (fun k ver v us h => by cases h) h2 h1
    rw [E0_cut] at this
    exact this.mono (fun _ _ _ => rfl) (fun b hlt hb => ⟨hlt, hb⟩) (Env.le_refl _)
  obtain ⟨fn, tmps, assign, body, hrun, hround⟩ := hY B W _ hj har
  simp only [wpListIn]
  have hw : Region.wanted o (yielded ops a.tmps) = true := by simp [Region.wanted, hgd]
  rw [if_pos hw]
  refine ⟨fun _ _ => trivial, ?_⟩
  have hexec : (execOp a.eval o).run P W = .ok (.round lp fn tmps assign body) W := by
    simp only [execOp, ho, resolve, hc, hval, Deferred.ofValue, Sem.run_bind, Sem.run_pure, Result.andThen_ok, invoke]
    first
      | exact hrun
      | (simp only [Array.empty_append]; exact hrun)
  rw [show Fence.wide.round = none from rfl, Oper.semAt_none, hexec, Oper.uponIn_round]
  refine ⟨fun hd => (nomatch hd), RoundIn.mono (n := nn - 1) ⟨hround.1, fun c cs _ => hround.2 c cs (fun d hd => (nomatch hd))⟩ fun e W' he => ?_⟩
  have putR : ∀ {X' : Nat → Prop} {τ' : Tmps} {b : Bool}, (∀ t, t < N → R W' X' E0 (lookT τ' t) (a.tmps.getD t undef)) → TI N X' (putT o.dst (.lit b) τ') (a.put o.dst (.bool b)) W' := fun {X' τ' b} hr => by
    have h1 : TR none W' X' E0 N τ' a := ⟨hti.1, by rw [hti.2.1]; exact DefOK.nil _ _ _, hr⟩
    have h2 := h1.put (dst := o.dst) (R.lit (w := W') (X := X') (E := E0) (b := b))
    exact ⟨h2.1, h2.2.1.1 rfl, h2.2.2⟩
  rcases he with ⟨rfl, hj2, hB⟩ | ⟨rfl, hjx⟩
  · refine ht _ _ ⟨B, hj2, putR fun t ht' => ?_⟩
    refine (hti.2.2 t ht').mono (fun b hlt hx => ?_) (fun b hlt hb => ⟨hlt, hb.2⟩) (Env.le_refl _)
    by_cases hBb : B b
    · exact hB b hBb
    · have h3 : b < w.heap.size ∧ ¬ X b := by
        refine Classical.byContradiction fun hc => hx ⟨hlt, hBb, ?_⟩
        by_cases hbw : w.heap.size ≤ b
        · exact .inl hbw
        · exact .inr (Classical.byContradiction fun hn => hc ⟨by omega, hn⟩)
      exact (((hK _ _ _ hj2).1.2 b h3.1 h3.2)).trans ((hK _ _ _ hj).1.2 b h3.1 h3.2).symm
  · refine hf _ _ ⟨fun _ => False, ⟨hjx, fun b hb => hb.elim⟩, putR fun t ht' => by simp only [lookT]; exact .any⟩
end
/-! What is asked of an iterator's code. -/
def purT : Tmps → Tmps
  | [] => []
  | (t, s) :: r => match isPure 6 s with
    | true => (t, s) :: purT r
    | false => (t, .any) :: purT r
theorem lookT_pur : ∀ (τ : Tmps) (t : Nat), lookT (purT τ) t = if isPure 6 (lookT τ t) = true then lookT τ t else .any
  | [], t => by simp only [purT, lookT]; exact (ite_self _).symm
  | (u, s) :: r, t => by
    simp only [purT]
    split <;> rename_i hp <;> simp only [lookT] <;> split
    · first | (rw [if_pos hp]) | rfl
    · exact lookT_pur r t
    · first | (rw [if_neg (by rw [hp]; simp)]) | rfl
    · exact lookT_pur r t
abbrev KY := SExit → Tmps → Nat → Bool → Prop
/-- A loop in which yield is called: its temporaries, how many rounds have been. -/
structure YLoop : Type 1 where
  γ : Type
  pre : γ → Prop
  τ : γ → Tmps
  idx : γ → Nat
  meas : γ → Nat
  ann : γ → Ann := fun _ => A0
  tag : γ → Nat := fun _ => 0
structure YAnn : Type 1 where
  loops : List (Nat × (Nat → YLoop))
  ys : List (Nat × Nat)
def findYL : List (Nat × (Nat → YLoop)) → Nat → Option (Nat → YLoop)
  | [], _ => none
  | (k, x) :: r, i => if k = i then some x else findYL r i
def findQ : List (Nat × Nat) → Nat → Option Nat
  | [], _ => none
  | (k, x) :: r, i => match Nat.beq k i with
    | true => some x
    | false => findQ r i
def hasY (ys : List (Nat × Nat)) : Code → Bool
  | .region id _ _ => (findQ ys id).isSome
  | .seq a b => hasY ys a || hasY ys b
  | .cond _ a b => hasY ys a || hasY ys b
  | .block _ c => hasY ys c
  | .loop c => hasY ys c
  | _ => false
/-- The operation that calls yield, and what comes behind. -/
def vcYop (P : Program) (specs : List FSpec) (eqs : List (TypeId × List CK)) (N : Nat) (its : Nat → List SV) (cnt : Nat) (Y : Value) (ops : Array Oper) (q : Nat) (K : Tmps → Nat → Bool → Prop) (i : Nat) (τ : Tmps) : Prop :=
  match ops[q]? with
  | some o => match o.guard with
    | some _ => False
    | none => match o.op with
      | .call c => match c.callee with
        | .value x => match x with
          | .tmp y => match Nat.blt y N with
            | true => match lookT τ y with
              | .con v => Ask (v = Y) ∧ Ask (i < cnt) ∧ argsLe (mapArgs N τ c.args) (its i) ∧
                vcOps P specs eqs N ops (ops.toList.drop (q + 1)) 0 (fun s => K (purT s.τ) (i + 1) false) ⟨putT o.dst (.lit true) τ, []⟩ ∧
                vcOps P specs eqs N ops (ops.toList.drop (q + 1)) 0 (fun s => K (purT s.τ) i true) ⟨putT o.dst (.lit false) [], []⟩
              | _ => False
            | false => False
          | _ => False
        | _ => False
      | _ => False
  | none => False
def vcI (P : Program) (specs : List FSpec) (eqs : List (TypeId × List CK)) (N : Nat) (its : Nat → List SV) (cnt : Nat) (Y : Value) (B : YAnn) : Code → Ann → Nat → KY → Tmps → Nat → Bool → Prop
  | .seq a b, A, tg, K, τ, i, dd => match hasY B.ys (.seq a b) with
    | false => vc P specs eqs N 0 true A (.seq a b) (fun e s => K e (purT s.τ) i dd) ⟨τ, []⟩
    | true => vcI P specs eqs N its cnt Y B a A tg (fun e τ i dd => match e with
      | .normal => vcI P specs eqs N its cnt Y B b A tg K τ i dd
      | e => K e τ i dd) τ i dd
  | .cond c x y, A, tg, K, τ, i, dd => match evO N τ c with
    | .bool b => Br b (vcI P specs eqs N its cnt Y B x A tg K τ i dd) (vcI P specs eqs N its cnt Y B y A tg K τ i dd)
    | .lit b => match b with
      | true => vcI P specs eqs N its cnt Y B x A tg K τ i dd
      | false => vcI P specs eqs N its cnt Y B y A tg K τ i dd
    | _ => False
  | .block id c, A, tg, K, τ, i, dd => match hasY B.ys (.block id c) with
    | false => vc P specs eqs N 0 true A (.block id c) (fun e s => K e (purT s.τ) i dd) ⟨τ, []⟩
    | true => vcI P specs eqs N its cnt Y B c A tg (fun e τ i dd => match e with
      | .exit j => if j = id then K .normal τ i dd else K (.exit j) τ i dd
      | e => K e τ i dd) τ i dd
  | .loop c, A, tg, K, τ, i, dd => match hasY B.ys (.loop c) with
    | false => vc P specs eqs N 0 true A (.loop c) (fun e s => K e (purT s.τ) i dd) ⟨τ, []⟩
    | true => match dd with
      | true => False
      | false => match firstReg c with
        | some r => match findYL B.loops r with
          | some Lf => (fun L : YLoop => (∃ g, Ask (L.pre g) ∧ Ask (L.idx g = i) ∧ tmpLe [] [] τ (L.τ g)) ∧ ∀ g, L.pre g → vcI P specs eqs N its cnt Y B c (L.ann g) (L.tag g) (fun e τ' i' dd' => match e with
            | .normal => match dd' with
              | true => False
              | false => ∃ g', Ask (L.pre g') ∧ Ask (L.idx g' = i') ∧ tmpLe [] [] τ' (L.τ g') ∧ Ask (L.meas g' < L.meas g)
            | e => K e τ' i' dd') (L.τ g) (L.idx g) false) (Lf tg)
          | none => False
        | none => False
  | .region id ops d, A, tg, K, τ, i, dd => match findQ B.ys id with
    | none => vc P specs eqs N 0 true A (.region id ops d) (fun e s => K e (purT s.τ) i dd) ⟨τ, []⟩
    | some q => match dd with
      | true => False
      | false => vcY P specs eqs N ops d q (fun s => vcYop P specs eqs N its cnt Y ops q (K .normal) i (purT s.τ)) ⟨τ, []⟩
  | c, A, tg, K, τ, i, dd => vc P specs eqs N 0 true A c (fun e s => K e (purT s.τ) i dd) ⟨τ, []⟩
section
variable {P : Program} {specs : List FSpec} {eqs : List (TypeId × List CK)} {N n : Nat} {X : Nat → Prop} {J : Nat → (Nat → Prop) → World → Prop}
theorem SI.pur {i : Nat} {B : Nat → Prop} {W : World} (hJ : JClosed J) (hj : J i B W) {s' : St} {a' : Act} {W' : World} (h : StR W ⟨XB n X B W, fun _ => False, E0, false⟩ N s' a' W') : SI N n X J (purT s'.τ) i a' W' := by
  obtain ⟨E', hrep, htr⟩ := h
  have hbel : Below W.heap.size W W' := hrep.below.all
  refine ⟨_, hJ.1 i B W W' hj hbel, htr.1, htr.2.1.1 rfl, fun t ht => ?_⟩
  rw [lookT_pur]
  split
  · rename_i hp
    refine (isPure_sound 6 _ _ hp (htr.2.2 t ht)).mono (fun _ _ _ => rfl) (fun b hlt hb => ?_) (Env.le_refl _)
    obtain ⟨b1, b2, b3⟩ := hb
    exact .inl ⟨Classical.byContradiction fun hc => b2 (.inr ⟨by omega, b1⟩), fun hc => b2 (.inl hc), b3⟩
  · exact .any
theorem SI.le {τ τ' : Tmps} {i : Nat} {a : Act} {W : World} (h : SI N n X J τ i a W) (hle : tmpLe [] [] τ τ') : SI N n X J τ' i a W := by
  obtain ⟨B, hj, h1, h2, h3⟩ := h
  refine ⟨B, hj, h1, h2, fun t ht => ?_⟩
  have := SVle_sound (X' := XB n X B W) (fun _ h => h) (E := E0) (fun k ver v us h => by cases h) (tmpLe_get hle t) (h3 t ht)
  rwa [E0_cut] at this
/-- A piece of code without yield. -/
theorem pieceP (hspecs : ∀ s ∈ specs, SpecOK P s) (heqs : ∀ t n, (t, n) ∈ eqs → EqOK P t n) (hm : P.follows .mixedOrders = true) (hJ : JClosed J) {c : Code} {A : Ann} {K : SExit → Tmps → Prop} {τ : Tmps} {i nn : Nat} {a : Act} {W : World} {Q : Exit → Act → World → Prop}
    (h : vc P specs eqs N 0 true A c (fun e s => K e (purT s.τ)) ⟨τ, []⟩) (hs : SI N n X J τ i a W) (hQ : ∀ e τ' a' W', K e τ' → SI N n X J τ' i a' W' → Q e.lift a' W') : c.wpIn Fence.wide nn P Q a W := by
  obtain ⟨B, hj, hst⟩ := hs.start
  exact vc_sound (r := true) hspecs heqs hm c (.inl rfl) (fun hc => by cases hc) (fun k hk => absurd rfl hk) A _ Q ⟨τ, []⟩ h (fun e s' a' W' hk hs' => hQ e _ a' W' hk (SI.pur hJ hj hs')) a W hst
theorem tailP (hspecs : ∀ s ∈ specs, SpecOK P s) (heqs : ∀ t n, (t, n) ∈ eqs → EqOK P t n) (hJ : JClosed J) {ops : Array Oper} {l : List Oper} {K : Tmps → Prop} {τ : Tmps} {i nn : Nat} {a : Act} {W : World} {Q : Exit → Act → World → Prop}
    (h : vcOps P specs eqs N ops l 0 (fun s => K (purT s.τ)) ⟨τ, []⟩) (hs : SI N n X J τ i a W) (hQ : ∀ τ' a' W', K τ' → SI N n X J τ' i a' W' → Q .normal a' W') : wpListIn Fence.wide nn P ops Q l a W := by
  obtain ⟨B, hj, hst⟩ := hs.start
  obtain ⟨s', ht, hk⟩ := vcOps_tr h
  exact tr_seq hspecs heqs Wd.wide ht (fun a' W' hs' => hQ _ a' W' hk (SI.pur hJ hj hs')) a W hst
def SD (N n : Nat) (X : Nat → Prop) (J : Nat → (Nat → Prop) → World → Prop) (Jx : Nat → World → Prop) : Bool → Tmps → Nat → Act → World → Prop
  | false, τ, i, a, W => SI N n X J τ i a W
  | true, τ, i, a, W => SI N n X (JX Jx) τ i a W ∧ True
theorem vcI_sound (hspecs : ∀ s ∈ specs, SpecOK P s) (heqs : ∀ t n, (t, n) ∈ eqs → EqOK P t n) (hm : P.follows .mixedOrders = true) {its : Nat → List SV} {cnt lp : Nat} {B : YAnn} {w : World} {Jx : Nat → World → Prop} (hJ : JClosed J)
    (hJx : ∀ i W W', Jx i W → Below W.heap.size W W' → Jx i W')
    (hK : ∀ i B W, J i B W → (w.heap.size ≤ W.heap.size ∧ ∀ b, b < w.heap.size → ¬ X b → W.heap[b]? = w.heap[b]?) ∧ ∀ b, B b → b < W.heap.size)
    (hY : ∀ i B W args, i < cnt → J i B W → ArgsR W (fun b => ¬ B b ∧ (w.heap.size ≤ b ∨ X b)) E0 (its i) args →
        YieldAt Fence.wide 0 P lp args W fun e W' => (e = .returned (.bool true) ∧ J (i + 1) B W' ∧ ∀ b, B b → W'.heap[b]? = W.heap[b]?) ∨ (e = .returned (.bool false) ∧ i < cnt ∧ Jx i W')) {nn : Nat} :
    ∀ (c : Code) (A : Ann) (tg : Nat) (K : KY) (Q : Exit → Act → World → Prop) (τ : Tmps) (i : Nat) (dd : Bool), vcI P specs eqs N its cnt (.func (.yield lp) #[] #[]) B c A tg K τ i dd →
      (∀ e τ i dd a W, K e τ i dd → SD N w.heap.size X J (fun i W => i < cnt ∧ Jx i W) dd τ i a W → Q e.lift a W) → ∀ a W, SD N w.heap.size X J (fun i W => i < cnt ∧ Jx i W) dd τ i a W → c.wpIn Fence.wide nn P Q a W := by
  have hJx' : JClosed (JX fun i W => i < cnt ∧ Jx i W) := JX_closed fun i W W' h hb => ⟨h.1, hJx i W W' h.2 hb⟩
  have plain : ∀ (c : Code) (A : Ann) (K : KY) (Q : Exit → Act → World → Prop) (τ : Tmps) (i : Nat) (dd : Bool), vc P specs eqs N 0 true A c (fun e s => K e (purT s.τ) i dd) ⟨τ, []⟩ →
      (∀ e τ i dd a W, K e τ i dd → SD N w.heap.size X J (fun i W => i < cnt ∧ Jx i W) dd τ i a W → Q e.lift a W) → ∀ a W, SD N w.heap.size X J (fun i W => i < cnt ∧ Jx i W) dd τ i a W → c.wpIn Fence.wide nn P Q a W := by
    intro c A K Q τ i dd h hQ a W hs
    cases dd with
    | false => exact pieceP hspecs heqs hm hJ (K := fun e τ => K e τ i false) h hs fun e τ' a' W' hk hs' => hQ e τ' i false a' W' hk hs'
    | true => exact pieceP hspecs heqs hm hJx' (K := fun e τ => K e τ i true) h hs.1 fun e τ' a' W' hk hs' => hQ e τ' i true a' W' hk ⟨hs', trivial⟩
  intro c
  induction c with
  | seq x y ihx ihy =>
    intro A tg K Q τ i dd h hQ a W hs
    simp only [vcI] at h
    split at h
    · exact plain _ A K Q τ i dd h hQ a W hs
    · refine wpIn_seq (ihx A tg _ _ τ i dd h (fun e τ' i' dd' a' W' hk hs' => ?_) a W hs)
      cases e with
      | normal => exact ihy A tg K Q τ' i' dd' hk hQ a' W' hs'
      | exit id => exact hQ _ τ' i' dd' a' W' hk hs'
      | ret => exact hQ _ τ' i' dd' a' W' hk hs'
  | cond c x y ihx ihy =>
    intro A tg K Q τ i dd h hQ a W hs
    simp only [vcI] at h
    have hev : R W (fun _ => False) E0 (evO N τ c) (a.eval c) ∨ ∃ X', R W X' E0 (evO N τ c) (a.eval c) := by
      cases dd with
      | false => obtain ⟨B', _, hti⟩ := hs; exact .inr ⟨_, hti.eval c⟩
      | true => obtain ⟨⟨B', _, hti⟩, _⟩ := hs; exact .inr ⟨_, hti.eval c⟩
    obtain ⟨X', hev⟩ : ∃ X', R W X' E0 (evO N τ c) (a.eval c) := hev.elim (fun h => ⟨_, h⟩) id
    split at h
    · rename_i b hb
      have hv := bool_inv (hb ▸ hev)
      cases b with
      | true => exact wpIn_cond_true hv (ihx A tg K Q τ i dd h hQ a W hs)
      | false => exact wpIn_cond_false hv (ihy A tg K Q τ i dd h hQ a W hs)
    · rename_i b hb
      have hv := lit_inv (hb ▸ hev)
      cases b with
      | true => exact wpIn_cond_true hv (ihx A tg K Q τ i dd h hQ a W hs)
      | false => exact wpIn_cond_false hv (ihy A tg K Q τ i dd h hQ a W hs)
    · exact h.elim
  | block id c ih =>
    intro A tg K Q τ i dd h hQ a W hs
    simp only [vcI] at h
    split at h
    · exact plain _ A K Q τ i dd h hQ a W hs
    · refine wpIn_block (ih A tg _ _ τ i dd h (fun e τ' i' dd' a' W' hk hs' => ?_) a W hs)
      cases e with
      | normal => exact hQ _ τ' i' dd' a' W' hk hs'
      | exit j =>
        simp only [SExit.lift, Exit.inBlock]
        simp only at hk
        split
        · rename_i hj; rw [if_pos hj] at hk; exact hQ .normal τ' i' dd' a' W' hk hs'
        · rename_i hj; rw [if_neg hj] at hk; exact hQ (.exit j) τ' i' dd' a' W' hk hs'
      | ret => exact hQ _ τ' i' dd' a' W' hk hs'
  | loop c ih =>
    intro A tg K Q τ i dd h hQ a W hs
    simp only [vcI] at h
    split at h
    · exact plain _ A K Q τ i dd h hQ a W hs
    · split at h
      · exact h.elim
      split at h
      case h_2 => exact h.elim
      split at h
      case h_2 => exact h.elim
      rename_i Lf hL
      generalize Lf tg = L at h
      obtain ⟨⟨g0, ⟨hp0⟩, ⟨hi0⟩, hle0⟩, hround⟩ := h
      refine wpIn_loop_ghost (fun m a W => ∃ g, L.pre g ∧ L.meas g = m ∧ SI N w.heap.size X J (L.τ g) (L.idx g) a W) (L.meas g0) ⟨g0, hp0, rfl, by rw [hi0]; exact SI.le hs hle0⟩ ?_
      rintro m a W ⟨g, hp, rfl, hsg⟩
      refine ih (L.ann g) (L.tag g) _ _ (L.τ g) (L.idx g) false (hround g hp) (fun e τ' i' dd' a' W' hk hs' => ?_) a W hsg
      cases e with
      | normal =>
        simp only at hk
        split at hk
        · exact hk.elim
        obtain ⟨g', ⟨hp'⟩, ⟨hi'⟩, hle', ⟨hlt⟩⟩ := hk
        exact ⟨_, hlt, g', hp', rfl, by rw [hi']; exact SI.le hs' hle'⟩
      | exit id => exact hQ _ τ' i' dd' a' W' hk hs'
      | ret => exact hQ _ τ' i' dd' a' W' hk hs'
  | region id ops d =>
    intro A tg K Q τ i dd h hQ a W hs
    simp only [vcI] at h
    split at h
    · exact plain _ A K Q τ i dd h hQ a W hs
    rename_i q hq
    split at h
    · exact h.elim
    have key : ∀ (s' : St) (a' : Act) (W' : World), vcYop P specs eqs N its cnt (.func (.yield lp) #[] #[]) ops q (K .normal) i (purT s'.τ) → SI N w.heap.size X J (purT s'.τ) i a' W' → wpListIn Fence.wide nn P ops Q (ops.toList.drop q) a' W' := by
      intro s' a' W' hk hs'
      unfold vcYop at hk
      split at hk
      case h_2 => exact hk.elim
      rename_i o hoq
      split at hk
      · exact hk.elim
      rename_i hgd
      split at hk
      case h_2 => exact hk.elim
      rename_i c hop
      split at hk
      case h_2 => exact hk.elim
      rename_i x hcal
      split at hk
      case h_2 => exact hk.elim
      rename_i y
      split at hk
      case h_2 => exact hk.elim
      rename_i hyN
      split at hk
      case h_2 => exact hk.elim
      rename_i v hv
      obtain ⟨⟨rfl⟩, ⟨hic⟩, hargs, ht, hf⟩ := hk
      have hql : q < ops.size := (Array.getElem?_eq_some_iff.1 hoq).1
      have hdrop : ops.toList.drop q = o :: ops.toList.drop (q + 1) := by
        rw [List.drop_eq_getElem_cons (by rw [Array.length_toList]; exact hql), Array.getElem_toList]
        congr 1
        exact (Array.getElem?_eq_some_iff.1 hoq).2
      rw [hdrop]
      refine yield_op (Jx := fun i W => i < cnt ∧ Jx i W) hop hcal hgd (Nat.le_of_ble_eq_true hyN) hv hargs hK (fun B' W args hj har => hY i B' W args hic hj har) hs' (fun a2 W2 hs2 => ?_) (fun a2 W2 hs2 => ?_)
      · exact tailP hspecs heqs hJ (K := fun τ => K .normal τ (i + 1) false) ht hs2 fun τ3 a3 W3 hk3 hs3 => hQ .normal τ3 (i + 1) false a3 W3 hk3 hs3
      · exact tailP hspecs heqs hJx' (K := fun τ => K .normal τ i true) hf hs2 fun τ3 a3 W3 hk3 hs3 => hQ .normal τ3 i true a3 W3 hk3 ⟨hs3, trivial⟩
    obtain ⟨B', hj, hst⟩ := hs.start
    exact piece_region' hspecs heqs hm h hst fun s' a' W' hk hs' => key s' a' W' hk (SI.pur hJ hj hs')
  | skip => intro A tg K Q τ i dd h hQ a W hs; exact plain _ A K Q τ i dd h hQ a W hs
  | label l => intro A tg K Q τ i dd h hQ a W hs; exact plain _ A K Q τ i dd h hQ a W hs
  | exit id => intro A tg K Q τ i dd h hQ a W hs; exact plain _ A K Q τ i dd h hQ a W hs
  | ret => intro A tg K Q τ i dd h hQ a W hs; exact plain _ A K Q τ i dd h hQ a W hs
  | _ => intro A tg K Q τ i dd h hQ a W hs; exact plain _ A K Q τ i dd h hQ a W hs
/-- An iterator by typed data. -/
def mkI (f : FuncId) {γ : Type} (dec : List SV → Option γ) (capt : γ → List SV) (pre : γ → Prop) (cnt : γ → Nat) (item : γ → Nat → List SV) : ISpec :=
  ⟨f, fun l => match dec l with
    | some g => some (argsLe l (capt g) ∧ Ask (pre g), cnt g, item g)
    | none => none⟩
def retY (cnt : Nat) : KY
  | .exit _, _, _, _ => False
  | _, _, i, dd => match dd with
    | true => True
    | false => Ask (i = cnt)
theorem it_sound (hspecs : ∀ s ∈ specs, SpecOK P s) (heqs : ∀ t n, (t, n) ∈ eqs → EqOK P t n) (hm : P.follows .mixedOrders = true) {f : FuncId} {fn : Func} {body : Code} (hf : P.funcs[f]? = some fn) (hb : fn.body = some body) (hent : ∀ args w, (callFunc f args).run P w = .ok (.enter f args) w) (hres : fn.results = #[])
    {γ : Type} {dec : List SV → Option γ} {capt : γ → List SV} {pre : γ → Prop} {cnt : γ → Nat} {item : γ → Nat → List SV} (B : γ → Value → YAnn) (A : γ → Value → Ann) (hlen : ∀ g, (capt g).length + 1 ≤ fn.ntmps)
    (h : ∀ g, pre g → ∀ Y, vcI P specs eqs fn.ntmps (item g) (cnt g) Y (B g Y) body (A g Y) 0 (retY (cnt g)) (argsT 0 (.con Y :: capt g)) 0 false) : ItOK P (mkI f dec capt pre cnt item) := by
  refine ⟨hent, fun l p cn its hrun hp w X vals hargs lp J Jx hJ1 hJx hK hY W hj0 => ?_⟩
  simp only [mkI] at hrun
  split at hrun
  case h_2 => cases hrun
  rename_i g hdec
  cases hrun
  obtain ⟨hle, ⟨hpre⟩⟩ := hp
  obtain ⟨k1, k2⟩ := argsLe_get hle
  have hJ : JClosed J := ⟨hJ1, fun i B W hj => (hK i B W hj).2⟩
  have hK0 := (hK 0 _ W hj0).1
  have hT := argsT_look fn.ntmps (#[.func (.yield lp) #[] #[]] ++ vals) (.con (.func (.yield lp) #[] #[]) :: capt g) W (XB w.heap.size X (fun _ => False) W) E0 (by simp [hargs.1, k1]; omega) (by simpa using hlen g) (fun i hi => by
    cases i with
    | zero =>
      have e0 : (#[Value.func (.yield lp) #[] #[]] ++ vals).getD 0 undef = .func (.yield lp) #[] #[] := by
        rw [Array.getD_eq_getD_getElem?, Array.getElem?_append_left (by simp)]; rfl
      rw [e0]
      exact .con
    | succ i =>
      simp only [List.getD_cons_succ]
      have hi' : i < (capt g).length := by simpa using hi
      have e1 : (#[Value.func (.yield lp) #[] #[]] ++ vals).getD (i + 1) undef = vals.getD i undef := by
        rw [Array.getD_eq_getD_getElem?, Array.getElem?_append_right (by simp), Array.getD_eq_getD_getElem?]
        simp
      rw [e1]
      have := SVle_sound (X := X) (X' := X) (fun _ h => h) (E := E0) (fun k ver v us h => by cases h) (k2 i hi') (hargs.2 i (by omega))
      rw [E0_cut] at this
      refine this.mono (fun b hlt hx => hK0.2 b hlt hx) (fun b hlt hb => ?_) (Env.le_refl _)
      rcases hb.2.2 with h1 | h1
      · omega
      · exact h1)
  refine callsIn_wide.1 (callsIn_of_wp_marks (n := 0) hf hb trivial ?_ rfl)
  refine vcI_sound (J := J) (X := X) (w := w) (Jx := Jx) hspecs heqs hm hJ hJx hK (fun i B W args hi hj har => ?_) body _ _ _ _ _ 0 false (h g hpre _) (fun e τ i dd a' W' hk hs => ?_) _ W ⟨fun _ => False, hj0, hT.1, rfl, hT.2⟩
  · obtain ⟨fn', tm, asg, bd, r1, r2⟩ := hY i B W args hi hj har
    exact ⟨fn', tm, asg, bd, r1, r2.mono fun e W' he => he.imp id fun h => ⟨h.1, hi, h.2⟩⟩
  · have fin : (retY (cnt g) .normal τ i dd) → SD fn.ntmps w.heap.size X J (fun i W => i < cnt g ∧ Jx i W) dd τ i a' W' → LeavesInM Fence.wide 0 P fn a'.tmps (fun e W' => (∃ v, e = .returned v) ∧ ((∃ B, J (cnt g) B W') ∨ ∃ i, i < cnt g ∧ Jx i W')) a'.defers .returning W' := by
      intro hk hs
      have hrs : (results fn a'.tmps).run P W' = .ok (.tuple #[]) W' := by
        rw [results_eq, hres]
        simp
      cases dd with
      | false =>
        obtain ⟨B', hj, hti⟩ := hs
        rw [hti.2.1]
        have hi : i = cnt g := hk.out
        subst hi
        exact ⟨_, hrs, ⟨_, rfl⟩, .inl ⟨B', hj⟩⟩
      | true =>
        obtain ⟨⟨B', hj, hti⟩, _⟩ := hs
        rw [hti.2.1]
        exact ⟨_, hrs, ⟨_, rfl⟩, .inr ⟨i, hj.1⟩⟩
    cases e with
    | exit id => exact hk.elim
    | normal => exact fin hk hs
    | ret => exact fin hk hs
end
end Go.Proofs.Ytbkgncikjhibiaa.Sx
