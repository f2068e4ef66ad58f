/- A region whose order is drawn: every order comes to where the text's order comes. -/
import Derived.Test.YtbmgclpgompjmaaDoorSxo
import Derived.Orders
namespace Go.Proofs.YtbmgclpgompjmaaDoor.Sx
open Go.RowKit
/-- i comes before j, by the edges. -/
inductive Anc (ops : Array Oper) : Nat → Nat → Prop
  | dir {j o e} (ho : ops[j]? = some o) (he : e ∈ o.after) (hb : Region.binds .any e = true) : Anc ops e.on j
  | trans {i j o e} (ho : ops[j]? = some o) (he : e ∈ o.after) (hb : Region.binds .any e = true) (h : Anc ops i e.on) : Anc ops i j
/-- Listed operations have what comes before them listed. -/
def Closed (ops : Array Oper) (L : Nat → Prop) : Prop := ∀ j o, L j → ops[j]? = some o → ∀ e ∈ o.after, Region.binds .any e = true → L e.on
theorem Anc.listed {ops L i j} (hc : Closed ops L) (h : Anc ops i j) : (∀ o, ops[j]? = some o → ∀ e ∈ o.after, Region.binds .any e = true → L e.on) → L i := by
  induction h with
  | dir ho he hb => exact fun hj => hj _ ho _ he hb
  | trans ho he hb _ ih => exact fun hj => ih fun o' ho' e' he' hb' => hc _ _ (hj _ ho _ he hb) ho' e' he' hb'
def maskOf (o : Oper) (acc : List Nat) : Nat := o.after.toList.foldl (fun s e => if Region.binds .any e then s ||| 2 ^ e.on ||| acc.getD e.on 0 else s) 0
def befs : List Oper → List Nat → List Nat
  | [], acc => acc
  | o :: r, acc => befs r (acc ++ [maskOf o acc])
theorem mask_spec (acc : List Nat) (i : Nat) : ∀ (l : List Edge) (s : Nat), (l.foldl (fun s e => if Region.binds .any e then s ||| 2 ^ e.on ||| acc.getD e.on 0 else s) s).testBit i = true →
    s.testBit i = true ∨ ∃ e ∈ l, Region.binds .any e = true ∧ (e.on = i ∨ (acc.getD e.on 0).testBit i = true)
  | [], s, h => .inl h
  | e :: l, s, h => by
    simp only [List.foldl_cons] at h
    rcases mask_spec acc i l _ h with h1 | ⟨e', h1, h2, h3⟩
    · by_cases hb : Region.binds .any e = true
      · rw [if_pos hb] at h1
        simp only [Nat.testBit_or, Bool.or_eq_true] at h1
        rcases h1 with (h1 | h1) | h1
        · exact .inl h1
        · refine .inr ⟨e, List.mem_cons_self, hb, .inl ?_⟩
          simp only [Nat.testBit_two_pow, decide_eq_true_eq] at h1
          exact h1
        · exact .inr ⟨e, List.mem_cons_self, hb, .inr h1⟩
      · rw [if_neg hb] at h1
        exact .inl h1
    · exact .inr ⟨e', List.mem_cons_of_mem _ h1, h2, h3⟩
theorem befs_spec {ops : Array Oper} : ∀ (l : List Oper) (acc : List Nat), (∀ j, l[j]? = ops[acc.length + j]?) → (∀ j i, j < acc.length → (acc.getD j 0).testBit i = true → Anc ops i j) →
    ∀ j i, ((befs l acc).getD j 0).testBit i = true → Anc ops i j
  | [], acc, _, ha, j, i, h => by
    by_cases hj : j < acc.length
    · exact ha j i hj h
    · simp only [befs, List.getD_eq_getElem?_getD, List.getElem?_eq_none (Nat.not_lt.1 hj)] at h
      simp at h
  | o :: r, acc, hl, ha, j, i, h => by
    have ho : ops[acc.length]? = some o := by simpa using (hl 0).symm
    refine befs_spec r (acc ++ [maskOf o acc]) (fun k => by have := hl (k + 1); simpa [Nat.add_assoc, Nat.add_comm 1 k] using this) (fun j i hj hb => ?_) j i h
    simp only [List.length_append, List.length_cons, List.length_nil] at hj
    by_cases hlt : j < acc.length
    · rw [getD_append_left hlt] at hb
      exact ha j i hlt hb
    · obtain rfl : j = acc.length := by omega
      have he : (acc ++ [maskOf o acc]).getD acc.length 0 = maskOf o acc := by
        rw [List.getD_eq_getElem?_getD, List.getElem?_append_right (Nat.le_refl _)]; simp
      rw [he] at hb
      rcases mask_spec acc i _ 0 hb with h0 | ⟨e, h1, h2, h3⟩
      · simp at h0
      · have hm : e ∈ o.after := Array.mem_toList_iff.1 h1
        rcases h3 with rfl | h3
        · exact .dir ho hm h2
        · refine .trans ho hm h2 (ha e.on i ?_ h3)
          refine Nat.not_le.1 fun hc => ?_
          rw [List.getD_eq_getElem?_getD, List.getElem?_eq_none hc] at h3
          simp at h3
/-- A read ahead of the making of what is written: it reads the same behind the write. -/
def lateB (ops : Array Oper) (e1 i j : Nat) (oi oj : Oper) : Bool := match oi.op with
  | .load .. => match oj.op with
    | .store _ ad _ => match ad with
      | .tmp d => (List.range j).any fun a => decide (i < a) && (decide (a < e1) && match ops[a]? with
        | some oa => match oa.op with
          | .alloc _ => oa.dst == some d
          | _ => false
        | none => false)
      | _ => false
    | _ => false
  | _ => false
structure Late (ops : Array Oper) (e1 i j : Nat) (oi oj : Oper) : Prop where
  load : ∃ T x, oi.op = .load T x
  store : ∃ T d x a oa T', oj.op = .store T (.tmp d) x ∧ i < a ∧ a < j ∧ a < e1 ∧ ops[a]? = some oa ∧ oa.op = .alloc T' ∧ oa.dst = some d
theorem lateB_spec {ops : Array Oper} {e1 i j : Nat} {oi oj : Oper} (h : lateB ops e1 i j oi oj = true) : Late ops e1 i j oi oj := by
  unfold lateB at h
  split at h
  case h_2 => cases h
  rename_i T x ho
  split at h
  case h_2 => cases h
  rename_i T2 ad x2 ho2
  split at h
  case h_2 => cases h
  rename_i d
  obtain ⟨a, ha, h⟩ := List.any_eq_true.1 h
  rw [Bool.and_eq_true, Bool.and_eq_true, decide_eq_true_eq, decide_eq_true_eq] at h
  obtain ⟨h1, h2, h⟩ := h
  split at h
  case h_2 => cases h
  rename_i oa hoa
  split at h
  case h_2 => cases h
  rename_i T3 ho3
  exact ⟨⟨T, x, ho⟩, T2, d, x2, a, oa, T3, ho2, h1, List.mem_range.1 ha, h2, hoa, ho3, by simpa using h⟩
/-- Behind operation i nobody writes t. -/
def noW (ops : Array Oper) (i t : Nat) : Bool := (ops.toList.drop i).all fun o => o.dst != some t
theorem noW_spec {ops : Array Oper} {i t : Nat} (h : noW ops i t = true) {m : Nat} {o : Oper} (hm : i ≤ m) (ho : ops[m]? = some o) : o.dst ≠ some t := by
  have h1 : (ops.toList.drop i)[m - i]? = some o := by rw [List.getElem?_drop, show i + (m - i) = m by omega, Array.getElem?_toList]; exact ho
  have := List.all_eq_true.1 h o (List.mem_of_getElem? h1)
  simpa using this
def oneT (P : Program) (T : TypeId) : Bool := match tinf P T with
  | some ti => Nat.beq ti.1 1 && !ti.2
  | none => false
/-- A read and a later write of the call's own that have nothing to do with each other (τ': the temporaries at the end). -/
def apB (P : Program) (N : Nat) (τ' : Tmps) (ops : Array Oper) (e1 i j : Nat) (oi oj : Oper) : Bool := match oi.op with
  | .load T x => match x with
    | .tmp c => match oj.op with
      | .store T' ad _ => match ad with
        | .tmp d => decide (i < e1) && (noW ops i c && match evO N τ' (.tmp c) with
          | .own k off => noW ops j d && match evO N τ' (.tmp d) with
            | .own k' off' => !Nat.beq k k' || (!Nat.beq off off' && (oneT P T && oneT P T'))
            | _ => false
          | .ref _ _ => true
          | _ => false)
        | _ => false
      | _ => false
    | _ => false
  | _ => false
structure Apart2 (P : Program) (N : Nat) (τ' : Tmps) (ops : Array Oper) (e1 i j : Nat) (oi oj : Oper) : Prop where
  lt : i < e1
  is : ∃ T c T' d z, oi.op = .load T (.tmp c) ∧ oj.op = .store T' (.tmp d) z ∧ noW ops i c = true ∧ ((∃ n g, evO N τ' (.tmp c) = .ref n g) ∨ ∃ k off k' off', noW ops j d = true ∧ evO N τ' (.tmp c) = .own k off ∧ evO N τ' (.tmp d) = .own k' off' ∧
    (k ≠ k' ∨ (off ≠ off' ∧ oneT P T = true ∧ oneT P T' = true)))
theorem apB_spec {P : Program} {N : Nat} {τ' : Tmps} {ops : Array Oper} {e1 i j : Nat} {oi oj : Oper} (h : apB P N τ' ops e1 i j oi oj = true) : Apart2 P N τ' ops e1 i j oi oj := by
  unfold apB at h
  split at h
  case h_2 => cases h
  rename_i T x ho
  split at h
  case h_2 => cases h
  rename_i c
  split at h
  case h_2 => cases h
  rename_i T' ad z ho'
  split at h
  case h_2 => cases h
  rename_i d
  simp only [Bool.and_eq_true, decide_eq_true_eq] at h
  obtain ⟨h1, h2, h⟩ := h
  split at h
  case h_3 => cases h
  case h_2 =>
    rename_i n g hk
    exact ⟨h1, T, c, T', d, z, ho, ho', h2, .inl ⟨n, g, hk⟩⟩
  rename_i k off hk
  rw [Bool.and_eq_true] at h
  obtain ⟨h3, h⟩ := h
  split at h
  case h_2 => cases h
  rename_i k' off' hk'
  refine ⟨h1, T, c, T', d, z, ho, ho', h2, .inr ⟨k, off, k', off', h3, hk, hk', ?_⟩⟩
  rw [Bool.or_eq_true] at h
  rcases h with h | h
  · exact .inl fun hc => (by subst hc; rw [Nat.beq_refl] at h; cases h)
  · simp only [Bool.and_eq_true] at h
    exact .inr ⟨fun hc => (by have := h.1; subst hc; rw [Nat.beq_refl] at this; cases this), h.2.1, h.2.2⟩
/-- A temporary that names what is given away. -/
def refT (N : Nat) (τ : Tmps) (t : Nat) : Bool := match Nat.blt t N with
  | true => match lookT τ t with
    | .ref .. => true
    | _ => false
  | false => false
def noDst (ops : Array Oper) (t : Nat) : Bool := ops.toList.all fun o => o.dst != some t
/-- A read of what is given away: nothing in the region can change it. -/
def refLoad (N : Nat) (τ : Tmps) (ops : Array Oper) (i : Nat) (o : Oper) : Bool := match o.op with
  | .load _ x => match x with
    | .tmp c => (refT N τ c && noDst ops c) || (List.range i).any fun a => match ops[a]? with
      | some oa => match oa.guard with
        | none => match oa.op with
          | .fieldAddr _ y _ => match y with
            | .tmp c0 => (oa.dst == some c) && (Nat.blt c N && (refT N τ c0 && noDst ops c0))
            | _ => false
          | _ => false
        | some _ => false
      | none => false
    | _ => false
  | _ => false
/-- A temporary that holds a slice that is given away. -/
def slT (N : Nat) (τ : Tmps) (t : Nat) : Bool := match Nat.blt t N with
  | true => match lookT τ t with
    | .sl .. => true
    | _ => false
  | false => false
/-- Temporary c holds such a slice, taken out of a temporary in the region. -/
def slB (N : Nat) (τ : Tmps) (ops : Array Oper) (i c : Nat) : Bool := (List.range i).any fun a => match ops[a]? with
  | some oa => match oa.guard with
    | none => match oa.op with
      | .move y => match y with
        | .tmp c0 => (oa.dst == some c) && (Nat.blt c N && (slT N τ c0 && (ops.toList.take a).all fun o => o.dst != some c0))
        | _ => false
      | _ => false
    | some _ => false
  | none => false
/-- A cut of such a slice, or an element's address. -/
def slOp (N : Nat) (τ : Tmps) (ops : Array Oper) (i : Nat) (o : Oper) : Bool := match o.op with
  | .slice _ x _ _ _ => match x with
    | .tmp c => slB N τ ops i c
    | _ => false
  | .indexAddr _ x _ => match x with
    | .tmp c => slB N τ ops i c
    | _ => false
  | _ => false
/-- min or max. -/
def minOp (o : Oper) : Bool := match o.op with
  | .call c => match c.callee with
    | .builtin b => match b with
      | .min => true
      | .max => true
      | _ => false
    | _ => false
  | _ => false
def puX (N : Nat) (τ : Tmps) (ops : Array Oper) (i : Nat) (o : Oper) : Bool := refLoad N τ ops i o || slOp N τ ops i o || minOp o
def puB (N : Nat) (τ : Tmps) (ops : Array Oper) (i : Nat) (o : Oper) : Bool := pureOp o || puX N τ ops i o
/-- What is looked over in a region whose order is drawn: edges go back; no temporary is written twice; of two operations one comes before the other, or they have nothing to do with each other and not both look at memory behind the first write. -/
def regB (P : Program) (ef : Option FuncId → Bool) (N : Nat) (τ τ' : Tmps) (ops : Array Oper) : Bool :=
  let l := ops.toList
  let b := befs l []
  let e1 := l.findIdx (isEff ef)
  (List.range l.length).all fun j => match l[j]? with
    | none => true
    | some oj => (oj.after.toList.all fun e => !Region.binds .any e || decide (e.on < j)) &&
      (List.range j).all fun i => match l[i]? with
        | none => true
        | some oi => (oi.dst == none || oi.dst != oj.dst) &&
          ((b.getD j 0).testBit i || (oi.apart ops oj && (pureOp oi || pureOp oj || decide (j < e1) || lateB ops e1 i j oi oj || (puX N τ ops i oi || puX N τ ops j oj) || apB P N τ' ops e1 i j oi oj)))
structure RegOK (pu : Nat → Oper → Bool) (ap : Nat → Nat → Oper → Oper → Prop) (ef : Option FuncId → Bool) (ops : Array Oper) (e1 : Nat) : Prop where
  back : ∀ (j : Nat) (o : Oper), ops[j]? = some o → ∀ e ∈ o.after, Region.binds .any e = true → e.on < j
  once : ∀ (i j : Nat) (oi oj : Oper), i < j → ops[i]? = some oi → ops[j]? = some oj → ∀ d, oi.dst = some d → oj.dst ≠ some d
  pair : ∀ (i j : Nat) (oi oj : Oper), i < j → ops[i]? = some oi → ops[j]? = some oj → Anc ops i j ∨ (oi.apart ops oj = true ∧ (pu i oi = true ∨ pu j oj = true ∨ j < e1 ∨ Late ops e1 i j oi oj ∨ ap i j oi oj))
  free : ∀ (i : Nat) (o : Oper), i < e1 → ops[i]? = some o → isEff ef o = false
theorem regB_spec {P : Program} {ef : Option FuncId → Bool} {N : Nat} {τ τ' : Tmps} {ops : Array Oper} (h : regB P ef N τ τ' ops = true) : RegOK (puB N τ ops) (Apart2 P N τ' ops (ops.toList.findIdx (isEff ef))) ef ops (ops.toList.findIdx (isEff ef)) := by
  unfold regB at h
  have hj : ∀ j oj, ops[j]? = some oj → (oj.after.toList.all fun e => !Region.binds .any e || decide (e.on < j)) = true ∧
      ∀ i oi, i < j → ops[i]? = some oi → (oi.dst == none || oi.dst != oj.dst) = true ∧ (((befs ops.toList []).getD j 0).testBit i || (oi.apart ops oj && (pureOp oi || pureOp oj || decide (j < ops.toList.findIdx (isEff ef)) || lateB ops (ops.toList.findIdx (isEff ef)) i j oi oj || (puX N τ ops i oi || puX N τ ops j oj) || apB P N τ' ops (ops.toList.findIdx (isEff ef)) i j oi oj))) = true := by
    intro j oj ho
    have hlt : j < ops.toList.length := by rw [Array.length_toList]; exact (Array.getElem?_eq_some_iff.1 ho).1
    have h1 := List.all_eq_true.1 h j (List.mem_range.2 hlt)
    rw [Array.getElem?_toList, ho] at h1
    simp only [Bool.and_eq_true] at h1
    refine ⟨h1.1, fun i oi hi hoi => ?_⟩
    have h2 := List.all_eq_true.1 h1.2 i (List.mem_range.2 hi)
    rw [Array.getElem?_toList, hoi] at h2
    simpa only [Bool.and_eq_true] using h2
  refine ⟨fun j o ho e he hb => ?_, fun i j oi oj hij hoi hoj d hd hc => ?_, fun i j oi oj hij hoi hoj => ?_, fun i o hi ho => ?_⟩
  · have := List.all_eq_true.1 (hj j o ho).1 e (Array.mem_toList_iff.2 he)
    rw [hb] at this
    simpa using this
  · have := ((hj j oj hoj).2 i oi hij hoi).1
    rw [hd, hc] at this
    simp at this
  · have := ((hj j oj hoj).2 i oi hij hoi).2
    simp only [Bool.or_eq_true, Bool.and_eq_true, decide_eq_true_eq] at this
    rcases this with h1 | ⟨h1, h2⟩
    · exact .inl (befs_spec ops.toList [] (by simp) (fun j i hj => by simp at hj) j i h1)
    · refine .inr ⟨h1, ?_⟩
      rcases h2 with ((((h2 | h2) | h2) | h2) | h2 | h2) | h2
      · exact .inl (by unfold puB; rw [h2]; rfl)
      · exact .inr (.inl (by unfold puB; rw [h2]; rfl))
      · exact .inr (.inr (.inl h2))
      · exact .inr (.inr (.inr (.inl (lateB_spec h2))))
      · exact .inl (by unfold puB; rw [h2, Bool.or_true])
      · exact .inr (.inl (by unfold puB; rw [h2, Bool.or_true]))
      · exact .inr (.inr (.inr (.inr (apB_spec h2))))
  · have hlt : i < ops.toList.length := by rw [Array.length_toList]; exact (Array.getElem?_eq_some_iff.1 ho).1
    have := List.not_of_lt_findIdx hi
    have he : ops.toList[i] = o := by
      have := Array.getElem?_eq_some_iff.1 ho
      simpa using this.2
    rw [he] at this
    simpa using this
/-- The states that a run goes through. -/
theorem Tr.states {P specs eqs N ops} : ∀ {l : List Oper} {s s' : St}, Tr P specs eqs N ops l s s' → ∃ st : Nat → St, st 0 = s ∧ st l.length = s' ∧ ∀ i o, l[i]? = some o → Step P specs eqs N ops o (st i) (st (i + 1)) := by
  intro l s s' h
  induction h with
  | nil => exact ⟨fun _ => _, rfl, rfl, fun i o ho => by simp at ho⟩
  | cons hs hr ih =>
    rename_i o l s s1 s2
    obtain ⟨st, h0, h1, h2⟩ := ih
    refine ⟨fun i => match i with | 0 => s | i + 1 => st i, rfl, h1, fun i o' ho => ?_⟩
    cases i with
    | zero =>
      simp only [List.getElem?_cons_zero, Option.some.injEq] at ho
      subst ho
      simp only
      rw [h0]
      exact hs
    | succ i =>
      simp only [List.getElem?_cons_succ] at ho
      exact h2 i o' ho
end Go.Proofs.YtbmgclpgompjmaaDoor.Sx
