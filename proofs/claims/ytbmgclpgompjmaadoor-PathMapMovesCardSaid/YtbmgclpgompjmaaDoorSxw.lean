/- Equality of flat aggregates; small words for the use of the evaluation. -/
import Derived.Test.YtbmgclpgompjmaaDoorSxv
import Derived.ChangeKeysEq
namespace Go.Proofs.YtbmgclpgompjmaaDoor.Sx
open Go.RowKit
def flatFs (P : Program) (rec : TypeId → Option (List CK)) : List Field → Nat → Option (List CK)
  | [], _ => some []
  | f :: fs, off => if f.name ≠ "_" ∧ f.offset = off then match rec f.type with
      | some ks => match tinf P f.type with
        | some (m, _) => if m = ks.length ∧ 0 < m then match flatFs P rec fs (off + m) with
            | some r => some (ks ++ r)
            | none => none
          else none
        | none => none
      | none => none
    else none
def rep (ks : List CK) : Nat → List CK
  | 0 => []
  | n + 1 => ks ++ rep ks n
/-- The kinds of the cells of a type made of integers, bools and strings alone. -/
def flatT (P : Program) : Nat → TypeId → Option (List CK)
  | 0, _ => none
  | d + 1, t => match P.underlying t with
    | some .bool => some [.bool]
    | some (.int _) => some [.int]
    | some .string => some [.str]
    | some (.array len e) => match flatT P d e with
      | some ks => match tinf P e with
        | some (m, _) => if m = ks.length ∧ 0 < m then some (rep ks len) else none
        | none => none
      | none => none
    | some (.struct fs) => if P.stoodInHeld t = true then none else flatFs P (flatT P d) fs.toList 0
    | _ => none
theorem eqCells_append {g f : Nat → SV} : ∀ {l r : List CK} {i : Nat} {b : Bool}, eqCells g f (l ++ r) i = some b → ∃ c t, eqCells g f l i = some c ∧ eqCells g f r (i + l.length) = some t ∧ b = (c && t)
  | [], r, i, b, h => ⟨true, b, rfl, by simpa using h, by simp⟩
  | k :: l, r, i, b, h => by
    simp only [List.cons_append, eqCells] at h ⊢
    cases h1 : eqC k (g i) (f i) with
    | none => rw [h1] at h; cases h
    | some c =>
      cases h2 : eqCells g f (l ++ r) (i + 1) with
      | none => rw [h1, h2] at h; cases h
      | some t =>
        rw [h1, h2] at h
        cases h
        obtain ⟨c', t', h3, h4, rfl⟩ := eqCells_append h2
        rw [h3]
        exact ⟨_, t', rfl, by rw [List.length_cons, show i + (l.length + 1) = i + 1 + l.length by omega]; exact h4, by simp [Bool.and_assoc]⟩
theorem eqCells_shift {g f : Nat → SV} : ∀ {l : List CK} {i off : Nat}, eqCells g f l (off + i) = eqCells (fun j => g (off + j)) (fun j => f (off + j)) l i
  | [], _, _ => rfl
  | k :: l, i, off => by simp only [eqCells]; rw [show off + i + 1 = off + (i + 1) by omega, eqCells_shift]
def KindOK (P : Program) (t : TypeId) : CK → Prop
  | .int => ∃ k, P.underlying t = some (.int k)
  | .bool => P.underlying t = some .bool
  | .str => P.underlying t = some .string
theorem eqC_sound {P : Program} {w X E} {t : TypeId} {k : CK} {s r : SV} {x y : Value} {c : Bool} (hs : R w X E s x) (hr : R w X E r y) (he : eqC k s r = some c) (D : Nat)
    (hu : KindOK P t k) : (Op.equalIn (D + 1) t x y).run P w = .ok c w := by
  cases k with
  | int =>
    simp only [eqC] at he
    split at he
    · rename_i k a k' b
      obtain ⟨hk, rfl⟩ := ite_some he
      subst hk
      obtain ⟨k0, h0⟩ := hu
      rw [int_inv hs, int_inv hr, run_equalIn_int w D t k k0 a b h0, beq_eq_decide]
    · cases he
  | bool =>
    simp only [eqC] at he
    split at he
    · rename_i a b ha hb
      cases he
      rw [asB_inv ha hs, asB_inv hb hr]
      exact run_equalIn_bool' w D t a b hu
    · cases he
  | str =>
    simp only [eqC] at he
    split at he
    · rename_i a b
      cases he
      cases hs
      cases hr
      exact run_equalIn_string w D t a b hu
    · cases he
/-- Two values of a flat type, by their cells. -/
def Cmp (w : World) (X : Nat → Prop) (E : Env) (n : Nat) (agg : Bool) (g f : Nat → SV) (x y : Value) : Prop :=
  if agg = true then ∃ xs ys, x = .agg xs ∧ y = .agg ys ∧ xs.size = n ∧ ys.size = n ∧ (∀ i, i < n → R w X E (g i) (xs.getD i undef)) ∧ (∀ i, i < n → R w X E (f i) (ys.getD i undef))
  else R w X E (g 0) x ∧ R w X E (f 0) y
theorem part_cmp {P : Program} {w X E} {t : TypeId} {m : Nat} {ag : Bool} (ht : tinf P t = some (m, ag)) {n off : Nat} {g : Nat → SV} {cs : Array Value} (hs : cs.size = n) (hm : 0 < m) (hle : off + m ≤ n)
    (h : ∀ i, i < n → R w X E (g i) (cs.getD i undef)) :
    ∃ v, (Go.part t cs off).run P w = .ok v w ∧ (if ag = true then ∃ vs, v = .agg vs ∧ vs.size = m ∧ ∀ i, i < m → R w X E (g (off + i)) (vs.getD i undef) else R w X E (g off) v) := by
  obtain ⟨h1, h2⟩ := tinf_spec ht w
  cases ag with
  | true =>
    have hg : ∀ i, i < m → (cs.extract off (off + m)).getD i undef = cs.getD (off + i) undef := fun i hi => by
      rw [Array.getD_eq_getD_getElem?, Array.getElem?_extract, if_pos (by omega), Array.getD_eq_getD_getElem?]
    refine ⟨.agg (cs.extract off (off + m)), by simp [Go.part, h1, h2], ?_⟩
    rw [if_pos rfl]
    exact ⟨_, rfl, by rw [Array.size_extract]; omega, fun i hi => by rw [hg i hi]; exact h _ (by omega)⟩
  | false =>
    have : cs[off]? = some (cs.getD off undef) := by rw [Array.getD_eq_getD_getElem?, Array.getElem?_eq_getElem (by omega)]; rfl
    refine ⟨cs.getD off undef, by simp only [Go.part, Sem.run_bind, h1, Result.andThen_ok, this, Bool.false_eq_true, if_false, Sem.run_pure], ?_⟩
    rw [if_neg (by simp)]
    exact h _ (by omega)
theorem tinf_of {P : Program} {t : TypeId} {m : Nat} {a : Bool} (h : tinf P t = some (m, a)) : ∃ i d, P.info? t = some i ∧ P.underlying t = some d ∧ i.size = m ∧ a = (match d with | .struct _ | .array _ _ => true | _ => false) := by
  unfold tinf at h
  cases hi : P.info? t with
  | none => simp [hi] at h
  | some i =>
    cases hd : P.underlying t with
    | none => simp [hi, hd] at h
    | some d =>
      simp only [hi, hd, Option.some.injEq, Prod.mk.injEq] at h
      exact ⟨i, d, rfl, rfl, h.1, h.2.symm⟩
theorem flat_eq {P : Program} {w : World} {X : Nat → Prop} {E : Env} : ∀ (d : Nat) (t : TypeId) (ks : List CK), flatT P d t = some ks → ∀ (m : Nat) (ag : Bool), tinf P t = some (m, ag) → m = ks.length → 0 < m → ∀ (D : Nat), d ≤ D → ∀ (g f : Nat → SV) (x y : Value) (b : Bool),
    Cmp w X E m ag g f x y → eqCells g f ks 0 = some b → (Op.equalIn D t x y).run P w = .ok b w := by
  intro d
  induction d with
  | zero => intro t ks h; simp [flatT] at h
  | succ d ih =>
    intro t ks h m ag hti hm hpos D hD g f x y b hc he
    obtain ⟨D, rfl⟩ : ∃ D', D = D' + 1 := ⟨D - 1, by omega⟩
    obtain ⟨i, dd, hi, hd, hsz, hag⟩ := tinf_of hti
    -- a part
    have sub : ∀ (t' : TypeId) (ks' : List CK) (m' : Nat) (ag' : Bool), flatT P d t' = some ks' → tinf P t' = some (m', ag') → m' = ks'.length → 0 < m' → ∀ (n off : Nat) (xs ys : Array Value) (c : Bool), xs.size = n → ys.size = n → off + m' ≤ n →
        (∀ i, i < n → R w X E (g i) (xs.getD i undef)) → (∀ i, i < n → R w X E (f i) (ys.getD i undef)) → eqCells g f ks' off = some c →
        ∃ u v, (Go.part t' xs off).run P w = .ok u w ∧ (Go.part t' ys off).run P w = .ok v w ∧ (Op.equalIn D t' u v).run P w = .ok c w := by
      intro t' ks' m' ag' hf' hti' hm' hpos' n off xs ys c hxs hys hle hx hy hcc
      obtain ⟨u, hu, hu2⟩ := part_cmp (P := P) hti' hxs hpos' hle hx
      obtain ⟨v, hv, hv2⟩ := part_cmp (P := P) hti' hys hpos' hle hy
      refine ⟨u, v, hu, hv, ih t' ks' hf' m' ag' hti' hm' hpos' D (by omega) (fun j => g (off + j)) (fun j => f (off + j)) u v c ?_ ?_⟩
      · unfold Cmp
        cases ag' with
        | true =>
          simp only [if_true] at hu2 hv2 ⊢
          obtain ⟨us, rfl, h1, h2⟩ := hu2
          obtain ⟨vs, rfl, h3, h4⟩ := hv2
          exact ⟨us, vs, rfl, rfl, h1, h3, h2, h4⟩
        | false =>
          simp only [Bool.false_eq_true, if_false] at hu2 hv2 ⊢
          exact ⟨hu2, hv2⟩
      · rw [← eqCells_shift]; exact hcc
    simp only [flatT, hd] at h
    have scal : ∀ (k : CK), KindOK P t k → ks = [k] → ag = false → (Op.equalIn (D + 1) t x y).run P w = .ok b w := by
      intro k hk hks ha
      subst hks
      subst ha
      unfold Cmp at hc
      rw [if_neg (by simp)] at hc
      simp only [eqCells] at he
      cases hq : eqC k (g 0) (f 0) with
      | none => rw [hq] at he; cases he
      | some c =>
        rw [hq] at he
        simp only [Option.some.injEq, Bool.and_true] at he
        subst he
        exact eqC_sound hc.1 hc.2 hq D hk
    cases dd with
    | bool => cases h; exact scal .bool hd rfl hag
    | int k => cases h; exact scal .int ⟨k, hd⟩ rfl hag
    | string => cases h; exact scal .str hd rfl hag
    | array len e =>
      subst hag
      unfold Cmp at hc
      rw [if_pos rfl] at hc
      obtain ⟨xs, ys, rfl, rfl, hxs, hys, hx, hy⟩ := hc
      simp only at h
      cases hf' : flatT P d e with
      | none => rw [hf'] at h; cases h
      | some ks' =>
        rw [hf'] at h
        cases hti' : tinf P e with
        | none => rw [hti'] at h; cases h
        | some q =>
          obtain ⟨m', ag'⟩ := q
          rw [hti'] at h
          simp only at h
          obtain ⟨⟨hm', hpos'⟩, rfl⟩ := ite_some h
          obtain ⟨i', dd', hi', _, hsz', _⟩ := tinf_of hti'
          have hcell : P.cellsOf e = m' := by unfold Program.cellsOf; rw [hi']; exact hsz'
          rw [run_equalIn_array w D xs ys hd hi', hcell]
          have hlen : ∀ n, (rep ks' n).length = n * m' := by
            intro n
            induction n with
            | zero => simp [rep]
            | succ n ihn => simp only [rep, List.length_append, ihn, ← hm']; rw [Nat.add_mul]; omega
          have key : ∀ (k j : Nat) (c : Bool), (j + k) * m' ≤ m → eqCells g f (rep ks' k) (j * m') = some c → (Op.eqItems D e m' xs ys (List.range' j k)).run P w = .ok c w := by
            intro k
            induction k with
            | zero => intro j c _ hc; simp only [rep, eqCells, Option.some.injEq] at hc; subst hc; simp [Op.eqItems]
            | succ k ihk =>
              intro j c hle hc
              obtain ⟨c1, c2, e1, e2, rfl⟩ := eqCells_append hc
              have hle2 : j * m' + m' ≤ m := by
                have : (j + 1) * m' ≤ (j + (k + 1)) * m' := Nat.mul_le_mul_right _ (by omega)
                rw [Nat.add_mul] at this
                omega
              obtain ⟨u, v, p1, p2, p3⟩ := sub e ks' m' ag' hf' hti' hm' hpos' m (j * m') xs ys c1 hxs hys hle2 hx hy e1
              have ih2 := ihk (j + 1) c2 (by rw [show j + 1 + k = j + (k + 1) by omega]; exact hle) (by rw [Nat.add_mul, Nat.one_mul, hm']; rw [hm'] at e2; exact e2)
              rw [List.range'_succ]
              simp only [Op.eqItems, Sem.run_bind, p1, p2, p3, Result.andThen_ok, Sem.run_ite, ih2, Sem.run_pure]
              cases c1 <;> simp
          rw [List.range_eq_range']
          exact key len 0 b (by rw [Nat.zero_add, hm, hlen]; exact Nat.le_refl _) (by rw [Nat.zero_mul]; exact he)
    | struct fs =>
      subst hag
      unfold Cmp at hc
      rw [if_pos rfl] at hc
      obtain ⟨xs, ys, rfl, rfl, hxs, hys, hx, hy⟩ := hc
      simp only at h
      split at h
      · cases h
      · rename_i hst
        have hfo : P.fieldsOf t = fs := by unfold Program.fieldsOf; rw [hd]
        rw [run_equalIn_struct w D t xs ys (by rw [hfo]; exact hd) (by simpa using hst), hfo]
        have key : ∀ (l : List Field) (off : Nat) (ks : List CK) (c : Bool), flatFs P (flatT P d) l off = some ks → off + ks.length ≤ m → eqCells g f ks off = some c → (Op.eqFields D xs ys l).run P w = .ok c w := by
          intro l
          induction l with
          | nil => intro off ks c hfl _ hc; simp only [flatFs, Option.some.injEq] at hfl; subst hfl; simp only [eqCells, Option.some.injEq] at hc; subst hc; simp [Op.eqFields]
          | cons fd l ihl =>
            intro off ks c hfl hle hc
            simp only [flatFs] at hfl
            split at hfl
            case isFalse => cases hfl
            rename_i hcond
            obtain ⟨hname, hoff⟩ := hcond
            cases hf' : flatT P d fd.type with
            | none => rw [hf'] at hfl; cases hfl
            | some ks' =>
              rw [hf'] at hfl
              cases hti' : tinf P fd.type with
              | none => rw [hti'] at hfl; cases hfl
              | some q =>
                obtain ⟨m', ag'⟩ := q
                rw [hti'] at hfl
                simp only at hfl
                split at hfl
                case isFalse => cases hfl
                rename_i hmm
                obtain ⟨hm', h0⟩ := hmm
                cases hr : flatFs P (flatT P d) l (off + m') with
                | none => rw [hr] at hfl; cases hfl
                | some r =>
                  rw [hr] at hfl
                  cases hfl
                  obtain ⟨c1, c2, e1, e2, rfl⟩ := eqCells_append hc
                  rw [List.length_append] at hle
                  · obtain ⟨u, v, p1, p2, p3⟩ := sub fd.type ks' m' ag' hf' hti' hm' h0 m off xs ys c1 hxs hys (by omega) hx hy e1
                    have ih2 := ihl (off + m') r c2 hr (by omega) (by rw [hm']; exact e2)
                    rw [← hoff] at p1 p2
                    simp only [Op.eqFields, ne_eq, hname, not_false_eq_true, if_true, Sem.run_bind, p1, p2, p3, Result.andThen_ok, Sem.run_ite, ih2, Sem.run_pure]
                    cases c1 <;> simp
        exact key fs.toList 0 ks b h (by rw [Nat.zero_add, hm]; exact Nat.le_refl _) he
    | _ => simp at h
/-- A flat type's aggregates compare cell by cell. -/
theorem eqOK_of {P : Program} {t : TypeId} {ks : List CK} (h : flatT P 8 t = some ks) {m : Nat} (ht : tinf P t = some (m, true)) (hm : m = ks.length) (hpos : 0 < m) (hg : P.eqGuardType P.depth t = false) : EqOK P t ks := by
  intro w X E g f xs ys b hx hy he hrx hry x y
  refine ⟨run_eqGuard_agg w .eql t x y xs ys hg, run_eqGuard_agg w .neq t x y xs ys hg, ?_⟩
  refine flat_eq (X := X) (E := E) 8 t ks h m true ht hm hpos 10000 (by omega) g f _ _ b ?_ he
  unfold Cmp
  rw [if_pos rfl]
  exact ⟨xs, ys, rfl, rfl, by omega, by omega, fun i hi => hrx i (by omega), fun i hi => hry i (by omega)⟩
/-- A goal said in the form to which it is reckoned. -/
theorem vc_of {A B : Prop} (h : A = B) (hb : B) : A := h ▸ hb
def AllOK (P : Program) : List FSpec → Prop
  | [] => True
  | s :: r => SpecOK P s ∧ AllOK P r
theorem all_ok {P : Program} : ∀ {l : List FSpec}, AllOK P l → ∀ s ∈ l, SpecOK P s
  | [], _, s, hs => (List.not_mem_nil hs).elim
  | t :: r, h, s, hs => by
    rcases List.mem_cons.1 hs with rfl | hs
    · exact h.1
    · exact all_ok h.2 s hs
def AllEq (P : Program) : List (TypeId × List CK) → Prop
  | [] => True
  | e :: r => EqOK P e.1 e.2 ∧ AllEq P r
theorem all_eq {P : Program} : ∀ {l : List (TypeId × List CK)}, AllEq P l → ∀ t n, (t, n) ∈ l → EqOK P t n
  | [], _, t, n, hs => (List.not_mem_nil hs).elim
  | e :: r, h, t, n, hs => by
    rcases List.mem_cons.1 hs with he | hs
    · have := h.1; rw [← he] at this; exact this
    · exact all_eq h.2 t n hs
/-- A literal row of values. -/
def lst (l : List SV) (i : Nat) : SV := l.getD i .any
def intOf : SV → Int
  | .int _ n => n
  | _ => 0
def boolOf : SV → Bool
  | .bool b => b
  | .lit b => b
  | _ => false
def A0 : Ann := ⟨[], []⟩
end Go.Proofs.YtbmgclpgompjmaaDoor.Sx
