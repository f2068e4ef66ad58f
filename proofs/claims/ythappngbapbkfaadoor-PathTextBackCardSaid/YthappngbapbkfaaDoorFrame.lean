/- What every law's frame shares: arguments of whatever make read behind the call as they read before it, where the call has only made memory; and what a reading says of the cells. -/
import Derived.Test.YthappngbapbkfaaDoorBase
import Derived.ProofKit
import Derived.OpenShut
import Derived.Carry
namespace Go.Proofs.YthappngbapbkfaaDoor
open Go.RowKit Go.ChangeShapes Go.WideShapes Go.ChangeAt
variable {H : Type} {enc : TypeId × Value → H} {P : Program}

/-! ### The arguments behind the call -/
theorem trodAll_below (hl : laidOutB P = true) {W W' : World} (hb : Below W.heap.size W W') : ∀ (ts : List TypeId) (vs : List Value) (ds : List (DataW H)) (ps : List MemPlace),
    (ts.all fun t => P.readableRec t && decide (t < P.types.size)) = true → DataW.TrodAll enc P W 0 (fun _ => true) true ts vs ds ps → (∀ x ∈ ps, x.block < W.heap.size) →
    DataW.TrodAll enc P W' 0 (fun b => decide (b < W.heap.size)) true ts vs ds ps
  | [], [], [], _, _, h, _ => h
  | t :: ts, v :: vs, d :: ds, ps, hr, h, hlt => by
    obtain ⟨p, q, h1, h2, rfl⟩ := h
    simp only [List.all_cons, Bool.and_eq_true, decide_eq_true_eq] at hr
    exact ⟨p, q, Below.trod hl hr.1.1 hr.1.2 h1 hb (fun x hx => hlt x (List.mem_append_left _ hx)), trodAll_below hl hb ts vs ds q hr.2 h2 (fun x hx => hlt x (List.mem_append_right _ hx)), rfl⟩
  | [], [], _ :: _, _, _, h, _ => h.elim
  | [], _ :: _, _, _, _, h, _ => h.elim
  | _ :: _, [], _, _, _, h, _ => h.elim
  | _ :: _, _ :: _, [], _, _, h, _ => h.elim

/-- A law's end: it has returned true, and has only made memory. -/
theorem law_post {f : Func} {s : ChangeSpec} {W W' : World} {args : Array Value} {ds gs : List (DataW H)} {before : List MemPlace} {tb : TypeId}
    (hl : laidOutB P = true) (hr : (f.params.toList.all fun t => P.readableRec t && decide (t < P.types.size)) = true)
    (hres : f.resultTypes = #[tb]) (hb : P.underlying tb = some .bool) (hvars : s.vars = [])
    (hW : DataW.Whole enc P f.params.toList s.vars false W args.toList ds gs before)
    (hs : s.fn H (ds ++ gs) = { results := [.lit (.bool true)], args := ds }) (hbl : Below W.heap.size W W') :
    s.post enc P f false true false false W args (.bool true) W' := by
  have hW' := hW
  obtain ⟨p, q, hA, hV, hbq, hz, hn⟩ := hW
  rw [hvars] at hV
  obtain ⟨rfl, rfl⟩ := trodVars_none hV
  rw [List.append_nil] at hbq
  subst hbq
  refine ⟨ds, [], before, [], before, [], hW', ?_, ?_, ?_, ?_, fun h => by cases h⟩
  · rw [hs, hres]
    exact trodAll_mk1 (shut_bool hb _)
  · rw [hs]
    exact trodAll_below hl hbl _ _ _ _ hr hA (fun x hx => hW'.lt x hx)
  · rw [hs, hvars]
    exact rfl
  · exact hbl.frame _

/-! ### What a reading says of the cells: leaf by leaf -/
/-- One cell reads as a datum of type t. -/
def Leaf (P : Program) (w : World) (t : TypeId) (v : Value) : Prop := ∃ (H : Type) (enc : TypeId × Value → H) (fuel : Nat) (x : DataW H × List MemPlace), DataW.trod enc P w 0 (fun _ => true) true fuel t [v] = some x

/-- The leaves of a run of fields that begins at cell 'pos'. -/
def leavesF (P : Program) (rec : TypeId → Option (List TypeId)) : List Field → Nat → Option (List TypeId)
  | [], _ => some []
  | f :: fs, pos =>
    if f.offset = pos then
      match rec f.type with
      | some l => if l.length = P.cellsOf f.type then (leavesF P rec fs (pos + l.length)).map (l ++ ·) else none
      | none => none
    else none
/-- The types of a type's cells, structs and arrays taken apart. -/
def leaves (P : Program) : Nat → TypeId → Option (List TypeId)
  | 0, _ => none
  | n + 1, t =>
    match P.underlying t with
    | some (.struct fs) => match leavesF P (leaves P n) fs.toList 0 with | some l => if l.length = P.cellsOf t then some l else none | none => none
    | some (.array m e) => match leaves P n e with | some l => if l.length = P.cellsOf e ∧ m * l.length = P.cellsOf t then some (List.replicate m l).flatten else none | none => none
    | some .bool | some (.int _) | some .string | some (.slice _) => some [t]
    | _ => none

theorem mapM_all {α β : Type} {f : α → Option β} : ∀ {l : List α} {ys : List β}, l.mapM f = some ys → ∀ x ∈ l, ∃ y, f x = some y
  | [], _, _, x, hx => by cases hx
  | a :: l, ys, h, x, hx => by
    rw [List.mapM_cons] at h
    cases ha : f a with
    | none => rw [ha] at h; exact absurd h (by simp)
    | some b =>
      rw [ha] at h
      cases hl : l.mapM f with
      | none => rw [hl] at h; exact absurd h (by simp)
      | some bs =>
        rcases List.mem_cons.1 hx with rfl | hx
        · exact ⟨b, ha⟩
        · exact mapM_all hl x hx

def All2 {α β : Type} (R : α → β → Prop) : List α → List β → Prop
  | [], [] => True
  | a :: l, b :: m => R a b ∧ All2 R l m
  | _, _ => False
theorem All2.cons_inv {α β : Type} {R : α → β → Prop} {a : α} {r : List α} : ∀ {l : List β}, All2 R (a :: r) l → ∃ b bs, l = b :: bs ∧ R a b ∧ All2 R r bs
  | b :: bs, h => ⟨b, bs, rfl, h.1, h.2⟩
  | [], h => h.elim
theorem All2.nil_inv {α β : Type} {R : α → β → Prop} : ∀ {l : List β}, All2 R ([] : List α) l → l = []
  | [], _ => rfl
  | _ :: _, h => h.elim
theorem All2.append {α β : Type} {R : α → β → Prop} : ∀ {a : List α} {b : List β} {c : List α} {d : List β}, All2 R a b → All2 R c d → All2 R (a ++ c) (b ++ d)
  | [], [], _, _, _, h => h
  | _ :: _, _ :: _, _, _, h1, h => ⟨h1.1, All2.append h1.2 h⟩
  | [], _ :: _, _, _, h, _ => h.elim
  | _ :: _, [], _, _, h, _ => h.elim
theorem All2.length {α β : Type} {R : α → β → Prop} : ∀ {a : List α} {b : List β}, All2 R a b → a.length = b.length
  | [], [], _ => rfl
  | _ :: _, _ :: _, h => by simp [All2.length h.2]
  | [], _ :: _, h => h.elim
  | _ :: _, [], h => h.elim

theorem leavesF_read {rec : TypeId → Option (List TypeId)} {R : TypeId → Value → Prop} {T : Field → List Value → Prop}
    (hT : ∀ f l cs, rec f.type = some l → T f cs → All2 R l cs) (cs : List Value) : ∀ (fs : List Field) (pos : Nat) (ls : List TypeId), leavesF P rec fs pos = some ls → cs.length = pos + ls.length →
    (∀ f ∈ fs, T f ((cs.drop f.offset).take (P.cellsOf f.type))) → All2 R ls (cs.drop pos)
  | [], pos, ls, h, hlen, _ => by
    simp only [leavesF, Option.some.injEq] at h
    subst h
    rw [List.drop_eq_nil_of_le (by simp at hlen; omega)]
    exact trivial
  | f :: fs, pos, ls, h, hlen, hf => by
    unfold leavesF at h
    split at h
    · rename_i ho
      split at h
      · rename_i l hl
        split at h
        · rename_i hc
          cases hr : leavesF P rec fs (pos + l.length) with
          | none => rw [hr] at h; exact absurd h (by simp)
          | some r =>
            rw [hr] at h
            simp only [Option.map_some, Option.some.injEq] at h
            subst h
            rw [List.length_append] at hlen
            have h1 := hT f l _ hl (hf f (List.mem_cons_self ..))
            rw [ho, ← hc] at h1
            have h2 := leavesF_read hT cs fs (pos + l.length) r hr (by omega) (fun g hg => hf g (List.mem_cons_of_mem _ hg))
            have e : cs.drop pos = (cs.drop pos).take l.length ++ cs.drop (pos + l.length) := by rw [← List.drop_drop, List.take_append_drop]
            rw [e]
            exact All2.append h1 h2
        · exact absurd h (by simp)
      · exact absurd h (by simp)
    · exact absurd h (by simp)

theorem leavesA_read {R : TypeId → Value → Prop} (l : List TypeId) (k : Nat) (hk : l.length = k) : ∀ (m : Nat) (cs : List Value), cs.length = m * k →
    (∀ i, i < m → All2 R l ((cs.drop (i * k)).take k)) → All2 R (List.replicate m l).flatten cs
  | 0, cs, hlen, _ => by
    have : cs = [] := List.length_eq_zero_iff.1 (by omega)
    subst this; exact trivial
  | m + 1, cs, hlen, h => by
    rw [List.replicate_succ, List.flatten_cons, ← List.take_append_drop k cs]
    have hm : (m + 1) * k = m * k + k := Nat.succ_mul m k
    refine All2.append ?_ (leavesA_read l k hk m _ (by rw [List.length_drop]; omega) fun i hi => ?_)
    · have := h 0 (by omega)
      rwa [Nat.zero_mul, List.drop_zero] at this
    · have := h (i + 1) (by omega)
      rwa [List.drop_drop, show k + i * k = (i + 1) * k by rw [Nat.succ_mul]; omega]

/-- A reading, leaf by leaf. -/
theorem trod_leaves {w : World} : ∀ (n : Nat) (t : TypeId) (ls : List TypeId) (fuel : Nat) (cs : List Value) (x : DataW H × List MemPlace), leaves P n t = some ls →
    DataW.trod enc P w 0 (fun _ => true) true fuel t cs = some x → All2 (Leaf P w) ls cs
  | 0, _, _, _, _, _, h, _ => by exact absurd h (by simp [leaves])
  | n + 1, t, ls, 0, cs, x, _, h => by exact absurd h (by simp [DataW.trod])
  | n + 1, t, ls, fuel + 1, cs, x, hl, h => by
    have h0 := h
    unfold leaves at hl
    unfold DataW.trod at h
    cases hu : P.underlying t with
    | none => rw [hu] at hl; exact absurd hl (by simp)
    | some d =>
      rw [hu] at hl h
      cases d with
      | struct fs =>
        simp only at hl h
        split at hl
        · rename_i l hlf
          split at hl
          · rename_i hc
            simp only [Option.some.injEq] at hl
            subst hl
            split at h
            · rename_i hlen
              cases hm : fs.toList.mapM fun f => DataW.trod enc P w 0 (fun _ => true) true fuel f.type ((cs.drop f.offset).take (P.cellsOf f.type)) with
              | none => rw [hm] at h; exact absurd h (by simp)
              | some xs =>
                have := leavesF_read (P := P) (R := Leaf P w) (T := fun f c => ∃ y, DataW.trod enc P w 0 (fun _ => true) true fuel f.type c = some y)
                  (fun f l' c hl' ⟨y, hy⟩ => trod_leaves n f.type l' fuel c y hl' hy) cs fs.toList 0 l hlf (by omega) (fun f hf => mapM_all hm f hf)
                rwa [List.drop_zero] at this
            · exact absurd h (by simp)
          · exact absurd hl (by simp)
        · exact absurd hl (by simp)
      | array m e =>
        simp only at hl h
        split at hl
        · rename_i l hle
          split at hl
          · rename_i hc
            simp only [Option.some.injEq] at hl
            subst hl
            split at h
            · rename_i hlen
              cases hm : (List.range m).mapM fun i => DataW.trod enc P w 0 (fun _ => true) true fuel e ((cs.drop (i * P.cellsOf e)).take (P.cellsOf e)) with
              | none => rw [hm] at h; exact absurd h (by simp)
              | some xs =>
                refine leavesA_read l (P.cellsOf e) hc.1 m cs (by rw [hlen, ← hc.2, hc.1]) fun i hi => ?_
                obtain ⟨y, hy⟩ := mapM_all hm i (List.mem_range.2 hi)
                exact trod_leaves n e l fuel _ y hle hy
            · exact absurd h (by simp)
          · exact absurd hl (by simp)
        · exact absurd hl (by simp)
      | bool | int | string | slice =>
        simp only [Option.some.injEq] at hl
        subst hl
        match cs, h with
        | [v], _ => exact ⟨⟨H, enc, fuel + 1, x, h0⟩, trivial⟩
        | [], h => exact absurd h (by simp)
        | _ :: _ :: _, h => exact absurd h (by simp)
      | _ => exact absurd hl (by simp)

/-! ### Leaves, taken apart -/
theorem leaf_int {w : World} {t : TypeId} {k : IntKind} {v : Value} (hu : P.underlying t = some (.int k)) (h : Leaf P w t v) : ∃ n, v = .int k n ∧ (Lit.int k n).wf = true := by
  obtain ⟨H, enc, fuel, x, hx⟩ := h
  obtain ⟨n, h1, _, h2⟩ := DataW.trod_int hu hx
  simp only [List.cons.injEq, and_true] at h1
  exact ⟨n, h1, h2⟩
theorem leaf_bool {w : World} {t : TypeId} {v : Value} (hu : P.underlying t = some .bool) (h : Leaf P w t v) : ∃ b, v = .bool b := by
  obtain ⟨H, enc, fuel, x, hx⟩ := h
  cases fuel with
  | zero => exact absurd hx (by simp [DataW.trod])
  | succ fuel =>
    unfold DataW.trod at hx
    rw [hu] at hx
    simp only at hx
    split at hx <;> first | exact ⟨_, rfl⟩ | simp_all
theorem leaf_string {w : World} {t : TypeId} {v : Value} (hu : P.underlying t = some .string) (h : Leaf P w t v) : ∃ s, v = .string s ∧ s.size ≤ maxLen := by
  obtain ⟨H, enc, fuel, x, hx⟩ := h
  cases fuel with
  | zero => exact absurd hx (by simp [DataW.trod])
  | succ fuel =>
    unfold DataW.trod at hx
    rw [hu] at hx
    cases v with
    | string s =>
      simp only at hx
      split at hx
      · rename_i hs; exact ⟨s, rfl, hs⟩
      · exact absurd hx (by simp)
    | _ => exact absurd hx (by simp)
/-- The cells from address a on read as data of type e. -/
def Elem (P : Program) (w : World) (e : TypeId) (cs : List Value) : Prop := ∃ (H : Type) (enc : TypeId × Value → H) (fuel : Nat) (x : DataW H × List MemPlace), DataW.trod enc P w 0 (fun _ => true) true fuel e cs = some x
theorem elem_leaves {w : World} {n : Nat} {e : TypeId} {ls : List TypeId} {cs : List Value} (hl : leaves P n e = some ls) (h : Elem P w e cs) : All2 (Leaf P w) ls cs := by
  obtain ⟨H, enc, fuel, x, hx⟩ := h
  exact trod_leaves n e ls fuel cs x hl hx
theorem leaf_slice {w : World} {t e : TypeId} {v : Value} (hu : P.underlying t = some (.slice e)) (h : Leaf P w t v) :
    v = .slice none 0 0 ∨ ∃ a len cap, v = .slice (some a) len cap ∧ len ≤ cap ∧ cap ≤ maxLen ∧ ∀ i, i < len → ∃ cs, w.cells? 0 (a.add (i * P.cellsOf e)) (P.cellsOf e) = some cs ∧ Elem P w e cs := by
  obtain ⟨H, enc, fuel, x, hx⟩ := h
  cases fuel with
  | zero => exact absurd hx (by simp [DataW.trod])
  | succ fuel =>
    unfold DataW.trod at hx
    rw [hu] at hx
    cases v with
    | slice p len cap =>
      cases p with
      | none =>
        left
        simp only at hx
        split at hx
        all_goals first | (simp_all; done) | (exact absurd hx (by simp))
      | some a =>
        right
        simp only at hx
        split at hx
        · rename_i hc
          refine ⟨a, len, cap, rfl, hc.2.1, hc.2.2, fun i hi => ?_⟩
          cases hm : (List.range len).mapM (fun i => (w.cells? 0 (a.add (i * P.cellsOf e)) (P.cellsOf e)).bind (DataW.trod enc P w 0 (fun _ => true) true fuel e)) with
          | none => rw [hm] at hx; exact absurd hx (by simp)
          | some ys =>
            obtain ⟨y, hy⟩ := mapM_all hm i (List.mem_range.2 hi)
            rw [Option.bind_eq_some_iff] at hy
            obtain ⟨cs, h1, h2⟩ := hy
            exact ⟨cs, h1, H, enc, fuel, y, h2⟩
        · exact absurd hx (by simp)
    | _ => exact absurd hx (by simp)

theorem add_none (b off n : Nat) : (⟨b, off, none⟩ : Addr).add n = ⟨b, off + n, none⟩ := by
  unfold Addr.add; split
  · subst_vars; rfl
  · rfl
theorem add_zero (a : Addr) : a.add 0 = a := by unfold Addr.add; rw [if_pos rfl]
theorem cells?_spec {w : World} {a : Addr} : ∀ {n : Nat} {cs : List Value}, w.cells? 0 a n = some cs → cs.length = n ∧ ∀ j, j < n → w.cell? (a.add j) = cs[j]? := by
  intro n cs h
  unfold World.cells? at h
  rw [if_pos (Nat.zero_le _)] at h
  have aux : ∀ (l : List Nat) (cs : List Value), (l.mapM fun i => w.cell? (a.add i)) = some cs → cs.length = l.length ∧ ∀ j (hj : j < l.length), w.cell? (a.add l[j]) = cs[j]? := by
    intro l
    induction l with
    | nil => intro cs h; simp at h; subst h; exact ⟨rfl, fun j hj => absurd hj (by simp)⟩
    | cons x l ih =>
      intro cs h
      rw [List.mapM_cons] at h
      cases hx : w.cell? (a.add x) with
      | none => rw [hx] at h; exact absurd h (by simp)
      | some v =>
        rw [hx] at h
        cases hl : (l.mapM fun i => w.cell? (a.add i)) with
        | none => rw [hl] at h; exact absurd h (by simp)
        | some vs =>
          rw [hl] at h
          simp at h
          subst h
          obtain ⟨h1, h2⟩ := ih vs hl
          refine ⟨by simp [h1], fun j hj => ?_⟩
          cases j with
          | zero => simpa using hx
          | succ j => simpa using h2 j (by simpa using hj)
  obtain ⟨h1, h2⟩ := aux _ _ h
  refine ⟨by simpa using h1, fun j hj => ?_⟩
  have := h2 j (by simpa using hj)
  simpa using this

/-! ### Slices, as lists -/
/-- Slice value v reads as xs in w: each element lies in sz cells, as c writes it. -/
def Sl {α : Type} (c : α → List Value) (sz : Nat) (w : World) (v : Value) (xs : List α) : Prop :=
  ∃ p cap, v = .slice p xs.length cap ∧ xs.length ≤ cap ∧ cap ≤ maxLen ∧
    (xs = [] ∨ ∃ b off, p = some ⟨b, off, none⟩ ∧ ∀ i j : Nat, ∀ hi : i < xs.length, j < sz → w.cell? ⟨b, off + i * sz + j, none⟩ = (c xs[i])[j]?)

theorem sl_of_leaf {α : Type} {c : α → List Value} {mk : List Value → α} {ok : α → Prop} {sz : Nat} {w : World} {t e : TypeId} {n : Nat} {ls : List TypeId} {v : Value}
    (hu : P.underlying t = some (.slice e)) (hk : P.cellsOf e = sz) (hsz : 0 < sz) (hls : leaves P n e = some ls)
    (hrow : ∀ cs, All2 (Leaf P w) ls cs → c (mk cs) = cs ∧ ok (mk cs)) (h : Leaf P w t v) : ∃ xs : List α, Sl c sz w v xs ∧ (∀ x ∈ xs, ok x) ∧ xs.length ≤ maxLen := by
  rcases leaf_slice hu h with rfl | ⟨a, len, cap, rfl, h1, h2, h3⟩
  · exact ⟨[], ⟨none, 0, rfl, Nat.le_refl _, Nat.zero_le _, Or.inl rfl⟩, fun x hx => absurd hx (by simp), Nat.zero_le _⟩
  · let row : Nat → List Value := fun i => (w.cells? 0 (a.add (i * sz)) sz).getD []
    have hr : ∀ i, i < len → w.cells? 0 (a.add (i * sz)) sz = some (row i) ∧ c (mk (row i)) = row i ∧ ok (mk (row i)) := by
      intro i hi
      obtain ⟨cs, hc, he⟩ := h3 i hi
      rw [hk] at hc
      have e1 : row i = cs := by show (w.cells? 0 (a.add (i * sz)) sz).getD [] = cs; rw [hc]; rfl
      rw [e1]
      exact ⟨hc, hrow cs (elem_leaves hls he)⟩
    have hlen : ((List.range len).map fun i => mk (row i)).length = len := by simp
    refine ⟨(List.range len).map fun i => mk (row i), ⟨some a, cap, by rw [hlen], by rw [hlen]; exact h1, h2, ?_⟩, ?_, by rw [hlen]; exact Nat.le_trans h1 h2⟩
    · by_cases h0 : len = 0
      · left; subst h0; rfl
      · right
        obtain ⟨b, off, s⟩ := a
        have hs : s = none := by
          obtain ⟨hc, -, -⟩ := hr 0 (by omega)
          obtain ⟨hl1, hc1⟩ := cells?_spec hc
          have hlt : 0 < (row 0).length := by omega
          have := hc1 0 hsz
          rw [List.getElem?_eq_getElem hlt, Nat.zero_mul, add_zero, add_zero] at this
          exact (cell_lt this).2
        subst hs
        refine ⟨b, off, rfl, fun i j hi hj => ?_⟩
        rw [hlen] at hi
        obtain ⟨hc, he, -⟩ := hr i hi
        obtain ⟨hl1, hc1⟩ := cells?_spec hc
        have := hc1 j hj
        rw [List.getElem_map, List.getElem_range, he, ← this, add_none, add_none]
    · intro x hx
      obtain ⟨i, hi, rfl⟩ := List.mem_map.1 hx
      exact (hr i (List.mem_range.1 hi)).2.2

/-! ### Parameters -/
theorem param_struct {w : World} {r : Reach} {b0 n : Nat} {t : TypeId} {fs : Array Field} {ls : List TypeId} {v : Value} {d : DataW H} {ps : List MemPlace} (hu : P.underlying t = some (.struct fs))
    (hls : leaves P n t = some ls) (hok : Value.okWide P w r b0 t v) (hd : DataW.Trod enc P w 0 (fun _ => true) true t v d ps) : ∃ cs : List Value, v = .agg cs.toArray ∧ All2 (Leaf P w) ls cs := by
  unfold Value.okWide at hok
  rw [hu] at hok
  obtain ⟨cs, rfl, -, -⟩ := hok
  obtain ⟨fuel, hf⟩ := hd
  exact ⟨cs.toList, by simp, trod_leaves n t ls fuel _ _ hls (by simpa [Value.cells] using hf)⟩
theorem param_array {w : World} {r : Reach} {b0 n m : Nat} {t e : TypeId} {ls : List TypeId} {v : Value} {d : DataW H} {ps : List MemPlace} (hu : P.underlying t = some (.array m e))
    (hls : leaves P n t = some ls) (hok : Value.okWide P w r b0 t v) (hd : DataW.Trod enc P w 0 (fun _ => true) true t v d ps) : ∃ cs : List Value, v = .agg cs.toArray ∧ All2 (Leaf P w) ls cs := by
  unfold Value.okWide at hok
  rw [hu] at hok
  obtain ⟨cs, rfl, -, -⟩ := hok
  obtain ⟨fuel, hf⟩ := hd
  exact ⟨cs.toList, by simp, trod_leaves n t ls fuel _ _ hls (by simpa [Value.cells] using hf)⟩
theorem param_slice {w : World} {r : Reach} {b0 : Nat} {t e : TypeId} {v : Value} {d : DataW H} {ps : List MemPlace} (hu : P.underlying t = some (.slice e))
    (hok : Value.okWide P w r b0 t v) (hd : DataW.Trod enc P w 0 (fun _ => true) true t v d ps) : Leaf P w t v := by
  obtain ⟨p, len, cap, rfl⟩ := okWide_slice hu hok
  obtain ⟨fuel, hf⟩ := hd
  exact ⟨H, enc, fuel, _, hf⟩
end Go.Proofs.YthappngbapbkfaaDoor
