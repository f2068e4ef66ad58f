import Derived.Test.YthappngbapbkfaaDoorSxf
/- The evaluation tells the truth: what makes memory, and aggregates. -/
namespace Go.Proofs.YthappngbapbkfaaDoor.Sx
open Go.RowKit
theorem Goes.new {w0 X0 H E w w' nm e so sv v} (h : Rep w0 X0 H E w) (hf : Free H E nm (.new so)) (hb : Below w.heap.size w w')
    (hh : ∀ b, holds e so b → w.heap.size ≤ b)
    (hok : Keeps (Xo X0 E H) w w' → Within (Xo X0 E H) (Xo X0 (E.put nm e) H) w → E.le (E.put nm e) → EIok w' (Xo X0 (E.put nm e) H) (E.put nm e) e so)
    (hr : ∀ X, R w' X (E.put nm e) sv v) : Goes w0 X0 H E w nm (.new so) sv v w' := by
  obtain ⟨h1, h2, h3⟩ := hf so rfl
  have hwi : Within (Xo X0 E H) (Xo X0 (E.put nm e) H) w := by
    rintro b hlt (hx | ⟨j, e', hj, hh'⟩)
    · exact .inl hx
    · by_cases hjk : j = nm
      · subst hjk
        rw [Env.put_same] at hj
        cases hj
        rw [h3] at hh'
        have := hh b hh'
        omega
      · rw [Env.put_ne hjk] at hj
        exact .inr ⟨j, e', hj, hh'⟩
  obtain ⟨g1, g2⟩ := h.new (e := e) h1 h2 hb (by rw [h3]; exact hh) (by rw [h3]; exact hok (Rep.keeps hb) hwi (Env.le_put h1))
  refine ⟨E.put nm e, Env.le_put h1, Rep.keeps hb, g2, g1, hr _, fun k hk => ?_⟩
  by_cases hjk : k = nm
  · exact .inr ⟨hjk, so, rfl⟩
  · rw [Env.put_ne hjk] at hk; exact .inl hk
/-- A new block of cells. -/
theorem Goes.cells {w0 X0 H E w nm n g T} {vs : Array Value} (h : Rep w0 X0 H E w) (hf : Free H E nm (.new (.cells n g T))) (hs : vs.size = n)
    (hr : ∀ i, i < n → oneCell (vs.getD i undef) ∧ R w (Xo X0 E H) E (g i) (vs.getD i undef)) :
    Goes w0 X0 H E w nm (.new (.cells n g T)) (.own nm 0) (.pointer (some ⟨w.heap.size, 0, none⟩)) (w.alloc (.cells vs T)) :=
  Goes.new (e := .blk w.heap.size) h hf (Below.allocs w _) (fun b hb => by simp only [holds] at hb; omega)
    (fun hke hwi hle => ⟨vs, heap_new' w _, hs, fun i hi => ⟨(hr i hi).1, (hr i hi).2.mono hke hwi hle⟩⟩) fun X => .own (Env.put_same _ _ _)
theorem tzero_spec {P : Program} {t : TypeId} {z : List Value} (h : tzero P t = some z) :
    ∃ i v, P.info? t = some i ∧ i.zero = some v ∧ v.cells.toList = z ∧ v.cells.size = i.size ∧ ∀ k, k < z.length → oneCell (z.getD k undef) := by
  unfold tzero at h
  cases hi : P.info? t with
  | none => simp [hi] at h
  | some i =>
    cases hz : i.zero with
    | none => simp [hi, hz] at h
    | some v =>
      simp only [hi, hz] at h
      obtain ⟨⟨h1, h2⟩, rfl⟩ := ite_some h
      refine ⟨i, v, rfl, hz, rfl, h1, fun k hk => ?_⟩
      rw [List.getD_eq_getElem?_getD, List.getElem?_eq_getElem hk]
      exact List.all_eq_true.1 h2 _ (List.getElem_mem hk)
theorem alloc_sound {P : Program} {w0 X0 H E w nm} (h : Rep w0 X0 H E w) {t : TypeId} {z : List Value} (ht : tzero P t = some z)
    (hf : Free H E nm (.new (.cells z.length (zeroF z) t))) :
    ∃ u w', (Instr.alloc t true (.tuple #[])).run P w = .ok u w' ∧ Goes w0 X0 H E w nm (.new (.cells z.length (zeroF z) t)) (.own nm 0) u w' := by
  obtain ⟨i, v, h1, h2, rfl, h4, h5⟩ := tzero_spec ht
  have hrun : (Instr.alloc t true (.tuple #[])).run P w = .ok (.pointer (some ⟨w.heap.size, 0, none⟩)) (w.alloc (.cells v.cells t)) := by simp [Instr.alloc, zeroValue, typeInfo, h1, h2, newVar, newRow]
  refine ⟨_, _, hrun, ?_⟩
  refine Goes.cells h hf (by simp) fun k hk => ?_
  have := h5 k hk
  rw [toList_getD] at this
  refine ⟨this, ?_⟩
  unfold zeroF
  rw [toList_getD]
  exact ofV_sound _
theorem box_sound {P : Program} {w0 X0 H E w nm} (h : Rep w0 X0 H E w) {t : TypeId} {x : SV} {v : Value} (hx : R w (Xo X0 E H) E x v) {n g} (hc : cellsOf x = some (n, g))
    (hf : Free H E nm (.new (.cells n g t))) :
    ∃ u w', (Instr.box t v).run P w = .ok u w' ∧ Goes w0 X0 H E w nm (.new (.cells n g t)) (.own nm 0) u w' := by
  obtain ⟨h1, h2⟩ := cellsOf_sound hx hc
  have hrun : (Instr.box t v).run P w = .ok (.pointer (some ⟨w.heap.size, 0, none⟩)) (w.alloc (.cells v.cells t)) := by simp [Instr.box, newVar, newRow]
  exact ⟨_, _, hrun, Goes.cells h hf h1 h2⟩
/-- Cells written one by one. -/
theorem fold_set (off : Nat) : ∀ (l : List Value) (s : Nat) (cs : Array Value), off + s + l.length ≤ cs.size →
    ((l.zipIdx s).foldl (fun (cs : Array Value) p => cs.setIfInBounds (off + p.2) p.1) cs).size = cs.size ∧
    ∀ k, ((l.zipIdx s).foldl (fun (cs : Array Value) p => cs.setIfInBounds (off + p.2) p.1) cs).getD k undef = if off + s ≤ k ∧ k < off + s + l.length then l.getD (k - (off + s)) undef else cs.getD k undef
  | [], s, cs, _ => ⟨rfl, fun k => by rw [if_neg (by simp only [List.length_nil]; omega)]; rfl⟩
  | v :: l, s, cs, h => by
    simp only [List.length_cons] at h
    obtain ⟨h1, h2⟩ := fold_set off l (s + 1) (cs.setIfInBounds (off + s) v) (by simp; omega)
    refine ⟨by simp only [List.zipIdx_cons, List.foldl_cons]; rw [h1]; simp, fun k => ?_⟩
    simp only [List.zipIdx_cons, List.foldl_cons, List.length_cons]
    rw [h2 k]
    by_cases hk : off + (s + 1) ≤ k ∧ k < off + (s + 1) + l.length
    · rw [if_pos hk, if_pos (by omega), show k - (off + s) = (k - (off + (s + 1))) + 1 by omega, List.getD_cons_succ]
    · rw [if_neg hk, Array.getD_eq_getD_getElem?, Array.getElem?_setIfInBounds]
      by_cases hk2 : off + s = k
      · rw [if_pos hk2, if_pos (by omega), if_pos (by omega)]
        subst hk2
        simp
      · rw [if_neg hk2, if_neg (by omega), Array.getD_eq_getD_getElem?]
/-- n cells that g describes. -/
def CellsR (w : World) (X : Nat → Prop) (E : Env) (n : Nat) (g : Nat → SV) (cs : Array Value) : Prop := cs.size = n ∧ ∀ i, i < n → oneCell (cs.getD i undef) ∧ R w X E (g i) (cs.getD i undef)
/-- The parts' values. -/
def PartsR (w : World) (X : Nat → Prop) (E : Env) : List (Nat × SV) → List (Nat × Value) → Prop
  | [], [] => True
  | (i, s) :: r, (j, v) :: q => i = j ∧ R w X E s v ∧ PartsR w X E r q
  | _, _ => False
theorem fill_sound {w X E} (place : Nat → Option (Nat × Nat)) (n : Nat) : ∀ (ps : List (Nat × SV)) (vs : List (Nat × Value)) (g g' : Nat → SV) (cs : Array Value),
    PartsR w X E ps vs → CellsR w X E n g cs → fillS place n g ps = some g' → ∃ cs', Instr.fill place cs vs = some cs' ∧ CellsR w X E n g' cs'
  | [], [], g, g', cs, _, hc, hf => by simp only [fillS, Option.some.injEq] at hf; subst hf; exact ⟨cs, rfl, hc⟩
  | [], _ :: _, _, _, _, hp, _, _ => hp.elim
  | _ :: _, [], _, _, _, hp, _, _ => hp.elim
  | (i, s) :: r, (j, v) :: q, g, g', cs, hp, hc, hf => by
    obtain ⟨rfl, hr, hp'⟩ := hp
    simp only [fillS] at hf
    cases hpl : place i with
    | none => simp [hpl] at hf
    | some os =>
      obtain ⟨off, sz⟩ := os
      cases hcl : cellsOf s with
      | none => simp [hpl, hcl] at hf
      | some mf =>
        obtain ⟨m, f⟩ := mf
        simp only [hpl, hcl] at hf
        split at hf
        case isFalse => cases hf
        rename_i hcond
        obtain ⟨rfl, hle⟩ := hcond
        obtain ⟨h1, h2⟩ := cellsOf_sound hr hcl
        have hlen : v.cells.toList.length = m := by rw [Array.length_toList, h1]
        obtain ⟨f1, f2⟩ := fold_set off v.cells.toList 0 cs (by rw [hlen, hc.1]; omega)
        have hsame : v.cells.zipIdx.foldl (fun (cs : Array Value) p => cs.setIfInBounds (off + p.2) p.1) cs = (v.cells.toList.zipIdx 0).foldl (fun (cs : Array Value) p => cs.setIfInBounds (off + p.2) p.1) cs := by
          rw [← Array.foldl_toList, Array.toList_zipIdx]
        have hnew : CellsR w X E n (updF g off m f) (v.cells.zipIdx.foldl (fun (cs : Array Value) p => cs.setIfInBounds (off + p.2) p.1) cs) := by
          rw [hsame]
          refine ⟨by rw [f1]; exact hc.1, fun k hk => ?_⟩
          rw [f2 k, hlen, Nat.add_zero]
          by_cases hkk : off ≤ k ∧ k < off + m
          · rw [if_pos hkk, updF_in hkk, toList_getD]
            exact h2 (k - off) (by omega)
          · rw [if_neg hkk, updF_out hkk]
            exact hc.2 k hk
        obtain ⟨cs', g1, g2⟩ := fill_sound place n r q _ g' _ hp' hnew hf
        refine ⟨cs', ?_, g2⟩
        have hcs := hc.1
        rw [Instr.fill, hpl]
        simp only
        rw [if_neg (by simp only [Bool.or_eq_true, decide_eq_true_eq, ne_eq]; omega)]
        exact g1
theorem zero_cells {w X E} {v : Value} {z : List Value} (hz : v.cells.toList = z) (h : ∀ k, k < z.length → oneCell (z.getD k undef)) : CellsR w X E z.length (zeroF z) v.cells := by
  subst hz
  refine ⟨by simp, fun i hi => ?_⟩
  have := h i hi
  rw [toList_getD] at this
  refine ⟨this, ?_⟩
  unfold zeroF
  rw [toList_getD]
  exact ofV_sound _
theorem agg_of_cells {w X E n g cs} (h : CellsR w X E n g cs) : R w X E (.agg n g) (.agg cs) := .agg h.1 (fun i hi => (h.2 i hi).1) fun i hi => (h.2 i hi).2
theorem evBuildS_sound {P : Program} {w0 X0 H E w nm} (h : Rep w0 X0 H E w) {t : TypeId} {z : List Value} {fl : List (Nat × Nat)} (ht : tzero P t = some z) (hfl : tflds P t = some fl)
    {ps : List (Nat × SV)} {vs : Array (Nat × Value)} (hp : PartsR w (Xo X0 E H) E ps vs.toList) {y : Yd} (hy : evBuildS z fl ps = some y) :
    ∃ u w', (Instr.build t vs).run P w = .ok u w' ∧ Goes w0 X0 H E w nm y.eff y.val u w' := by
  obtain ⟨i, v, h1, h2, h3, h4, h5⟩ := tzero_spec ht
  unfold evBuildS at hy
  cases hg : fillS (fun i => fl[i]?) z.length (zeroF z) ps with
  | none => simp [hg] at hy
  | some g =>
    simp only [hg, pureY, Option.some.injEq] at hy
    subst hy
    obtain ⟨cs', c1, c2⟩ := fill_sound _ _ _ _ _ _ _ hp (zero_cells h3 h5) hg
    unfold tflds at hfl
    cases hd : P.underlying t with
    | none => simp [hd] at hfl
    | some d =>
      cases d <;> simp only [hd, reduceCtorEq] at hfl
      rename_i fields
      refine ⟨_, w, run_build w t vs cs' ?_, Goes.pure h (agg_of_cells c2)⟩
      unfold Program.built
      simp only [h1, hd, h2, hfl]
      simpa using c1
theorem tarr_spec {P : Program} {t : TypeId} {len s : Nat} {a : Bool} (h : tarr P t = some (len, s, a)) : ∃ e i, P.underlying t = some (.array len e) ∧ tinf P e = some (s, a) ∧ P.info? e = some i ∧ i.size = s := by
  unfold tarr at h
  cases hd : P.underlying t with
  | none => simp [hd] at h
  | some d =>
    cases d <;> simp only [hd, reduceCtorEq] at h
    rename_i l e
    cases hi : tinf P e with
    | none => simp [hi] at h
    | some q =>
      obtain ⟨s', a'⟩ := q
      simp only [hi, Option.some.injEq, Prod.mk.injEq] at h
      obtain ⟨rfl, rfl, rfl⟩ := h
      have hi' := hi
      unfold tinf at hi
      cases hie : P.info? e with
      | none => simp [hie] at hi
      | some i =>
        cases hde : P.underlying e with
        | none => simp [hie, hde] at hi
        | some de =>
          simp only [hie, hde, Option.some.injEq, Prod.mk.injEq] at hi
          exact ⟨e, i, rfl, hi', hie, hi.1⟩
theorem evBuildA_sound {P : Program} {w0 X0 H E w nm} (h : Rep w0 X0 H E w) {t : TypeId} {z : List Value} {ai : Nat × Nat × Bool} (ht : tzero P t = some z) (hfl : tarr P t = some ai)
    {ps : List (Nat × SV)} {vs : Array (Nat × Value)} (hp : PartsR w (Xo X0 E H) E ps vs.toList) {y : Yd} (hy : evBuildA z ai.2.1 ps = some y) :
    ∃ u w', (Instr.build t vs).run P w = .ok u w' ∧ Goes w0 X0 H E w nm y.eff y.val u w' := by
  obtain ⟨i, v, h1, h2, h3, h4, h5⟩ := tzero_spec ht
  obtain ⟨len, es, ag⟩ := ai
  obtain ⟨e, ie, q1, q2, q3, q4⟩ := tarr_spec hfl
  unfold evBuildA at hy
  cases hg : fillS (fun i => some (i * es, es)) z.length (zeroF z) ps with
  | none => simp [hg] at hy
  | some g =>
    simp only [hg, pureY, Option.some.injEq] at hy
    subst hy
    obtain ⟨cs', c1, c2⟩ := fill_sound _ _ _ _ _ _ _ hp (zero_cells h3 h5) hg
    refine ⟨_, w, run_build w t vs cs' ?_, Goes.pure h (agg_of_cells c2)⟩
    unfold Program.built
    simp only [h1, q1, h2, q3, q4]
    exact c1
theorem tsl_spec {P : Program} {t : TypeId} {te : TypeId × Nat × Nat} (h : tsl P t = some te) : ∃ i, P.underlying t = some (.slice te.1) ∧ P.info? te.1 = some i ∧ i.size = te.2.1 ∧ i.bytes = te.2.2 := by
  unfold tsl at h
  cases hd : P.underlying t with
  | none => simp [hd] at h
  | some d =>
    cases d <;> simp only [hd, reduceCtorEq] at h
    rename_i e
    cases hi : P.info? e with
    | none => simp [hi] at h
    | some i =>
      simp only [hi, Option.some.injEq] at h
      subst h
      exact ⟨i, rfl, hi, rfl, rfl⟩
/-- A new slice with all its cells. -/
theorem Goes.row {w0 X0 H E w nm len cap n T} {g : Nat → Nat → SV} {cur : Array Value} (h : Rep w0 X0 H E w) (hf : Free H E nm (.new (.row 0 len n g T))) (hlc : len ≤ cap) (hcm : cap ≤ maxLen) (hs : cur.size = cap * n)
    {w1 : World} (hw1 : Below w.heap.size w w1) (hsz : w1.heap.size = w.heap.size)
    (hr : ∀ i j, i < len → j < n → oneCell (cur.getD (i * n + j) undef) ∧ R w (Xo X0 E H) E0 (g i j) (cur.getD (i * n + j) undef)) :
    Goes w0 X0 H E w nm (.new (.row 0 len n g T)) (.osl nm 0) (.slice (some ⟨w.heap.size, 0, none⟩) len cap) (w1.alloc (.cells cur T)) := by
  have hb : Below w.heap.size w (w1.alloc (.cells cur T)) := hw1.alloc (by rw [hsz]; exact Nat.le_refl _) _
  refine Goes.new (e := .slc 0 (.slice (some ⟨w.heap.size, 0, none⟩) len cap) (fun _ => none)) h hf hb (fun b hb' => ?_) (fun hke hwi hle => ?_) fun X => .osl (Env.put_same _ _ _) ⟨_, _, _, rfl⟩
  · cases cap with
    | zero => simp [holds, blkOf] at hb'
    | succ cap =>
      simp only [holds, blkOf, Option.some.injEq] at hb'
      omega
  · cases cap with
    | zero =>
      obtain rfl : len = 0 := by omega
      exact ⟨rfl, [], .inl ⟨_, rfl, rfl, rfl⟩, fun i j hi => absurd hi (Nat.not_lt_zero _)⟩
    | succ cap =>
      have hll : len * n ≤ (cap + 1) * n := Nat.mul_le_mul_right _ hlc
      refine ⟨rfl, _, .inr ⟨w.heap.size, cap, cur, rfl, by have := heap_new' w1 (.cells cur T); rwa [hsz] at this, hlc, hcm, hs, rfl, by rw [List.length_take, Array.length_toList]; omega⟩, fun i j hi hj => ?_⟩
      rw [list_getD_cur (mul_lt_of hi hj)]
      exact ⟨(hr i j hi hj).1, (hr i j hi hj).2.mono hke hwi (Env.le_refl _)⟩
theorem getD_map_range {n k : Nat} {f : Nat → Value} (h : k < n) : ((Array.range n).map f).getD k undef = f k := by
  rw [Array.getD_eq_getD_getElem?, Array.getElem?_map, Array.getElem?_range, if_pos h]
  rfl
theorem getBang {a : Array Value} {k : Nat} (h : k < a.size) : a[k]! = a.getD k undef := by
  simp [Array.getD, h]
theorem evMakeSlice_sound {P : Program} {w0 X0 H E w nm} (h : Rep w0 X0 H E w) {t : TypeId} {te : TypeId × Nat × Nat} (ht : tsl P t = some te) {z : List Value} (hz : tzero P te.1 = some z)
    {kl kc : IntKind} {l c : Int} {y : Yd} (hy : evMakeSlice te z nm l c = some y) (hask : y.ask) (hf : Free H E nm y.eff) :
    ∃ u w', (Instr.makeSlice t (.int kl l) (.int kc c)).run P w = .ok u w' ∧ Goes w0 X0 H E w nm y.eff y.val u w' := by
  obtain ⟨i, q1, q2, q3, q4⟩ := tsl_spec ht
  obtain ⟨i', v, h1, h2, h3, h4, h5⟩ := tzero_spec hz
  rw [q2] at h1
  cases h1
  unfold evMakeSlice at hy
  obtain ⟨⟨hzl, hpos⟩, rfl⟩ := ite_some hy
  obtain ⟨a1, a2, a3, a4⟩ := hask.out
  have hvs : v.cells.size = z.length := by rw [← h3, Array.length_toList]
  refine ⟨_, _, run_make w t te.1 i v q1 q2 h2 kl kc l c a1 a2 (by rw [q4]; omega) a4, ?_⟩
  have hsize : i.size = te.2.1 := q3
  rw [hsize]
  refine Goes.row h hf (Int.toNat_le_toNat a2) (by unfold maxLen; omega) (by rw [size_madeCells]) (Below.refl _ _) rfl fun i j hi hj => ?_
  have hlt := mul_lt_of (n := te.2.1) (show i < c.toNat by have := Int.toNat_le_toNat a2; omega) hj
  unfold madeCells
  rw [getD_map_range hlt, getBang (Nat.mod_lt _ (by omega)), hvs, hzl, Nat.add_comm, Nat.add_mul_mod_self_right, Nat.mod_eq_of_lt hj]
  have := h5 j (by omega)
  rw [← h3, toList_getD] at this
  refine ⟨this, ?_⟩
  unfold zeroR
  rw [← h3, toList_getD]
  exact ofV_sound _
theorem pickG_eq {n : Nat} {g : Nat → SV} : ∀ {len i j : Nat}, i < len → pickG n g len i j = g (i * n + j)
  | 0, i, j, h => absurd h (Nat.not_lt_zero _)
  | 1, i, j, h => by
    obtain rfl : i = 0 := by omega
    simp [pickG]
  | m + 2, i, j, h => by
    show selS (decide (i = m + 1)) (g ((m + 1) * n + j)) (pickG n g (m + 1) i j) = _
    rw [selS_eq]
    by_cases hi : i = m + 1
    · rw [decide_eq_true hi, hi]; rfl
    · rw [decide_eq_false hi]
      exact pickG_eq (len := m + 1) (by omega)
theorem evBuildSlice_sound {P : Program} {w0 X0 H E w nm} (h : Rep w0 X0 H E w) {t : TypeId} {te : TypeId × Nat × Nat} (ht : tsl P t = some te) {z : List Value} (hz : tzero P te.1 = some z)
    {len : Nat} {ps : List (Nat × SV)} {vs : Array (Nat × Value)} (hp : PartsR w (Xo X0 E H) E ps vs.toList) {y : Yd} (hy : evBuildSlice te z nm len ps = some y) (hf : Free H E nm y.eff) :
    ∃ u w', (Instr.buildSlice t len vs).run P w = .ok u w' ∧ Goes w0 X0 H E w nm y.eff y.val u w' := by
  obtain ⟨i, q1, q2, q3, q4⟩ := tsl_spec ht
  obtain ⟨i', v, h1, h2, h3, h4, h5⟩ := tzero_spec hz
  rw [q2] at h1
  cases h1
  have hvs : v.cells.size = z.length := by rw [← h3, Array.length_toList]
  unfold evBuildSlice at hy
  cases hg : fillS (fun i => some (i * te.2.1, te.2.1)) (len * te.2.1) (fun k => zeroF z (k % z.length)) ps with
  | none => simp [hg] at hy
  | some g =>
    simp only [hg] at hy
    split at hy
    case isFalse =>
      split at hy
      · rename_i hblt
        unfold evBuildP at hy
        obtain ⟨⟨hzl, h1n, hlen1, hlen2⟩, rfl⟩ := ite_some hy
        rw [h1n, Nat.mul_one] at hg
        rw [h1n] at hzl
        have hz0 : CellsR w (Xo X0 E H) E len (fun k => zeroF z (k % z.length)) ((Array.range len).map (v.cells[· % v.cells.size]!)) := by
          refine ⟨by simp, fun k hk => ?_⟩
          rw [getD_map_range hk, getBang (Nat.mod_lt _ (by omega)), hvs]
          have := h5 (k % z.length) (Nat.mod_lt _ (by omega))
          rw [← h3, toList_getD] at this
          rw [← h3] at *
          refine ⟨this, ?_⟩
          show R _ _ _ (ofV (v.cells.toList.getD (k % v.cells.toList.length) undef)) _
          rw [toList_getD]
          exact ofV_sound _
        obtain ⟨cs', c1, c2⟩ := fill_sound _ _ _ _ _ _ _ hp hz0 hg
        have hrun : (Instr.buildSlice t len vs).run P w = .ok (.slice (some ⟨w.heap.size, 0, none⟩) len len) (w.alloc (.cells cs' te.1)) := by
          have hne' : ¬ (len = 0) := by omega
          have hno' : ¬ (16777216 < len) := by omega
          have q3' : i.size = 1 := by rw [q3, h1n]
          have c1' := c1
          simp only [h1n, Nat.mul_one] at c1'
          simp only [Instr.buildSlice, run_underlying q1, sizeOf, typeInfo, zeroValue, q2, newRow, q3', h2, c1', hne', hno', Nat.mul_one, Sem.run_bind, Sem.run_pure, Result.andThen_ok, run_program, gt_iff_lt, if_false, Sem.run_ite, run_newObj_alloc, Nat.reducePow]
        refine ⟨_, _, hrun, ?_⟩
        have hbel : Below w.heap.size w (w.alloc (.cells cs' te.1)) := Below.allocs w _
        exact Goes.world h hbel (.slP (heap_new' w _) (fun hX => absurd (h.xlt _ hX) (Nat.lt_irrefl _)) (by rw [c2.1, Nat.zero_add]; exact Nat.le_refl _) (Nat.le_refl _) (fun i hi => by rw [Nat.zero_add]; exact (c2.2 i hi).1) (fun i hi => by
          rw [Nat.zero_add]
          exact (c2.2 i hi).2.mono (Rep.keeps hbel) (Within.refl _ _) (Env.le_refl _)))
      unfold evBuildD at hy
      split at hy
      case h_2 => cases hy
      obtain ⟨⟨hzl, hpos, hle, hall⟩, rfl⟩ := ite_some hy
      rw [Nat.one_mul] at hg
      have hz0 : CellsR w (Xo X0 E H) E te.2.1 (fun k => zeroF z (k % z.length)) ((Array.range te.2.1).map (v.cells[· % v.cells.size]!)) := by
        refine ⟨by simp, fun k hk => ?_⟩
        rw [getD_map_range hk, getBang (Nat.mod_lt _ (by omega)), hvs]
        have := h5 (k % z.length) (Nat.mod_lt _ (by omega))
        rw [← h3, toList_getD] at this
        rw [← h3] at *
        refine ⟨this, ?_⟩
        show R _ _ _ (ofV (v.cells.toList.getD (k % v.cells.toList.length) undef)) _
        rw [toList_getD]
        exact ofV_sound _
      obtain ⟨cs', c1, c2⟩ := fill_sound _ _ _ _ _ _ _ hp hz0 hg
      have hrun : (Instr.buildSlice t 1 vs).run P w = .ok (.slice (some ⟨w.heap.size, 0, none⟩) 1 1) (w.alloc (.cells cs' te.1)) := by
        have hne' : ¬ (te.2.1 = 0) := by omega
        have hno' : ¬ (16777216 < te.2.1) := by omega
        simp only [Instr.buildSlice, run_underlying q1, sizeOf, typeInfo, zeroValue, q2, newRow, q3, h2, c1, hne', hno', Nat.one_mul, Sem.run_bind, Sem.run_pure, Result.andThen_ok, run_program, gt_iff_lt, if_false, Sem.run_ite, run_newObj_alloc, Nat.reducePow]
      refine ⟨_, _, hrun, ?_⟩
      have hbel : Below w.heap.size w (w.alloc (.cells cs' te.1)) := Below.allocs w _
      refine Goes.new (e := .slc 0 (.slice (some ⟨w.heap.size, 0, none⟩) 1 1) (fun _ => none)) h hf hbel (fun b hb => ?_) (fun hke hwi hle' => ?_) fun X => .osl (Env.put_same _ _ _) ⟨_, _, _, rfl⟩
      · rcases hb with hb | ⟨i, hi, hh, hb⟩
        · simp only [blkOf, Option.some.injEq] at hb; omega
        · cases hb
      · have hown : OwnsR (w.alloc (.cells cs' te.1)) te.1 te.2.1 (.slice (some ⟨w.heap.size, 0, none⟩) 1 1) 1 (cs'.toList.take (1 * te.2.1)) :=
          .inr ⟨_, 0, cs', rfl, heap_new' w _, Nat.le_refl _, by unfold maxLen; omega, by rw [c2.1]; omega, rfl, by rw [List.length_take, Array.length_toList, c2.1]; omega⟩
        have hget : ∀ i j, i < 1 → j < te.2.1 → (cs'.toList.take (1 * te.2.1)).getD (i * te.2.1 + j) undef = cs'.getD j undef := fun i j hi hj => by
          obtain rfl : i = 0 := by omega
          rw [list_getD_cur (by omega), Nat.zero_mul, Nat.zero_add]
        refine ⟨rfl, _, hpos, hown, fun i j hi h0 hj => ?_, fun i sv hi hh => ?_, fun i hi hh => ?_, fun i b hi hh hb => (nomatch hb), fun i i' b hi hi' hh hh' hb => (nomatch hb)⟩
        · rw [hget i j hi hj]
          have hq := all_range hall hj
          have hpure : isPure 6 (g j) = true := by
            cases hbq : Nat.beq j 0 with
            | true => have := Nat.eq_of_beq_eq_true hbq; omega
            | false => rw [hbq] at hq; exact hq
          exact ⟨(c2.2 j hj).1, (isPure_sound 6 _ _ hpure (c2.2 j hj).2).mono hke hwi (Env.le_refl _)⟩
        · have h0 : i = 0 := by omega
          subst h0
          simp only [hoAt, if_true, Option.some.injEq] at hh
          subst hh
          have := hget 0 0 hi hpos
          rw [Nat.add_zero] at this
          rw [this]
          exact ⟨(c2.2 0 hpos).1, (c2.2 0 hpos).2.mono hke hwi hle'⟩
        · have h0 : i = 0 := by omega
          subst h0
          simp [hoAt] at hh
    rename_i hcond
    obtain ⟨hzl, hpos, hlen, hle, hall⟩ := hcond
    simp only [Option.some.injEq] at hy
    subst hy
    have fin : ∀ {cs' : Array Value}, (Instr.buildSlice t len vs).run P w = .ok (.slice (some ⟨w.heap.size, 0, none⟩) len len) (w.alloc (.cells cs' te.1)) → CellsR w (Xo X0 E H) E (len * te.2.1) g cs' →
        ∃ u w', (Instr.buildSlice t len vs).run P w = .ok u w' ∧ Goes w0 X0 H E w nm (match Nat.blt 1 len with
          | true => (⟨True, .sl len te.2.1 (pickG te.2.1 g len), .keep⟩ : Yd)
          | false => ⟨True, .osl nm 0, .new (.row 0 len te.2.1 (pickG te.2.1 g len) te.1)⟩).eff (match Nat.blt 1 len with
          | true => (⟨True, .sl len te.2.1 (pickG te.2.1 g len), .keep⟩ : Yd)
          | false => ⟨True, .osl nm 0, .new (.row 0 len te.2.1 (pickG te.2.1 g len) te.1)⟩).val u w' := by
      intro cs' hrun c2
      refine ⟨_, _, hrun, ?_⟩
      have cont : ∀ i j, i < len → j < te.2.1 → oneCell (cs'.getD (i * te.2.1 + j) undef) ∧ R w (Xo X0 E H) E0 (pickG te.2.1 g len i j) (cs'.getD (i * te.2.1 + j) undef) := fun i j hi hj => by
        have hlt := mul_lt_of (n := te.2.1) hi hj
        rw [pickG_eq hi]
        exact ⟨(c2.2 _ hlt).1, isPure_sound 6 _ _ (all_range hall hlt) (c2.2 _ hlt).2⟩
      clear hrun
      generalize Nat.blt 1 len = bb at hf ⊢
      cases bb with
      | false =>
        simp only at hf ⊢
        exact Goes.row h hf (Nat.le_refl _) (by unfold maxLen; omega) c2.1 (Below.refl _ _) rfl cont
      | true =>
        simp only
        have hbel : Below w.heap.size w (w.alloc (.cells cs' te.1)) := Below.allocs w _
        refine Goes.world h hbel (.sl (heap_new' w _) (fun hX => absurd (h.xlt _ hX) (Nat.lt_irrefl _)) (by rw [c2.1, Nat.zero_add]; exact Nat.le_refl _) (Nat.le_refl _) (fun i j hi hj => by rw [Nat.zero_add]; exact (cont i j hi hj).1) (fun i j hi hj => by
          rw [Nat.zero_add]
          exact (cont i j hi hj).2.mono (Rep.keeps hbel) (Within.refl _ _) (Env.le_refl _)))
    by_cases hlen0 : len = 0
    · subst hlen0
      have hz0 : CellsR w (Xo X0 E H) E (0 * te.2.1) (fun k => zeroF z (k % z.length)) (#[] : Array Value) := ⟨by simp, fun k hk => by simp at hk⟩
      obtain ⟨cs', c1, c2⟩ := fill_sound _ _ _ _ _ _ _ hp hz0 hg
      refine fin ?_ c2
      simp only [Instr.buildSlice, run_underlying q1, sizeOf, typeInfo, q2, newRow, q3, Nat.zero_mul, Sem.run_bind, Sem.run_pure, Result.andThen_ok, run_program, gt_iff_lt, Nat.not_lt_zero, if_false, if_true]
      have hemp : Array.map (fun x => (#[] : Array Value)[x % (#[] : Array Value).size]!) (Array.range 0) = #[] := Array.eq_empty_of_size_eq_zero (by simp)
      simp only [hemp, c1, Sem.run_bind, Sem.run_pure, Result.andThen_ok, run_newObj_alloc]
    have hz0 : CellsR w (Xo X0 E H) E (len * te.2.1) (fun k => zeroF z (k % z.length)) ((Array.range (len * te.2.1)).map (v.cells[· % v.cells.size]!)) := by
      refine ⟨by simp, fun k hk => ?_⟩
      rw [getD_map_range hk, getBang (Nat.mod_lt _ (by omega)), hvs]
      have := h5 (k % z.length) (Nat.mod_lt _ (by omega))
      rw [← h3, toList_getD] at this
      rw [← h3] at *
      refine ⟨this, ?_⟩
      show R _ _ _ (ofV (v.cells.toList.getD (k % v.cells.toList.length) undef)) _
      rw [toList_getD]
      exact ofV_sound _
    obtain ⟨cs', c1, c2⟩ := fill_sound _ _ _ _ _ _ _ hp hz0 hg
    have hno : ¬ (len * i.size > 2 ^ 24) := by rw [q3]; omega
    have hrun : (Instr.buildSlice t len vs).run P w = .ok (.slice (some ⟨w.heap.size, 0, none⟩) len len) (w.alloc (.cells cs' te.1)) := by
      have hpos2 : 0 < len * te.2.1 := Nat.mul_pos (by omega) hpos
      have hne : ¬ (len = 0 ∨ te.2.1 = 0) := by omega
      have hne' : ¬ (len * te.2.1 = 0) := by omega
      have hno' : ¬ (16777216 < len * te.2.1) := by omega
      simp only [Instr.buildSlice, run_underlying q1, sizeOf, typeInfo, zeroValue, q2, newRow, q3, h2, c1, hne', hno', Sem.run_bind, Sem.run_pure, Result.andThen_ok, run_program, gt_iff_lt, if_false, Sem.run_ite, run_newObj_alloc, Nat.reducePow]
    exact fin hrun c2
end Go.Proofs.YthappngbapbkfaaDoor.Sx
/- The evaluation tells the truth: addresses, parts, slices, arithmetic. -/
namespace Go.Proofs.YthappngbapbkfaaDoor.Sx
open Go.RowKit
theorem up {w X E sv v} (h : R w X E0 sv v) : R w X E sv v := h.mono (fun _ _ _ => rfl) (Within.refl _ _) (Env.E0_le E)
theorem tfld_spec {P : Program} {t : TypeId} {f : Nat} {fd : Nat × Nat × Bool} (h : tfld P t f = some fd) :
    ∃ fs x, P.underlying t = some (.struct fs) ∧ fs[f]? = some x ∧ x.offset = fd.1 ∧ tinf P x.type = some (fd.2.1, fd.2.2) := by
  unfold tfld at h
  cases hd : P.underlying t with
  | none => simp [hd] at h
  | some d =>
    cases d <;> simp only [hd, reduceCtorEq] at h
    rename_i fs
    cases hf : fs[f]? with
    | none => simp [hf] at h
    | some x =>
      cases hi : tinf P x.type with
      | none => simp [hf, hi] at h
      | some q =>
        simp only [hf, hi, Option.some.injEq] at h
        subst h
        exact ⟨fs, x, rfl, hf, rfl, hi⟩
theorem R_ref_sub {w X E n g b o m k} (h : R w X E (.ref n g) (.pointer (some ⟨b, o, none⟩))) (hm : m + k ≤ n) : R w X E (.ref k (fun j => g (m + j))) (.pointer (some ⟨b, o + m, none⟩)) := by
  cases h with
  | ref hb hX hc ho hr =>
    refine .ref hb hX (by omega) (fun j hj => ?_) fun j hj => ?_
    · have := ho (m + j) (by omega); rwa [← Nat.add_assoc] at this
    · have := hr (m + j) (by omega); rwa [← Nat.add_assoc] at this
theorem evFieldAddr_sound {P : Program} {w0 X0 H E w nm} (h : Rep w0 X0 H E w) {t : TypeId} {f : Nat} {fd : Nat × Nat × Bool} (ht : tfld P t f = some fd) {x : SV} {v : Value} (hx : R w (Xo X0 E H) E x v) {y : Yd}
    (hy : evFieldAddr fd x = some y) : ∃ u w', (Instr.fieldAt t v f).run P w = .ok u w' ∧ Goes w0 X0 H E w nm y.eff y.val u w' := by
  obtain ⟨fs, fx, h1, h2, h3, h4⟩ := tfld_spec ht
  have hsz := (tinf_spec h4 w).2
  have fin : ∀ {b o : Nat}, v = .pointer (some ⟨b, o, none⟩) → fd.2.1 ≠ 0 → y.eff = .keep → R w (Xo X0 E H) E y.val (.pointer (some ⟨b, o + fd.1, none⟩)) →
      ∃ u w', (Instr.fieldAt t v f).run P w = .ok u w' ∧ Goes w0 X0 H E w nm y.eff y.val u w' := by
    intro b o hv hne he hr
    subst hv
    refine ⟨.pointer (some ⟨b, o + fd.1, none⟩), w, ?_, ?_⟩
    · simp only [Instr.fieldAt, Sem.run_bind, run_underlying h1, Result.andThen_ok, h2, Instr.sureAddr, Sem.run_pure, fieldPlace, hsz, hne, if_false, addr_add, h3]
    · rw [he]; exact Goes.pure h hr
  cases hx with
  | own he =>
    simp only [evFieldAddr] at hy
    split at hy
    · cases hy
    · cases hy; exact fin rfl ‹_› rfl (.own he)
  | ref hb hX hc ho hr =>
    simp only [evFieldAddr] at hy
    split at hy
    · cases hy
    · rename_i hne
      cases hy
      exact fin rfl (by omega) rfl (R_ref_sub (.ref hb hX hc ho hr) (by omega))
  | ownAt he =>
    simp only [evFieldAddr] at hy
    split at hy
    · cases hy
    · cases hy; refine fin rfl ‹_› rfl ?_; rw [Nat.add_assoc]; exact .ownAt he
  | ownAtOld he hl hv =>
    obtain ⟨b, o, rfl⟩ := hv
    simp only [evFieldAddr] at hy
    split at hy
    · cases hy
    · cases hy; exact fin rfl ‹_› rfl (.ownAtOld he hl ⟨_, _, rfl⟩)
  | _ => simp [evFieldAddr] at hy
theorem evIndexAddrS_sound {P : Program} {w0 X0 H E w nm} (h : Rep w0 X0 H E w) {t : TypeId} {te : TypeId × Nat × Nat} (ht : tsl P t = some te) {x : SV} {v : Value} (hx : R w (Xo X0 E H) E x v) {k : IntKind} {i : Int} {y : Yd}
    (hy : evIndexAddrS te.2.1 H i x = some y) (hask : y.ask) : ∃ u w', (Instr.indexAt t v (.int k i)).run P w = .ok u w' ∧ Goes w0 X0 H E w nm y.eff y.val u w' := by
  obtain ⟨ti, h1, h2, h3, h4⟩ := tsl_spec ht
  have hsz : (sizeOf te.1).run P w = .ok te.2.1 w := by simp [sizeOf, typeInfo, h2, h3]
  have fin : ∀ {b o len cap : Nat}, v = .slice (some ⟨b, o, none⟩) len cap → inLen i len → y.eff = .keep → R w (Xo X0 E H) E y.val (.pointer (some ⟨b, o + i.toNat * te.2.1, none⟩)) →
      ∃ u w', (Instr.indexAt t v (.int k i)).run P w = .ok u w' ∧ Goes w0 X0 H E w nm y.eff y.val u w' := by
    intro b o len cap hv hin he hr
    subst hv
    refine ⟨.pointer (some ⟨b, o + i.toNat * te.2.1, none⟩), w, ?_, ?_⟩
    · simp only [Instr.indexAt, asIntOf, Sem.run_bind, Sem.run_pure, run_underlying h1, Result.andThen_ok, hsz, addr_add, Sem.run_ite, if_pos (show 0 ≤ i ∧ i < (len : Int) from hin)]
    · rw [he]; exact Goes.pure h hr
  have onSl : ∀ {E' : Env} {len n : Nat} {g : Nat → Nat → SV}, R w (Xo X0 E H) E' (.sl len n g) v → n = te.2.1 → y = ⟨Ask (inLen i len), .ref n (g i.toNat), .keep⟩ →
      ∃ u w', (Instr.indexAt t v (.int k i)).run P w = .ok u w' ∧ Goes w0 X0 H E w nm y.eff y.val u w' := by
    intro E' len n g hr hn hyy
    subst hyy
    have hin : inLen i len := hask.out
    have hlt : i.toNat < len := by have := hin.1; have := hin.2; omega
    cases hr with
    | sl0 => omega
    | sl hb hX hc hl ho hr =>
      rename_i b o cap c T fr
      subst hn
      refine fin rfl hin rfl ?_
      have hle : (i.toNat + 1) * te.2.1 ≤ len * te.2.1 := Nat.mul_le_mul_right _ hlt
      rw [Nat.add_mul] at hle
      exact .ref hb hX (by omega) (fun j hj => ho _ _ hlt hj) fun j hj => hr _ _ hlt hj
  cases hx with
  | sl0 =>
    simp only [evIndexAddrS] at hy
    obtain ⟨hn, rfl⟩ := ite_some hy
    have := hask.out.1
    have := hask.out.2
    omega
  | sl hb hX hc hl ho hr =>
    simp only [evIndexAddrS] at hy
    obtain ⟨hn, rfl⟩ := ite_some hy
    exact onSl (.sl (E := E0) hb hX hc hl ho hr) hn rfl
  | slP hb hX hc hl ho hr =>
    rename_i n g b o cap c T fr
    simp only [evIndexAddrS] at hy
    obtain ⟨hn, rfl⟩ := ite_some hy
    have hin : inLen i n := hask.out
    have hlt : i.toNat < n := by have := hin.1; have := hin.2; omega
    refine fin rfl hin rfl ?_
    rw [hn, Nat.mul_one]
    exact .refP hb hX (by omega) (ho _ hlt) (hr _ hlt)
  | osl he hv =>
    rename_i k' ver us
    have hok := h.ok k' _ he
    simp only [evIndexAddrS] at hy
    generalize H.getD k' .dead = so at hy hok
    cases so <;> simp only [reduceCtorEq] at hy
    · rename_i ver' len n g T
      obtain ⟨⟨rfl, hn⟩, rfl⟩ := ite_some hy
      obtain ⟨_, xs, h5, _⟩ := hok
      have hin : inLen i len := hask.out
      rcases h5 with ⟨a, rfl, rfl, rfl⟩ | ⟨b', cap', cur, rfl, c1, c2, c3, c4, c5, c6⟩
      · have := hin.1; have := hin.2; omega
      · refine fin rfl hin rfl ?_
        rw [Nat.zero_add, ← hn]
        exact .ownAt (off := 0) he
    · rename_i ver' len n g
      obtain ⟨⟨rfl, hn⟩, rfl⟩ := ite_some hy
      exact onSl hok.2 hn rfl
    · rename_i ver' len n c mm p g T T' ho
      obtain ⟨⟨rfl, hn⟩, rfl⟩ := ite_some hy
      obtain ⟨_, xs, d⟩ := hok
      have hin : inLen i len := hask.out
      rcases d.own with ⟨a, rfl, rfl, rfl⟩ | ⟨b', cap', cur, rfl, c1, c2, c3, c4, c5, c6⟩
      · have := hin.1; have := hin.2; omega
      · refine fin rfl hin rfl ?_
        rw [Nat.zero_add, ← hn]
        exact .ownAt (off := 0) he
  | oslOld he hl hv =>
    rename_i k' ver ver' v' us
    have hok := h.ok k' _ he
    simp only [evIndexAddrS] at hy
    generalize H.getD k' .dead = so at hy hok
    cases so <;> simp only [reduceCtorEq] at hy
    · obtain ⟨⟨rfl, hn⟩, rfl⟩ := ite_some hy
      have := hok.1
      omega
    · obtain ⟨⟨rfl, hn⟩, rfl⟩ := ite_some hy
      have := hok.1
      omega
    · obtain ⟨⟨rfl, hn⟩, rfl⟩ := ite_some hy
      have := hok.1
      omega
  | win he hl ha h0 =>
    rename_i k' ver m lo l a a0 len0 cap0 us
    have hok := h.ok k' _ he
    simp only [evIndexAddrS] at hy
    generalize H.getD k' .dead = so at hy hok
    cases so <;> simp only [reduceCtorEq] at hy
    rename_i ver' len n g T
    obtain ⟨⟨⟨rfl, rfl⟩, hn⟩, rfl⟩ := ite_some hy
    obtain ⟨_, xs, h5, _⟩ := hok
    have hin : inLen i l := hask.out
    have hl0 : l ≠ 0 := by have := hin.1; have := hin.2; omega
    rcases h5 with ⟨a', hv', rfl, rfl⟩ | ⟨b', cap', cur, hv', c1, c2, c3, c4, c5, c6⟩
    · cases hv'; omega
    · cases hv'
      have hadd : a = some ⟨b', 0 + lo * m, none⟩ := by rw [ha hl0, Option.map_some]; exact congrArg some (addr_add b' 0 _)
      subst hadd
      refine fin rfl hin rfl ?_
      rw [← hn, Nat.zero_add, ← Nat.add_mul]
      exact .ownAt (off := 0) he
  | winOld he hl hv =>
    rename_i k' ver ver' v' m lo l us
    have hok := h.ok k' _ he
    simp only [evIndexAddrS] at hy
    generalize H.getD k' .dead = so at hy hok
    cases so <;> simp only [reduceCtorEq] at hy
    obtain ⟨⟨⟨rfl, rfl⟩, hn⟩, rfl⟩ := ite_some hy
    have := hok.1
    omega
  | _ => simp [evIndexAddrS] at hy
theorem evIndexAddrA_sound {P : Program} {w0 X0 H E w nm} (h : Rep w0 X0 H E w) {t : TypeId} {ai : Nat × Nat × Bool} (ht : tarr P t = some ai) {x : SV} {v : Value} (hx : R w (Xo X0 E H) E x v) {k : IntKind} {i : Int} {y : Yd}
    (hy : evIndexAddrA ai.1 ai.2.1 i x = some y) (hask : y.ask) : ∃ u w', (Instr.indexAt t v (.int k i)).run P w = .ok u w' ∧ Goes w0 X0 H E w nm y.eff y.val u w' := by
  obtain ⟨len, es, ag⟩ := ai
  obtain ⟨e, ti, h1, h2, h3, h4⟩ := tarr_spec ht
  have hsz : (sizeOf e).run P w = .ok es w := (tinf_spec h2 w).2
  have fin : ∀ {b o : Nat}, v = .pointer (some ⟨b, o, none⟩) → inLen i len → y.eff = .keep → R w (Xo X0 E H) E y.val (.pointer (some ⟨b, o + i.toNat * es, none⟩)) →
      ∃ u w', (Instr.indexAt t v (.int k i)).run P w = .ok u w' ∧ Goes w0 X0 H E w nm y.eff y.val u w' := by
    intro b o hv hin he hr
    subst hv
    refine ⟨.pointer (some ⟨b, o + i.toNat * es, none⟩), w, ?_, ?_⟩
    · simp only [Instr.indexAt, asIntOf, Sem.run_bind, Sem.run_pure, run_underlying h1, Result.andThen_ok, Instr.sureAddr, hsz, addr_add, Sem.run_ite, if_pos (show 0 ≤ i ∧ i < (len : Int) from hin)]
    · rw [he]; exact Goes.pure h hr
  cases hx with
  | own he =>
    simp only [evIndexAddrA, Option.some.injEq] at hy
    subst hy
    exact fin rfl hask.out rfl (.own he)
  | ref hb hX hc ho hr =>
    rename_i n g b o c T fr
    simp only [evIndexAddrA] at hy
    obtain ⟨hle, rfl⟩ := ite_some hy
    have hin : inLen i len := hask.out
    have hlt : i.toNat < len := by have := hin.1; have := hin.2; omega
    have hle2 : (i.toNat + 1) * es ≤ len * es := Nat.mul_le_mul_right _ hlt
    rw [Nat.add_mul] at hle2
    exact fin rfl hin rfl (R_ref_sub (.ref hb hX hc ho hr) (by omega))
  | ownAt he =>
    simp only [evIndexAddrA, Option.some.injEq] at hy
    subst hy
    refine fin rfl hask.out rfl ?_
    rw [Nat.add_assoc]
    exact .ownAt he
  | ownAtOld he hl hv =>
    obtain ⟨b, o, rfl⟩ := hv
    simp only [evIndexAddrA, Option.some.injEq] at hy
    subst hy
    exact fin rfl hask.out rfl (.ownAtOld he hl ⟨_, _, rfl⟩)
  | _ => simp [evIndexAddrA] at hy
/-- A part of an aggregate. -/
theorem run_part {P : Program} {w X E} {t : TypeId} {ti : Nat × Bool} (ht : tinf P t = some ti) {n off : Nat} {g : Nat → SV} {cs : Array Value} {s : SV} (hs : cs.size = n)
    (ho : ∀ i, i < n → oneCell (cs.getD i undef)) (h : ∀ i, i < n → R w X E (g i) (cs.getD i undef)) (hl : ld ti n g off = some s) :
    ∃ v, (Go.part t cs off).run P w = .ok v w ∧ R w X E s v := by
  obtain ⟨m, a⟩ := ti
  obtain ⟨h1, h2⟩ := tinf_spec ht w
  cases a with
  | true =>
    simp only [ld, if_true] at hl
    obtain ⟨hle, rfl⟩ := ite_some hl
    have hg : ∀ i, i < m → (cs.extract off (off + m)).getD i undef = cs.getD (off + i) undef := fun i hi => by
      rw [Array.getD_eq_getD_getElem?, Array.getElem?_extract, if_pos (by omega), Array.getD_eq_getD_getElem?]
    refine ⟨.agg (cs.extract off (off + m)), by simp [Go.part, h1, h2], .agg (by rw [Array.size_extract]; omega) (fun i hi => ?_) fun i hi => ?_⟩
    · rw [hg i hi]; exact ho _ (by omega)
    · rw [hg i hi]; exact h _ (by omega)
  | false =>
    simp only [ld, Bool.false_eq_true, if_false] at hl
    obtain ⟨hle, rfl⟩ := ite_some hl
    refine ⟨cs.getD off undef, ?_, h _ hle⟩
    have : cs[off]? = some (cs.getD off undef) := by rw [Array.getD_eq_getD_getElem?, Array.getElem?_eq_getElem (by omega)]; rfl
    simp only [Go.part, Sem.run_bind, h1, Result.andThen_ok, this, Bool.false_eq_true, if_false, Sem.run_pure]
theorem tstr_spec {P : Program} {t : TypeId} (h : tstr P t = true) : P.underlying t = some .string := by
  unfold tstr at h
  split at h
  · assumption
  · cases h
theorem evIndexB_sound {P : Program} {w0 X0 H E w nm} (h : Rep w0 X0 H E w) {t : TypeId} (ht : tstr P t = true) {x : SV} {v : Value} (hx : R w (Xo X0 E H) E x v) {k : IntKind} {i : Int} {y : Yd}
    (hy : evIndexB i x = some y) (hask : y.ask) : ∃ u w', (Instr.index t v (.int k i)).run P w = .ok u w' ∧ Goes w0 X0 H E w nm y.eff y.val u w' := by
  have hu := tstr_spec ht
  cases hx with
  | str =>
    rename_i s
    simp only [evIndexB, Option.some.injEq] at hy
    subst hy
    have hin : inLen i s.size := hask.out
    have hlt : i.toNat < s.size := by have := hin.1; have := hin.2; omega
    refine ⟨.int .u8 (byteAt s i.toNat), w, ?_, Goes.pure h .int⟩
    rw [run_index_string w t s k i hu, dif_pos ⟨hin.1, hin.2⟩]
    have e : s.data.getD i.toNat 0 = s[i.toNat]'hlt := by
      show s.data.getD i.toNat 0 = s.data[i.toNat]'hlt
      rw [Array.getD_eq_getD_getElem?, Array.getElem?_eq_getElem hlt]; rfl
    unfold byteAt
    rw [e]
  | _ => simp [evIndexB] at hy
theorem evIndex_sound {P : Program} {w0 X0 H E w nm} (h : Rep w0 X0 H E w) {t : TypeId} {ai : Nat × Nat × Bool} (ht : tarr P t = some ai) {x : SV} {v : Value} (hx : R w (Xo X0 E H) E x v) {k : IntKind} {i : Int} {y : Yd}
    (hy : evIndex ai i x = some y) (hask : y.ask) : ∃ u w', (Instr.index t v (.int k i)).run P w = .ok u w' ∧ Goes w0 X0 H E w nm y.eff y.val u w' := by
  obtain ⟨len, es, ag⟩ := ai
  obtain ⟨e, ti, h1, h2, h3, h4⟩ := tarr_spec ht
  have hsz : (sizeOf e).run P w = .ok es w := (tinf_spec h2 w).2
  cases hx with
  | agg hs ho hr =>
    rename_i n g vs
    have hy0 : (if n = len * es then (if ag = true then some (Yd.mk (Ask (inLen i len)) (.agg es (fun j => g (i.toNat * es + j))) .keep) else if es = 1 then some ⟨Ask (inLen i len), g i.toNat, .keep⟩ else none) else none) = some y := hy
    clear hy
    by_cases hn : n = len * es
    case neg => rw [if_neg hn] at hy0; cases hy0
    rw [if_pos hn] at hy0
    have key : ∀ s, inLen i len → ld (es, ag) n g (i.toNat * es) = some s → ∃ u w', (Instr.index t (.agg vs) (.int k i)).run P w = .ok u w' ∧ Goes w0 X0 H E w nm .keep s u w' := by
      intro s hin hl
      obtain ⟨u, hu, hr'⟩ := run_part (P := P) h2 hs ho hr hl
      refine ⟨u, w, ?_, Goes.pure h hr'⟩
      simp only [Instr.index, asIntOf, Sem.run_bind, Sem.run_pure, run_underlying h1, Result.andThen_ok, Sem.run_ite, if_pos (show 0 ≤ i ∧ i < (len : Int) from hin), hsz, hu]
    by_cases hag : ag = true
    · rw [if_pos hag] at hy0
      subst hag
      cases hy0
      have hin : inLen i len := hask.out
      have hlt : i.toNat < len := by have := hin.1; have := hin.2; omega
      have hle2 : (i.toNat + 1) * es ≤ len * es := Nat.mul_le_mul_right _ hlt
      rw [Nat.add_mul] at hle2
      exact key _ hin (by simp only [ld, if_true]; rw [if_pos (by omega)])
    · rw [if_neg hag] at hy0
      obtain ⟨hes, rfl⟩ := ite_some hy0
      have hin : inLen i len := hask.out
      have hlt : i.toNat < len := by have := hin.1; have := hin.2; omega
      subst hes
      have : ag = false := by simpa using hag
      subst this
      exact key _ hin (by simp only [ld, Bool.false_eq_true, if_false, Nat.mul_one]; rw [if_pos (by omega)])
  | _ => simp [evIndex] at hy
theorem evField_sound {P : Program} {w0 X0 H E w nm} (h : Rep w0 X0 H E w) {t : TypeId} {f : Nat} {fd : Nat × Nat × Bool} (ht : tfld P t f = some fd) {x : SV} {v : Value} (hx : R w (Xo X0 E H) E x v) {y : Yd}
    (hy : evField fd x = some y) : ∃ u w', (Instr.field t v f).run P w = .ok u w' ∧ Goes w0 X0 H E w nm y.eff y.val u w' := by
  obtain ⟨fs, fx, h1, h2, h3, h4⟩ := tfld_spec ht
  cases hx with
  | agg hs ho hr =>
    rename_i n g vs
    simp only [evField] at hy
    cases hl : ld (fd.2.1, fd.2.2) n g fd.1 with
    | none => simp [hl] at hy
    | some s =>
      simp only [hl, Option.map_some, Option.some.injEq] at hy
      subst hy
      obtain ⟨u, hu, hr'⟩ := run_part (P := P) h4 hs ho hr hl
      refine ⟨u, w, ?_, Goes.pure h hr'⟩
      simp only [Instr.field, Sem.run_bind, run_underlying h1, Result.andThen_ok, h2, asAgg, Sem.run_pure, h3, hu]
  | _ => simp [evField] at hy
theorem evExtract_sound {P : Program} {w0 X0 H E w nm} (h : Rep w0 X0 H E w) {i : Nat} {x : SV} {v : Value} (hx : R w (Xo X0 E H) E x v) {y : Yd}
    (hy : evExtract i x = some y) : ∃ u w', (Instr.extract v i).run P w = .ok u w' ∧ Goes w0 X0 H E w nm y.eff y.val u w' := by
  cases hx with
  | tup hs hr =>
    rename_i n g vs
    simp only [evExtract] at hy
    obtain ⟨hlt, rfl⟩ := ite_some hy
    have : vs[i]? = some (vs.getD i undef) := by rw [Array.getD_eq_getD_getElem?, Array.getElem?_eq_getElem (by omega)]; rfl
    exact ⟨_, w, by simp only [Instr.extract, this, Sem.run_pure], Goes.pure h (hr i hlt)⟩
  | _ => simp [evExtract] at hy
theorem wrap_fit {k : IntKind} {n : Int} (h : inK k n) : k.wrap n = fitK k n := by
  cases k <;> first | rfl | exact IntWalk.i64_in n h
theorem beq_eq_decide (a b : Int) : (a == b) = decide (a = b) := by by_cases h : a = b <;> simp [h]
theorem bne_eq_decide (a b : Int) : (a != b) = decide (a ≠ b) := by by_cases h : a = b <;> simp [h]
/-- Aggregates of type t with n cells compare cell by cell. -/
def EqOK (P : Program) (t : TypeId) (n : List CK) : Prop := ∀ (w : World) (X : Nat → Prop) (E : Env) (g f : Nat → SV) (xs ys : Array Value) (b : Bool), xs.size = n.length → ys.size = n.length → eqCells g f n 0 = some b →
  (∀ i, i < n.length → R w X E (g i) (xs.getD i undef)) → (∀ i, i < n.length → R w X E (f i) (ys.getD i undef)) →
  ∀ x y, (eqGuard .eql t x y (.agg xs) (.agg ys)).run P w = .ok () w ∧ (eqGuard .neq t x y (.agg xs) (.agg ys)).run P w = .ok () w ∧ (Op.equalIn 10000 t (.agg xs) (.agg ys)).run P w = .ok b w
theorem evEqB_sound {P : Program} {w0 X0 H E w nm} (h : Rep w0 X0 H E w) {op : BinOp} {t : TypeId} {xo yo : Operand} {v u : Value} {b : Bool} {y : Yd} (hy : evEqB op b = some y)
    (g1 : (eqGuard .eql t xo yo v u).run P w = .ok () w) (g2 : (eqGuard .neq t xo yo v u).run P w = .ok () w)
    (e1 : (binOp .eql t v u).run P w = .ok (.bool b) w) (e2 : (binOp .neq t v u).run P w = .ok (.bool !b) w) :
    ∃ r w', (do eqGuard op t xo yo v u; binOp op t v u : Sem Value).run P w = .ok r w' ∧ Goes w0 X0 H E w nm y.eff y.val r w' := by
  cases op <;> simp only [evEqB, pureY, Option.some.injEq, reduceCtorEq] at hy <;> subst hy
  · exact ⟨_, w, by simp only [Sem.run_bind, g1, Result.andThen_ok, e1], Goes.pure h .bool⟩
  · exact ⟨_, w, by simp only [Sem.run_bind, g2, Result.andThen_ok, e2], Goes.pure h .bool⟩
theorem equal_func_nil {P : Program} (w : World) (d : Nat) (t : TypeId) {a b c} (h : P.underlying t = some (.func a b c)) (f : Fn) (x y : Array Value) : (Op.equalIn (d + 1) t (.func f x y) .nilFunc).run P w = .ok false w := by
  simp only [Op.equalIn, Sem.run_bind, run_underlying h, Result.andThen_ok, Sem.run_pure]
theorem equal_nil_nil {P : Program} (w : World) (d : Nat) (t : TypeId) {a b c} (h : P.underlying t = some (.func a b c)) : (Op.equalIn (d + 1) t .nilFunc .nilFunc).run P w = .ok true w := by
  simp only [Op.equalIn, Sem.run_bind, run_underlying h, Result.andThen_ok, Sem.run_pure]
theorem bin_func_nil {P : Program} (w : World) (t : TypeId) {a b c} (h : P.underlying t = some (.func a b c)) (f : Fn) (x y : Array Value) :
    (binOp .eql t (.func f x y) .nilFunc).run P w = .ok (.bool false) w ∧ (binOp .neq t (.func f x y) .nilFunc).run P w = .ok (.bool !false) w := by
  constructor <;> simp only [binOp] <;> simp [Op.equal, Op.maxDepth, equal_func_nil w 9999 t h]
theorem bin_nil_nil {P : Program} (w : World) (t : TypeId) {a b c} (h : P.underlying t = some (.func a b c)) :
    (binOp .eql t .nilFunc .nilFunc).run P w = .ok (.bool true) w ∧ (binOp .neq t .nilFunc .nilFunc).run P w = .ok (.bool !true) w := by
  constructor <;> simp only [binOp] <;> simp [Op.equal, Op.maxDepth, equal_nil_nil w 9999 t h]
theorem asB_inv {w X E s b v} (hs : asB s = some b) (h : R w X E s v) : v = .bool b := by
  cases h <;> simp only [asB, Option.some.injEq, reduceCtorEq] at hs
  · subst hs; rfl
  · subst hs; rfl
theorem findE_mem : ∀ {eqs : List (TypeId × List CK)} {t : TypeId} {ks : List CK}, findE eqs t = some ks → (t, ks) ∈ eqs
  | [], t, ks, h => by cases h
  | (u, l) :: r, t, ks, h => by
    simp only [findE] at h
    split at h
    · rename_i hu; cases h; subst hu; exact List.mem_cons_self
    · exact List.mem_cons_of_mem _ (findE_mem h)
theorem ev2_sound {P : Program} {w0 X0 H E w nm} (h : Rep w0 X0 H E w) {op : BinOp} {eqs : List (TypeId × List CK)} (heqs : ∀ t n, (t, n) ∈ eqs → EqOK P t n)
    {t : TypeId} {xo yo : Operand} {x z : SV} {v u : Value} (hx : R w (Xo X0 E H) E x v) (hz : R w (Xo X0 E H) E z u) {y : Yd}
    (hy : ev2 op eqs (tbool P t) (tfunc P t) t x z = some y) (hask : y.ask) : ∃ r w', (do eqGuard op t xo yo v u; binOp op t v u : Sem Value).run P w = .ok r w' ∧ Goes w0 X0 H E w nm y.eff y.val r w' := by
  have bools : ∀ {a : Bool} {s : SV}, asB s = some a → v = .bool a → (ev2 op eqs (tbool P t) (tfunc P t) t s z = match asB s, asB z with | some a, some b => if tbool P t = true then evEqB op (a == b) else none | _, _ => none) → ev2 op eqs (tbool P t) (tfunc P t) t s z = some y →
      ∃ r w', (do eqGuard op t xo yo v u; binOp op t v u : Sem Value).run P w = .ok r w' ∧ Goes w0 X0 H E w nm y.eff y.val r w' := by
    intro a s ha hv heq hy
    subst hv
    rw [heq, ha] at hy
    cases hb : asB z with
    | none => rw [hb] at hy; cases hy
    | some b =>
      rw [hb] at hy
      have hu := asB_inv hb hz
      subst hu
      by_cases hbb : tbool P t = true
      · simp only [if_pos hbb] at hy
        have hu : P.underlying t = some .bool := by
          unfold tbool at hbb
          split at hbb
          · assumption
          · cases hbb
        exact evEqB_sound h hy (by rw [eqGuard_at_bool]; rfl) (by rw [eqGuard_at_bool]; rfl) (run_eql_bool w t a b hu) (run_neq_bool w t a b hu)
      · simp only [if_neg hbb] at hy; cases hy
  cases hx with
  | int =>
    rename_i k a
    cases hz with
    | int =>
      rename_i k' b
      have hy0 : (if isSh op = true then shI op k a b else if k = k' then binI op k a b else none) = some y := hy
      clear hy
      by_cases hsh : isSh op = true
      · rw [if_pos hsh] at hy0
        cases op <;> simp only [isSh, Bool.false_eq_true] at hsh
        · simp only [shI, Option.some.injEq] at hy0
          subst hy0
          obtain ⟨⟨a1, a2⟩, a3⟩ := hask.out
          refine ⟨_, w, ?_, Goes.pure h .int⟩
          simp only [eqGuard_at_int, Sem.run_bind, Sem.run_pure, Result.andThen_ok, binOp_shl, shift_shl k k' a b a1 a2, wrap_fit a3]
        · simp only [shI, Option.some.injEq] at hy0
          subst hy0
          obtain ⟨a1, a2⟩ := hask.out
          refine ⟨_, w, ?_, Goes.pure h .int⟩
          simp only [eqGuard_at_int, Sem.run_bind, Sem.run_pure, Result.andThen_ok, binOp_shr, shift_shr k k' a b a1 a2]
      · rw [if_neg hsh] at hy0
        by_cases hk : k = k'
        · rw [if_pos hk] at hy0
          subst hk
          have go : ∀ {sv : SV} {r : Value}, y.eff = .keep → y.val = sv → (binOp op t (.int k a) (.int k b)).run P w = .ok r w → R w (Xo X0 E H) E sv r →
              ∃ r w', (do eqGuard op t xo yo (.int k a) (.int k b); binOp op t (.int k a) (.int k b) : Sem Value).run P w = .ok r w' ∧ Goes w0 X0 H E w nm y.eff y.val r w' := by
            intro sv r he hv hr hR
            rw [he, hv]
            exact ⟨r, w, by simp only [eqGuard_at_int, Sem.run_bind, Sem.run_pure, Result.andThen_ok, hr], Goes.pure h hR⟩
          cases op <;> simp only [binI, pureY, Option.some.injEq, reduceCtorEq] at hy0 <;> (try (exact absurd rfl hsh)) <;> subst hy0
          · exact go rfl rfl (by rw [binOp_add]; simp only [Op.intArith, Sem.run_pure, wrap_fit hask.out]) .int
          · exact go rfl rfl (by rw [binOp_sub]; simp only [Op.intArith, Sem.run_pure, wrap_fit hask.out]) .int
          · exact go rfl rfl (by rw [binOp_mul]; simp only [Op.intArith, Sem.run_pure, wrap_fit hask.out]) .int
          · exact go rfl rfl (by rw [binOp_quo]; simp only [Op.intDiv, if_neg hask.out.1, Sem.run_pure, wrap_fit hask.out.2]) .int
          · exact go rfl rfl (by rw [binOp_rem]; have hne : b ≠ 0 := hask.out; simp only [Op.intDiv, if_neg hne, Sem.run_pure]) .int
          · exact go rfl rfl (by rw [binOp_and, intBits_and]; rfl) .int
          · exact go rfl rfl (by rw [binOp_or, intBits_or]; rfl) .int
          · exact go rfl rfl (by rw [binOp_xor, intBits_xor]; rfl) .int
          · exact go rfl rfl (by rw [binOp_andNot, intBits_andNot]; rfl) .int
          · exact go rfl rfl (by rw [binOp_eql]; rfl) (by rw [beq_eq_decide]; exact .bool)
          · exact go rfl rfl (by rw [binOp_neq]; rfl) (by rw [bne_eq_decide]; exact .bool)
          · exact go rfl rfl (by rw [binOp_lss]; rfl) .bool
          · exact go rfl rfl (by rw [binOp_leq]; rfl) .bool
          · exact go rfl rfl (by rw [binOp_gtr]; rfl) .bool
          · exact go rfl rfl (by rw [binOp_geq]; rfl) .bool
        · rw [if_neg hk] at hy0; cases hy0
    | _ => simp [ev2, asB] at hy
  | bool =>
    rename_i a
    exact bools (s := .bool a) rfl rfl rfl hy
  | lit =>
    rename_i a
    exact bools (s := .lit a) rfl rfl rfl hy
  | str =>
    rename_i a
    cases hz with
    | str =>
      rename_i b
      have hy0 : evEqB op (a.toList == b.toList) = some y := hy
      exact evEqB_sound h hy0 (by rw [eqGuard_at_string]; rfl) (by rw [eqGuard_at_string]; rfl) (by rw [binOp_string_eql]; rfl) (by rw [binOp_string_neq]; rfl)
    | _ => simp [ev2, asB] at hy
  | fn hs hr =>
    rename_i f n g vs
    cases hz with
    | nilfn =>
      have hy0 : (if tfunc P t = true then evEqB op false else none) = some y := hy
      by_cases hb : tfunc P t = true
      · rw [if_pos hb] at hy0
        have hu : ∃ a b c, P.underlying t = some (.func a b c) := by
          unfold tfunc at hb
          split at hb
          · exact ⟨_, _, _, by assumption⟩
          · cases hb
        obtain ⟨a, b, c, hu⟩ := hu
        exact evEqB_sound h hy0 (by rw [eqGuard_at_func]; rfl) (by rw [eqGuard_at_func]; rfl) (bin_func_nil w t hu _ _ _).1 (bin_func_nil w t hu _ _ _).2
      · rw [if_neg hb] at hy0; cases hy0
    | _ => simp [ev2, asB] at hy
  | nilfn =>
    cases hz with
    | nilfn =>
      have hy0 : (if tfunc P t = true then evEqB op true else none) = some y := hy
      by_cases hb : tfunc P t = true
      · rw [if_pos hb] at hy0
        have hu : ∃ a b c, P.underlying t = some (.func a b c) := by
          unfold tfunc at hb
          split at hb
          · exact ⟨_, _, _, by assumption⟩
          · cases hb
        obtain ⟨a, b, c, hu⟩ := hu
        exact evEqB_sound h hy0 (by rw [eqGuard_at_nilFunc]; rfl) (by rw [eqGuard_at_nilFunc]; rfl) (bin_nil_nil w t hu).1 (bin_nil_nil w t hu).2
      · rw [if_neg hb] at hy0; cases hy0
    | _ => simp [ev2, asB] at hy
  | agg hs ho hr =>
    rename_i n g vs
    cases hz with
    | agg hs' ho' hr' =>
      rename_i m f us
      have hy0 : (match findE eqs t with
        | some ks => if n = ks.length ∧ m = n then match eqCells g f ks 0 with | some b => evEqB op b | none => none else none
        | none => none) = some y := hy
      cases hfe : findE eqs t with
      | none => rw [hfe] at hy0; cases hy0
      | some ks =>
        rw [hfe] at hy0
        simp only at hy0
        by_cases hc : n = ks.length ∧ m = n
        · rw [if_pos hc] at hy0
          obtain ⟨rfl, rfl⟩ := hc
          cases hq : eqCells g f ks 0 with
          | none => rw [hq] at hy0; cases hy0
          | some b =>
            rw [hq] at hy0
            obtain ⟨g1, g2, g3⟩ := heqs t ks (findE_mem hfe) w _ E g f vs us b hs hs' hq hr hr' xo yo
            exact evEqB_sound h hy0 g1 g2 (by rw [run_eql_struct, g3]; rfl) (by rw [run_neq_struct, g3]; rfl)
        · rw [if_neg hc] at hy0; cases hy0
    | _ => simp [ev2, asB] at hy
  | _ => simp [ev2, asB] at hy
theorem evNilC_sound {P : Program} {w0 X0 H E w nm} (h : Rep w0 X0 H E w) {op : BinOp} {t : TypeId} {te : TypeId × Nat × Nat} (ht : tsl P t = some te) {xo yo : Operand} {x : SV} {v : Value} {n c : Nat} (hx : R w (Xo X0 E H) E x v) {y : Yd}
    (hy : evNilC op x = some y) : ∃ r w', (do eqGuard op t xo yo v (.slice none n c); binOp op t v (.slice none n c) : Sem Value).run P w = .ok r w' ∧ Goes w0 X0 H E w nm y.eff y.val r w' := by
  obtain ⟨ti, h1, _⟩ := tsl_spec ht
  have key : ∀ {a : Option Addr} {m k : Nat} {b : Bool}, a.isNone = b → (op = .eql ∧ y = ⟨True, .lit b, .keep⟩ ∨ op = .neq ∧ y = ⟨True, .lit (!b), .keep⟩) → v = .slice a m k →
      ∃ r w', (do eqGuard op t xo yo v (.slice none n c); binOp op t v (.slice none n c) : Sem Value).run P w = .ok r w' ∧ Goes w0 X0 H E w nm y.eff y.val r w' := by
    rintro a m k b hb (⟨rfl, rfl⟩ | ⟨rfl, rfl⟩) rfl
    · refine ⟨.bool b, w, ?_, Goes.pure h .lit⟩
      simp [eqGuard, binOp, Op.equal, Op.maxDepth, Lib.run_equalIn_slice_nil w 9999 t te.1 a m k n c h1, hb]
    · refine ⟨.bool (!b), w, ?_, Goes.pure h .lit⟩
      simp [eqGuard, binOp, Op.equal, Op.maxDepth, Lib.run_equalIn_slice_nil w 9999 t te.1 a m k n c h1, hb]
  cases hx with
  | nilsl => cases op <;> simp only [evNilC, pureY, reduceCtorEq, Option.some.injEq] at hy <;> subst hy <;> first | exact key (b := true) rfl (.inl ⟨rfl, rfl⟩) rfl | exact key (b := true) rfl (.inr ⟨rfl, rfl⟩) rfl
  | slN hr => cases op <;> simp only [evNilC, pureY, reduceCtorEq, Option.some.injEq] at hy <;> subst hy <;> first | exact key (b := false) rfl (.inl ⟨rfl, rfl⟩) rfl | exact key (b := false) rfl (.inr ⟨rfl, rfl⟩) rfl
  | _ => cases op <;> simp [evNilC] at hy
theorem ev1_sound {P : Program} {w0 X0 H E w nm} (h : Rep w0 X0 H E w) {op : UnOp} {x : SV} {v : Value} (hx : R w (Xo X0 E H) E x v) {y : Yd} (hy : ev1 op x = some y) (hask : y.ask) :
    ∃ r w', (Op.unary op v).run P w = .ok r w' ∧ Goes w0 X0 H E w nm y.eff y.val r w' := by
  cases hx with
  | int =>
    rename_i k n
    cases op <;> simp only [ev1, reduceCtorEq, Option.some.injEq] at hy
    subst hy
    exact ⟨_, w, by simp only [Op.unary, Op.intArith, Sem.run_pure, wrap_fit hask.out], Goes.pure h .int⟩
  | bool =>
    cases op <;> simp only [ev1, pureY, reduceCtorEq, Option.some.injEq] at hy
    subst hy
    exact ⟨_, w, by simp only [Op.unary, Sem.run_pure], Goes.pure h .bool⟩
  | lit =>
    cases op <;> simp only [ev1, pureY, reduceCtorEq, Option.some.injEq] at hy
    subst hy
    exact ⟨_, w, by simp only [Op.unary, Sem.run_pure], Goes.pure h .lit⟩
  | _ => cases op <;> simp [ev1] at hy
theorem evConvert_sound {P : Program} {w0 X0 H E w nm} (h : Rep w0 X0 H E w) {src dst : TypeId} {k : IntKind} (hs : tint P src ≠ none) (hd : tint P dst = some k) {x : SV} {v : Value} (hx : R w (Xo X0 E H) E x v) {y : Yd}
    (hy : evConvert k x = some y) (hask : y.ask) : ∃ r w', (convert src dst v).run P w = .ok r w' ∧ Goes w0 X0 H E w nm y.eff y.val r w' := by
  have hds : P.underlying dst = some (.int k) := by
    unfold tint at hd
    split at hd
    · rename_i k' he; cases hd; exact he
    · cases hd
  have hss : (P.underlying src).isSome = true := by
    unfold tint at hs
    split at hs
    · rename_i k' he; rw [he]; rfl
    · exact absurd rfl hs
  have hik : P.intKind dst = k := by unfold Program.intKind; rw [hds]
  cases hx with
  | int =>
    rename_i k' n
    simp only [evConvert, Option.some.injEq] at hy
    subst hy
    have := run_convert_int (P := P) w src dst k' n hss (by rw [hik]; exact hds)
    rw [hik] at this
    exact ⟨_, w, by rw [this, wrap_fit hask.out], Goes.pure h .int⟩
  | _ => simp [evConvert] at hy
end Go.Proofs.YthappngbapbkfaaDoor.Sx
/- The evaluation tells the truth: slices of slices, append, builtins, calls. -/
namespace Go.Proofs.YthappngbapbkfaaDoor.Sx
open Go.RowKit
/-- An index as the operand gives it. -/
def optV : Option (IntKind × Int) → Option Value
  | some (k, n) => some (.int k n)
  | none => none
def optI : Option (IntKind × Int) → Option Int
  | some (_, n) => some n
  | none => none
theorem run_sliceX {P : Program} {w : World} {t e : TypeId} {es len cap : Nat} {a : Option Addr} (ht : P.underlying t = some (.slice e)) (hs : (sizeOf e).run P w = .ok es w) (hlc : len ≤ cap)
    (lo hi mx : Option (IntKind × Int)) (hm : mx.isSome = true → hi.isSome = true) (hask : slAsk len (optI lo) (optI hi) (optI mx)) :
    ∃ m, (Instr.sliceAt t (.slice a len cap) (optV lo) (optV hi) (optV mx)).run P w = .ok (sliced a ((optI lo).getD 0).toNat ((optI hi).getD len).toNat m es) w ∧ ((optI hi).getD len).toNat ≤ m ∧ m ≤ cap := by
  obtain ⟨a1, a2, a3, a4⟩ := hask
  have hel : P.elem t = e := by unfold Program.elem; rw [ht]
  have ht' : P.underlying t = some (.slice (P.elem t)) := by rw [hel]; exact ht
  rw [← hel] at hs
  cases mx with
  | none =>
    refine ⟨cap, ?_, ?_, Nat.le_refl _⟩
    · rw [run_sliceAt_slice w t _ _ _ _ ht']
      cases lo with
      | none =>
        cases hi with
        | none =>
          simp only [optV, optI, Option.getD_none] at *
          rw [run_slice_all w t a len cap ht', hs]
          simp
        | some h =>
          obtain ⟨kh, h⟩ := h
          simp only [optV, optI, Option.getD_none, Option.getD_some] at *
          rw [run_slice_h w t a len cap ht' kh h (by omega) (by omega), hs]
          simp
      | some l =>
        obtain ⟨kl, l⟩ := l
        cases hi with
        | none =>
          simp only [optV, optI, Option.getD_none, Option.getD_some] at *
          rw [run_slice_l w t a len cap ht' kl l (by omega) (by omega), hs]
          simp
        | some h =>
          obtain ⟨kh, h⟩ := h
          simp only [optV, optI, Option.getD_none, Option.getD_some] at *
          rw [run_slice_lh w t a len cap ht' kl kh l h (by omega) (by omega) (by omega), hs]
          simp
    · have e : (optI (none : Option (IntKind × Int))).getD (len : Int) = len := rfl
      rw [e] at a3
      omega
  | some m =>
    obtain ⟨km, m⟩ := m
    cases hi with
    | none => cases hm rfl
    | some h =>
      obtain ⟨kh, h⟩ := h
      refine ⟨m.toNat, ?_, ?_, ?_⟩
      · rw [run_sliceAt_slice w t _ _ _ _ ht']
        cases lo with
        | none =>
          simp only [optV, optI, Option.getD_none, Option.getD_some] at *
          rw [run_slice_hm w t a len cap ht' kh km h m (by omega) (by omega) (by omega), hs]
          simp
        | some l =>
          obtain ⟨kl, l⟩ := l
          simp only [optV, optI, Option.getD_some] at *
          rw [run_slice_lhm w t a len cap ht' kl kh km l h m (by omega) (by omega) (by omega) (by omega), hs]
          simp
      · simp only [optI, Option.getD_some] at *
        omega
      · simp only [optI, Option.getD_some] at *
        omega
theorem run_sliceN {P : Program} {w : World} {t e : TypeId} {es len cap : Nat} {a : Option Addr} (ht : P.underlying t = some (.slice e)) (hs : (sizeOf e).run P w = .ok es w) (hlc : len ≤ cap)
    (lo hi : Option (IntKind × Int)) (hask : slAsk len (optI lo) (optI hi) none) :
    (Instr.sliceAt t (.slice a len cap) (optV lo) (optV hi) (optV none)).run P w = .ok (sliced a ((optI lo).getD 0).toNat ((optI hi).getD len).toNat cap es) w := by
  obtain ⟨a1, a2, a3, a4⟩ := hask
  have hel : P.elem t = e := by unfold Program.elem; rw [ht]
  have ht' : P.underlying t = some (.slice (P.elem t)) := by rw [hel]; exact ht
  rw [← hel] at hs
  rw [run_sliceAt_slice w t _ _ _ _ ht']
  cases lo with
  | none =>
    cases hi with
    | none =>
      simp only [optV, optI, Option.getD_none] at *
      rw [run_slice_all w t a len cap ht', hs]
      simp
    | some h =>
      obtain ⟨kh, h⟩ := h
      simp only [optV, optI, Option.getD_none, Option.getD_some] at *
      rw [run_slice_h w t a len cap ht' kh h (by omega) (by omega), hs]
      simp
  | some l =>
    obtain ⟨kl, l⟩ := l
    cases hi with
    | none =>
      simp only [optV, optI, Option.getD_none, Option.getD_some] at *
      rw [run_slice_l w t a len cap ht' kl l (by omega) (by omega), hs]
      simp
    | some h =>
      obtain ⟨kh, h⟩ := h
      simp only [optV, optI, Option.getD_none, Option.getD_some] at *
      rw [run_slice_lh w t a len cap ht' kl kh l h (by omega) (by omega) (by omega), hs]
      simp
theorem R_sliced {w X E E' len n g a cap l h m} (hr : R w X E (.sl len n g) (.slice a len cap)) (h1 : l ≤ h) (h2 : h ≤ len) (h3 : h ≤ m) (_ : m ≤ cap) : R w X E' (.sl (h - l) n (fun i j => g (l + i) j)) (sliced a l h m n) := by
  by_cases hl : l = h
  · subst hl
    simp only [Nat.sub_self, sliced]
    exact .sl0
  · have hne : m ≠ l := by omega
    unfold sliced
    rw [if_neg hne]
    cases hr with
    | sl0 => omega
    | sl hb hX hc hlc ho hr =>
      rename_i b o c T fr
      simp only [Option.map_some, addr_add]
      have e1 : ∀ i j, o + l * n + i * n + j = o + (l + i) * n + j := fun i j => by rw [Nat.add_mul]; omega
      have hle : h * n ≤ len * n := Nat.mul_le_mul_right _ h2
      have he : (h - l) * n = h * n - l * n := Nat.sub_mul _ _ _
      have hle2 : l * n ≤ h * n := Nat.mul_le_mul_right _ h1
      refine .sl hb hX (by omega) (by omega) (fun i j hi hj => ?_) fun i j hi hj => ?_
      · rw [e1]; exact ho _ _ (by omega) hj
      · rw [e1]; exact hr _ _ (by omega) hj
theorem R_sl_shape {w X E len n g v} (h : R w X E (.sl len n g) v) : ∃ a cap, v = .slice a len cap := by
  cases h with
  | sl0 => exact ⟨_, _, rfl⟩
  | sl => exact ⟨_, _, rfl⟩
/-- len ≤ cap, where it matters. -/
theorem R_sl_cap {w X E len n g a cap} (h : R w X E (.sl len n g) (.slice a len cap)) : len ≤ cap := by
  cases h with
  | sl0 => exact Nat.zero_le _
  | sl _ _ _ hl => exact hl
theorem evSlice_sound {P : Program} {w0 X0 H E w nm} (h : Rep w0 X0 H E w) {t : TypeId} {te : TypeId × Nat × Nat} (ht : tsl P t = some te) {x : SV} {v : Value} (hx : R w (Xo X0 E H) E x v)
    {lo hi mx : Option (IntKind × Int)} {y : Yd} (hy : evSlice te.2.1 H (optI lo) (optI hi) (optI mx) x = some y) (hask : y.ask) :
    ∃ u w', (Instr.sliceAt t v (optV lo) (optV hi) (optV mx)).run P w = .ok u w' ∧ Goes w0 X0 H E w nm y.eff y.val u w' := by
  obtain ⟨ti, h1, h2, h3, h4⟩ := tsl_spec ht
  have hsz : (sizeOf te.1).run P w = .ok te.2.1 w := by simp [sizeOf, typeInfo, h2, h3]
  have go : ∀ {E' : Env} {len n : Nat} {g : Nat → Nat → SV}, R w (Xo X0 E H) E' (.sl len n g) v → n = te.2.1 → ((optI mx).isSome = true → (optI hi).isSome = true) →
      y = ⟨Ask (slAsk len (optI lo) (optI hi) (optI mx)), .sl ((optI hi).getD len - (optI lo).getD 0).toNat n (fun i j => g (((optI lo).getD 0).toNat + i) j), .keep⟩ →
      ∃ u w', (Instr.sliceAt t v (optV lo) (optV hi) (optV mx)).run P w = .ok u w' ∧ Goes w0 X0 H E w nm y.eff y.val u w' := by
    intro E' len n g hr hn hm hyy
    subst hyy
    obtain ⟨a, cap, rfl⟩ := R_sl_shape hr
    have hask' : slAsk len (optI lo) (optI hi) (optI mx) := hask.out
    obtain ⟨m, hrun, hm1, hm2⟩ := run_sliceX (P := P) (w := w) (a := a) h1 hsz (R_sl_cap hr) lo hi mx (by cases mx <;> cases hi <;> simp_all [optI]) hask'
    obtain ⟨a1, a2, a3, a4⟩ := hask'
    refine ⟨_, w, hrun, Goes.pure h ?_⟩
    subst hn
    have := R_sliced (E' := E) hr (l := ((optI lo).getD 0).toNat) (h := ((optI hi).getD len).toNat) (m := m) (by omega) (by omega) hm1 hm2
    rwa [show ((optI hi).getD len - (optI lo).getD 0).toNat = ((optI hi).getD len).toNat - ((optI lo).getD 0).toNat by omega]
  -- a part of a slice of the call's own
  have own : ∀ {k ver lo0 len len0 cap : Nat} {a a0 : Option Addr} {us : Nat → Option Nat}, E k = some (.slc ver (.slice a0 len0 cap) us) → len0 ≤ cap → lo0 + len ≤ len0 → (len ≠ 0 → a = a0.map (·.add (lo0 * te.2.1))) → (lo0 = 0 → a = a0) → (cap ≠ 0 → ∃ b, a0 = some ⟨b, 0, none⟩) → (optI mx).isSome = false →
      y = ⟨Ask (slAsk len (optI lo) (optI hi) none), .win k ver te.2.1 (lo0 + ((optI lo).getD 0).toNat) ((optI hi).getD len - (optI lo).getD 0).toNat, .keep⟩ → v = .slice a len (cap - lo0) →
      ∃ u w', (Instr.sliceAt t v (optV lo) (optV hi) (optV mx)).run P w = .ok u w' ∧ Goes w0 X0 H E w nm y.eff y.val u w' := by
    intro k ver lo0 len len0 cap a a0 us he hlc hl0 ha h0 hadd hm hyy hv
    subst hyy
    subst hv
    have hmx : mx = none := by cases mx <;> simp_all [optI]
    subst hmx
    have hask' : slAsk len (optI lo) (optI hi) none := hask.out
    obtain ⟨a1, a2, a3, a4⟩ := id hask'
    have hrun : (Instr.sliceAt t (.slice a len (cap - lo0)) (optV lo) (optV hi) (optV none)).run P w = .ok (sliced a ((optI lo).getD 0).toNat ((optI hi).getD len).toNat (cap - lo0) te.2.1) w := run_sliceN (P := P) (w := w) (a := a) h1 hsz (by omega) lo hi hask'
    refine ⟨_, w, hrun, Goes.pure h ?_⟩
    have e3 : (none : Option Int).getD (len : Int) = len := rfl
    rw [e3] at a3 a4
    generalize hl : ((optI lo).getD 0).toNat = l at *
    generalize hh : ((optI hi).getD (len : Int)).toNat = q at *
    have e4 : ((optI hi).getD (len : Int) - (optI lo).getD 0).toNat = q - l := by omega
    rw [e4]
    unfold sliced
    rw [show cap - lo0 - l = cap - (lo0 + l) by omega]
    refine .win he (by omega) (fun hne => ?_) fun hz => ?_
    · rw [if_neg (by omega), ha (by omega)]
      obtain ⟨b, rfl⟩ := hadd (by omega)
      simp only [Option.map_some, addr_add]
      rw [Nat.add_assoc, ← Nat.add_mul]
    · obtain rfl : lo0 = 0 := by omega
      obtain rfl : l = 0 := by omega
      rw [h0 rfl]
      split
      · rfl
      · obtain ⟨b, rfl⟩ := hadd (by omega)
        simp only [Option.map_some, addr_add, Nat.zero_mul, Nat.add_zero]
  cases hx with
  | sl0 =>
    simp only [evSlice] at hy
    obtain ⟨⟨hn, hm⟩, hyy⟩ := ite_some hy
    exact go (E' := E) .sl0 hn hm hyy.symm
  | sl hb hX hc hl ho hr =>
    simp only [evSlice] at hy
    obtain ⟨⟨hn, hm⟩, hyy⟩ := ite_some hy
    exact go (E' := E) (.sl hb hX hc hl ho hr) hn hm hyy.symm
  | osl he hv =>
    rename_i k ver us
    have hok := h.ok k _ he
    simp only [evSlice] at hy
    generalize H.getD k .dead = so at hy hok
    cases so <;> simp only [reduceCtorEq] at hy
    · rename_i ver' len n g T
      obtain ⟨⟨rfl, hn, hm⟩, hyy⟩ := ite_some hy
      obtain ⟨_, xs, h5, _⟩ := hok
      have hsh : ∃ a cap, v = .slice a len cap ∧ len ≤ cap ∧ (cap ≠ 0 → ∃ b, a = some ⟨b, 0, none⟩) := by
        rcases h5 with ⟨a, rfl, rfl, rfl⟩ | ⟨b', cap', cur, rfl, c1, c2, c3, c4, c5, c6⟩
        · exact ⟨_, _, rfl, Nat.le_refl _, fun hc => absurd rfl hc⟩
        · exact ⟨_, _, rfl, c2, fun _ => ⟨_, rfl⟩⟩
      obtain ⟨a, cap, rfl, hlc, hadd⟩ := hsh
      subst hn
      refine own (lo0 := 0) (a := a) (cap := cap) he hlc (by omega) (fun _ => ?_) (fun _ => rfl) hadd hm (by rw [← hyy, Nat.zero_add]) rfl
      rw [Nat.zero_mul]
      cases cap with
      | zero => omega
      | succ cap => obtain ⟨b, rfl⟩ := hadd (by omega); rw [Option.map_some, addr_add]
    · obtain ⟨⟨_, hn, hm⟩, hyy⟩ := ite_some hy
      exact go hok.2 hn hm hyy.symm
    · rename_i ver' len n c mm p g T T' ho
      obtain ⟨⟨rfl, hn, hm⟩, hyy⟩ := ite_some hy
      obtain ⟨_, xs, d⟩ := hok
      have hsh : ∃ a cap, v = .slice a len cap ∧ len ≤ cap ∧ (cap ≠ 0 → ∃ b, a = some ⟨b, 0, none⟩) := by
        rcases d.own with ⟨a, rfl, rfl, rfl⟩ | ⟨b', cap', cur, rfl, c1, c2, c3, c4, c5, c6⟩
        · exact ⟨_, _, rfl, Nat.le_refl _, fun hc => absurd rfl hc⟩
        · exact ⟨_, _, rfl, c2, fun _ => ⟨_, rfl⟩⟩
      obtain ⟨a, cap, rfl, hlc, hadd⟩ := hsh
      subst hn
      refine own (lo0 := 0) (a := a) (cap := cap) he hlc (by omega) (fun _ => ?_) (fun _ => rfl) hadd hm (by rw [← hyy, Nat.zero_add]) rfl
      rw [Nat.zero_mul]
      cases cap with
      | zero => omega
      | succ cap => obtain ⟨b, rfl⟩ := hadd (by omega); rw [Option.map_some, addr_add]
  | oslOld he hl hv =>
    rename_i k ver ver' v' us
    have hok := h.ok k _ he
    simp only [evSlice] at hy
    generalize H.getD k .dead = so at hy hok
    cases so <;> simp only [reduceCtorEq] at hy
    · obtain ⟨⟨rfl, hn, hm⟩, hyy⟩ := ite_some hy
      have := hok.1
      omega
    · obtain ⟨⟨rfl, hn, hm⟩, hyy⟩ := ite_some hy
      have := hok.1
      omega
    · obtain ⟨⟨rfl, hn, hm⟩, hyy⟩ := ite_some hy
      have := hok.1
      omega
  | win he hl ha h0 =>
    rename_i k ver m lo0 l a a0 len0 cap0 us
    have hok := h.ok k _ he
    simp only [evSlice] at hy
    generalize H.getD k .dead = so at hy hok
    cases so <;> simp only [reduceCtorEq] at hy
    rename_i ver' len n g T
    obtain ⟨⟨⟨rfl, rfl⟩, hn, hm⟩, hyy⟩ := ite_some hy
    obtain ⟨_, xs, h5, _⟩ := hok
    have hsh : len0 = len ∧ len0 ≤ cap0 ∧ (cap0 ≠ 0 → ∃ b, a0 = some ⟨b, 0, none⟩) := by
      rcases h5 with ⟨a, hv', rfl, rfl⟩ | ⟨b', cap', cur, hv', c1, c2, c3, c4, c5, c6⟩
      · cases hv'; exact ⟨rfl, Nat.le_refl _, fun hc => absurd rfl hc⟩
      · cases hv'; exact ⟨rfl, c2, fun _ => ⟨_, rfl⟩⟩
    obtain ⟨rfl, hlc, hadd⟩ := hsh
    subst hn
    exact own (lo0 := lo0) he hlc hl ha h0 hadd hm hyy.symm rfl
  | winOld he hl hv =>
    rename_i k ver ver' v' m lo0 l us
    have hok := h.ok k _ he
    simp only [evSlice] at hy
    generalize H.getD k .dead = so at hy hok
    cases so <;> simp only [reduceCtorEq] at hy
    obtain ⟨⟨⟨rfl, rfl⟩, hn, hm⟩, hyy⟩ := ite_some hy
    have := hok.1
    omega
  | _ => simp [evSlice] at hy
/-- 'x[:0:0]'. -/
theorem evCut0_sound {P : Program} {w0 X0 H E w nm} (h : Rep w0 X0 H E w) {t : TypeId} {te : TypeId × Nat × Nat} (ht : tsl P t = some te) {x : SV} {v : Value} (hx : R w (Xo X0 E H) E x v) {kh km : IntKind}
    {y : Yd} (hy : evCut0 x = some y) :
    ∃ u w', (Instr.sliceAt t v none (some (.int kh 0)) (some (.int km 0))).run P w = .ok u w' ∧ Goes w0 X0 H E w nm y.eff y.val u w' := by
  obtain ⟨ti, h1, h2, h3, h4⟩ := tsl_spec ht
  have hel : P.elem t = te.1 := by unfold Program.elem; rw [h1]
  have ht' : P.underlying t = some (.slice (P.elem t)) := by rw [hel]; exact h1
  have hsz : (sizeOf (P.elem t)).run P w = .ok te.2.1 w := by rw [hel]; simp [sizeOf, typeInfo, h2, h3]
  have go : ∀ {a : Option Addr} {n c : Nat}, v = .slice a n c → y = ⟨True, .cap0, .keep⟩ → ∃ u w', (Instr.sliceAt t v none (some (.int kh 0)) (some (.int km 0))).run P w = .ok u w' ∧ Goes w0 X0 H E w nm y.eff y.val u w' := by
    rintro a n c rfl rfl
    refine ⟨.slice a 0 0, w, ?_, Goes.pure h .cap0⟩
    rw [run_sliceAt_slice w t _ _ _ _ ht', run_slice_hm w t a n c ht' kh km 0 0 (by omega) (by omega) (by omega), hsz]
    simp [sliced]
  cases hx with
  | sl0 => simp only [evCut0, pureY, Option.some.injEq] at hy; exact go rfl hy.symm
  | sl => simp only [evCut0, pureY, Option.some.injEq] at hy; exact go rfl hy.symm
  | cap0 => simp only [evCut0, pureY, Option.some.injEq] at hy; exact go rfl hy.symm
  | _ => simp [evCut0] at hy
/-- What lies behind a source. -/
theorem srcOf_sound {w0 X0 H E w} (h : Rep w0 X0 H E w) {x : SV} {v : Value} (hx : R w (Xo X0 E H) E x v) {len n : Nat} {g : Nat → Nat → SV} (hs : srcOf H x = some (len, n, g)) :
    ∃ a cap, v = .slice a len cap ∧ (len = 0 ∨ ∃ b o c T fr, a = some ⟨b, o, none⟩ ∧ w.heap[b]? = some (.cells c T fr) ∧ o + len * n ≤ c.size ∧
      ∀ i j, i < len → j < n → oneCell (c.getD (o + i * n + j) undef) ∧ R w (Xo X0 E H) E0 (g i j) (c.getD (o + i * n + j) undef)) := by
  have onSl : ∀ {E' : Env}, R w (Xo X0 E H) E' (.sl len n g) v → ∃ a cap, v = .slice a len cap ∧ (len = 0 ∨ ∃ b o c T fr, a = some ⟨b, o, none⟩ ∧ w.heap[b]? = some (.cells c T fr) ∧ o + len * n ≤ c.size ∧
      ∀ i j, i < len → j < n → oneCell (c.getD (o + i * n + j) undef) ∧ R w (Xo X0 E H) E0 (g i j) (c.getD (o + i * n + j) undef)) := by
    intro E' hr
    cases hr with
    | sl0 => exact ⟨_, _, rfl, .inl rfl⟩
    | sl hb hX hc hl ho hr => exact ⟨_, _, rfl, .inr ⟨_, _, _, _, _, rfl, hb, hc, fun i j hi hj => ⟨ho i j hi hj, hr i j hi hj⟩⟩⟩
  cases hx with
  | sl0 =>
    simp only [srcOf, Option.some.injEq, Prod.mk.injEq] at hs
    obtain ⟨rfl, rfl, rfl⟩ := hs
    exact ⟨_, _, rfl, .inl rfl⟩
  | sl hb hX hc hl ho hr =>
    simp only [srcOf, Option.some.injEq, Prod.mk.injEq] at hs
    obtain ⟨rfl, rfl, rfl⟩ := hs
    exact ⟨_, _, rfl, .inr ⟨_, _, _, _, _, rfl, hb, hc, fun i j hi hj => ⟨ho i j hi hj, hr i j hi hj⟩⟩⟩
  | osl he hv =>
    rename_i k ver us
    have hok := h.ok k _ he
    simp only [srcOf] at hs
    generalize hk : H.getD k .dead = so at hs hok
    cases so <;> simp only [reduceCtorEq] at hs
    · rename_i ver' len' n' g' T
      obtain ⟨rfl, hs⟩ := ite_some hs
      simp only at hs
      obtain ⟨rfl, rfl, rfl⟩ := hs
      obtain ⟨_, xs, h2, h3⟩ := hok
      rcases h2 with ⟨a, rfl, rfl, rfl⟩ | ⟨b, cap, cur, rfl, c1, c2, c3, c4, c5, c6⟩
      · exact ⟨_, _, rfl, .inl rfl⟩
      · have hle : len * n ≤ (cap + 1) * n := Nat.mul_le_mul_right _ c2
        refine ⟨_, _, rfl, .inr ⟨b, 0, cur, T, _, rfl, c1, by omega, fun i j hi hj => ?_⟩⟩
        have := h3 i j hi hj
        subst c5
        rw [list_getD_cur (mul_lt_of hi hj)] at this
        rwa [Nat.zero_add]
    · rename_i ver' len' n' g'
      obtain ⟨rfl, hs⟩ := ite_some hs
      simp only at hs
      obtain ⟨rfl, rfl, rfl⟩ := hs
      exact onSl hok.2
  | oslOld he hl hv =>
    rename_i k ver ver' v' us
    have hok := h.ok k _ he
    simp only [srcOf] at hs
    generalize H.getD k .dead = so at hs hok
    cases so <;> simp only [reduceCtorEq] at hs
    · obtain ⟨rfl, hs⟩ := ite_some hs
      have := hok.1
      omega
    · obtain ⟨rfl, hs⟩ := ite_some hs
      have := hok.1
      omega
  | slN hr =>
    simp only [srcOf, Option.some.injEq, Prod.mk.injEq] at hs
    obtain ⟨rfl, rfl, rfl⟩ := hs
    exact onSl hr
  | win he hl ha h0 =>
    rename_i k ver m lo l a a0 len0 cap0 us
    have hok := h.ok k _ he
    simp only [srcOf] at hs
    generalize hk : H.getD k .dead = so at hs hok
    cases so <;> simp only [reduceCtorEq] at hs
    rename_i ver' len' n' g' T
    obtain ⟨⟨rfl, rfl⟩, hs⟩ := ite_some hs
    simp only at hs
    obtain ⟨rfl, rfl, rfl⟩ := hs
    by_cases hz : len = 0
    · exact ⟨_, _, rfl, .inl hz⟩
    obtain ⟨_, xs, h2, h3⟩ := hok
    rcases h2 with ⟨a', hv', rfl, rfl⟩ | ⟨b, cap, cur, hv', c1, c2, c3, c4, c5, c6⟩
    · cases hv'; omega
    · cases hv'
      have hadd : a = some ⟨b, 0 + lo * n, none⟩ := by rw [ha hz, Option.map_some]; exact congrArg some (addr_add b 0 _)
      have hle := Nat.mul_le_mul_right n c2
      have hle2 := Nat.mul_le_mul_right n hl
      rw [Nat.add_mul] at hle2
      refine ⟨_, _, rfl, .inr ⟨b, 0 + lo * n, cur, T, _, hadd, c1, by omega, fun i j hi hj => ?_⟩⟩
      have := h3 (lo + i) j (by omega) hj
      subst c5
      rw [list_getD_cur (mul_lt_of (by omega) hj)] at this
      rwa [Nat.zero_add, ← Nat.add_mul]
  | winOld he hl hv =>
    rename_i k ver ver' v' m lo l us
    have hok := h.ok k _ he
    simp only [srcOf] at hs
    generalize H.getD k .dead = so at hs hok
    cases so <;> simp only [reduceCtorEq] at hs
    obtain ⟨⟨rfl, rfl⟩, hs⟩ := ite_some hs
    have := hok.1
    omega
  | _ => simp [srcOf] at hs
theorem len_sound {P : Program} {w0 X0 H E w nm} (h : Rep w0 X0 H E w) {t ty : TypeId} (ht : P.underlying t = some (.slice (P.elem t))) {x : SV} {v : Value} (hx : R w (Xo X0 E H) E x v) {n : Nat} (hl : lenOf H x = some n) (hs : ∀ s, x ≠ .str s) :
    ∃ u w', (Builtin.len_ #[t] ty #[v]).run P w = .ok u w' ∧ Goes w0 X0 H E w nm .keep (.int .i64 n) u w' := by
  have go : ∀ {a : Option Addr} {c : Nat}, v = .slice a n c → ∃ u w', (Builtin.len_ #[t] ty #[v]).run P w = .ok u w' ∧ Goes w0 X0 H E w nm .keep (.int .i64 n) u w' := by
    rintro a c rfl
    exact ⟨_, w, run_len_slice w t ty a n c ht, Goes.pure h .int⟩
  have viaSrc : ∀ {len m : Nat} {g : Nat → Nat → SV}, srcOf H x = some (len, m, g) → len = n → ∃ u w', (Builtin.len_ #[t] ty #[v]).run P w = .ok u w' ∧ Goes w0 X0 H E w nm .keep (.int .i64 n) u w' := by
    intro len m g hq hn
    obtain ⟨a, cap, hv, _⟩ := srcOf_sound h hx hq
    exact go (by rw [hv, hn])
  have hsrc : lenOf H x = (srcOf H x).map (·.1) → ∃ u w', (Builtin.len_ #[t] ty #[v]).run P w = .ok u w' ∧ Goes w0 X0 H E w nm .keep (.int .i64 n) u w' := by
    intro hq
    rw [hq] at hl
    cases hc : srcOf H x with
    | none => simp [hc] at hl
    | some q =>
      obtain ⟨len, m, g⟩ := q
      simp only [hc, Option.map_some, Option.some.injEq] at hl
      exact viaSrc hc hl
  cases x with
  | cap0 =>
    cases hx with
    | cap0 =>
      simp only [lenOf, Option.some.injEq] at hl
      subst hl
      exact go rfl
  | slP m g =>
    simp only [lenOf, Option.some.injEq] at hl
    subst hl
    cases hx with
    | slP => exact go rfl
  | str s => exact absurd rfl (hs s)
  | nilsl =>
    cases hx with
    | nilsl =>
      simp only [lenOf, Option.some.injEq] at hl
      subst hl
      exact go rfl
  | win k ver m lo len =>
    simp only [lenOf, Option.some.injEq] at hl
    subst hl
    cases hx with
    | win => exact go rfl
    | winOld _ _ hv => obtain ⟨a, c, hv⟩ := hv; exact go hv
  | osl k ver =>
    by_cases hd : ∃ ver' len n c m p g T T' ho, H.getD k .dead = .deep ver' len n c m p g T T' ho
    · obtain ⟨ver', len, n', c, m, p, g, T, T', ho, hd⟩ := hd
      simp only [lenOf, hd] at hl
      obtain ⟨rfl, rfl⟩ := ite_some hl
      cases hx with
      | osl he hv =>
        have hok := h.ok k _ he
        rw [hd] at hok
        obtain ⟨_, xs, d⟩ := hok
        rcases d.own with ⟨a, rfl, rfl, rfl⟩ | ⟨b', cap', cur, rfl, _⟩
        · exact go rfl
        · exact go rfl
      | oslOld he hlt hv =>
        have hok := h.ok k _ he
        rw [hd] at hok
        have := hok.1
        omega
    · refine hsrc ?_
      simp only [lenOf]
      split
      · rename_i hd'; exact absurd ⟨_, _, _, _, _, _, _, _, _, _, hd'⟩ hd
      · rfl
  | _ => exact hsrc rfl
theorem run_append_cap0 {P : Program} (w : World) (t ty e : TypeId) (i : TypeInfo) (ht : P.underlying t = some (.slice e)) (hi : P.info? e = some i) (a a' : Option Addr) (c : Nat) :
    (Builtin.append_ #[t, t] ty #[.slice a 0 0, .slice a' 0 c]).run P w = .ok (.slice a 0 0) w := by
  have hf : (Builtin.firstCells i.size 0 (.slice a' 0 c)).run P w = .ok #[] w := by
    cases a' with
    | none => exact run_firstCells_none w _ _ _ _
    | some b => simp [Builtin.firstCells, loadCells, loadCellsFrom]
  cases a with
  | none => simp [Builtin.append_, run_underlying ht, sizeOf, typeInfo, hi, Builtin.lenOf, hf]
  | some b => simp [Builtin.append_, run_underlying ht, sizeOf, typeInfo, hi, Builtin.lenOf, hf, storeCells]
end Go.Proofs.YthappngbapbkfaaDoor.Sx
