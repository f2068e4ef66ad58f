/- The evaluation tells the truth: what makes memory, and aggregates. -/
import Derived.Test.YtbmgclpgompjmaaDoorSxf
namespace Go.Proofs.YtbmgclpgompjmaaDoor.Sx
open Go.RowKit
theorem Goes.new {w0 X0 H E w w' nm e so sv v} (h : Rep w0 X0 H E w) (hf : Free H E nm (.new so)) (hb : Below w.heap.size w w')
    (hh : ∀ b, holds e so = some b → w.heap.size ≤ b)
    (hok : Keeps (Xo X0 E H) w w' → Within (Xo X0 E H) (Xo X0 (E.put nm e) H) w → E.le (E.put nm e) → EIok w' (Xo X0 (E.put nm e) H) (E.put nm e) e so)
    (hr : ∀ X, R w' X (E.put nm e) sv v) : Goes w0 X0 H E w nm (.new so) sv v w' := by
  obtain ⟨h1, h2, h3⟩ := hf so rfl
  have hwi : Within (Xo X0 E H) (Xo X0 (E.put nm e) H) w := by
    rintro b hlt (hx | ⟨j, e', hj, hh'⟩)
    · exact .inl hx
    · by_cases hjk : j = nm
      · subst hjk
        rw [Env.put_same] at hj
        cases hj
        rw [h3] at hh'
        have := hh b hh'
        omega
      · rw [Env.put_ne hjk] at hj
        exact .inr ⟨j, e', hj, hh'⟩
  obtain ⟨g1, g2⟩ := h.new (e := e) h1 h2 hb (by rw [h3]; exact hh) (by rw [h3]; exact hok (Rep.keeps hb) hwi (Env.le_put h1))
  refine ⟨E.put nm e, Env.le_put h1, Rep.keeps hb, g2, g1, hr _, fun k hk => ?_⟩
  by_cases hjk : k = nm
  · exact .inr ⟨hjk, so, rfl⟩
  · rw [Env.put_ne hjk] at hk; exact .inl hk
/-- A new block of cells. -/
theorem Goes.cells {w0 X0 H E w nm n g T} {vs : Array Value} (h : Rep w0 X0 H E w) (hf : Free H E nm (.new (.cells n g T))) (hs : vs.size = n)
    (hr : ∀ i, i < n → oneCell (vs.getD i undef) ∧ R w (Xo X0 E H) E (g i) (vs.getD i undef)) :
    Goes w0 X0 H E w nm (.new (.cells n g T)) (.own nm 0) (.pointer (some ⟨w.heap.size, 0, none⟩)) (w.alloc (.cells vs T)) :=
  Goes.new (e := .blk w.heap.size) h hf (Below.allocs w _) (fun b hb => by simp only [holds, Option.some.injEq] at hb; omega)
    (fun hke hwi hle => ⟨vs, heap_new' w _, hs, fun i hi => ⟨(hr i hi).1, (hr i hi).2.mono hke hwi hle⟩⟩) fun X => .own (Env.put_same _ _ _)
theorem tzero_spec {P : Program} {t : TypeId} {z : List Value} (h : tzero P t = some z) :
    ∃ i v, P.info? t = some i ∧ i.zero = some v ∧ v.cells.toList = z ∧ v.cells.size = i.size ∧ ∀ k, k < z.length → oneCell (z.getD k undef) := by
  unfold tzero at h
  cases hi : P.info? t with
  | none => simp [hi] at h
  | some i =>
    cases hz : i.zero with
    | none => simp [hi, hz] at h
    | some v =>
      simp only [hi, hz] at h
      obtain ⟨⟨h1, h2⟩, rfl⟩ := ite_some h
      refine ⟨i, v, rfl, hz, rfl, h1, fun k hk => ?_⟩
      rw [List.getD_eq_getElem?_getD, List.getElem?_eq_getElem hk]
      exact List.all_eq_true.1 h2 _ (List.getElem_mem hk)
theorem alloc_sound {P : Program} {w0 X0 H E w nm} (h : Rep w0 X0 H E w) {t : TypeId} {z : List Value} (ht : tzero P t = some z)
    (hf : Free H E nm (.new (.cells z.length (zeroF z) t))) :
    ∃ u w', (Instr.alloc t true (.tuple #[])).run P w = .ok u w' ∧ Goes w0 X0 H E w nm (.new (.cells z.length (zeroF z) t)) (.own nm 0) u w' := by
  obtain ⟨i, v, h1, h2, rfl, h4, h5⟩ := tzero_spec ht
  have hrun : (Instr.alloc t true (.tuple #[])).run P w = .ok (.pointer (some ⟨w.heap.size, 0, none⟩)) (w.alloc (.cells v.cells t)) := by simp [Instr.alloc, zeroValue, typeInfo, h1, h2, newVar, newRow]
  refine ⟨_, _, hrun, ?_⟩
  refine Goes.cells h hf (by simp) fun k hk => ?_
  have := h5 k hk
  rw [toList_getD] at this
  refine ⟨this, ?_⟩
  unfold zeroF
  rw [toList_getD]
  exact ofV_sound _
theorem box_sound {P : Program} {w0 X0 H E w nm} (h : Rep w0 X0 H E w) {t : TypeId} {x : SV} {v : Value} (hx : R w (Xo X0 E H) E x v) {n g} (hc : cellsOf x = some (n, g))
    (hf : Free H E nm (.new (.cells n g t))) :
    ∃ u w', (Instr.box t v).run P w = .ok u w' ∧ Goes w0 X0 H E w nm (.new (.cells n g t)) (.own nm 0) u w' := by
  obtain ⟨h1, h2⟩ := cellsOf_sound hx hc
  have hrun : (Instr.box t v).run P w = .ok (.pointer (some ⟨w.heap.size, 0, none⟩)) (w.alloc (.cells v.cells t)) := by simp [Instr.box, newVar, newRow]
  exact ⟨_, _, hrun, Goes.cells h hf h1 h2⟩
/-- Cells written one by one. -/
theorem fold_set (off : Nat) : ∀ (l : List Value) (s : Nat) (cs : Array Value), off + s + l.length ≤ cs.size →
    ((l.zipIdx s).foldl (fun (cs : Array Value) p => cs.setIfInBounds (off + p.2) p.1) cs).size = cs.size ∧
    ∀ k, ((l.zipIdx s).foldl (fun (cs : Array Value) p => cs.setIfInBounds (off + p.2) p.1) cs).getD k undef = if off + s ≤ k ∧ k < off + s + l.length then l.getD (k - (off + s)) undef else cs.getD k undef
  | [], s, cs, _ => ⟨rfl, fun k => by rw [if_neg (by simp only [List.length_nil]; omega)]; rfl⟩
  | v :: l, s, cs, h => by
    simp only [List.length_cons] at h
    obtain ⟨h1, h2⟩ := fold_set off l (s + 1) (cs.setIfInBounds (off + s) v) (by simp; omega)
    refine ⟨by simp only [List.zipIdx_cons, List.foldl_cons]; rw [h1]; simp, fun k => ?_⟩
    simp only [List.zipIdx_cons, List.foldl_cons, List.length_cons]
    rw [h2 k]
    by_cases hk : off + (s + 1) ≤ k ∧ k < off + (s + 1) + l.length
    · rw [if_pos hk, if_pos (by omega), show k - (off + s) = (k - (off + (s + 1))) + 1 by omega, List.getD_cons_succ]
    · rw [if_neg hk, Array.getD_eq_getD_getElem?, Array.getElem?_setIfInBounds]
      by_cases hk2 : off + s = k
      · rw [if_pos hk2, if_pos (by omega), if_pos (by omega)]
        subst hk2
        simp
      · rw [if_neg hk2, if_neg (by omega), Array.getD_eq_getD_getElem?]
/-- n cells that g describes. -/
def CellsR (w : World) (X : Nat → Prop) (E : Env) (n : Nat) (g : Nat → SV) (cs : Array Value) : Prop := cs.size = n ∧ ∀ i, i < n → oneCell (cs.getD i undef) ∧ R w X E (g i) (cs.getD i undef)
/-- The parts' values. -/
def PartsR (w : World) (X : Nat → Prop) (E : Env) : List (Nat × SV) → List (Nat × Value) → Prop
  | [], [] => True
  | (i, s) :: r, (j, v) :: q => i = j ∧ R w X E s v ∧ PartsR w X E r q
  | _, _ => False
theorem fill_sound {w X E} (place : Nat → Option (Nat × Nat)) (n : Nat) : ∀ (ps : List (Nat × SV)) (vs : List (Nat × Value)) (g g' : Nat → SV) (cs : Array Value),
    PartsR w X E ps vs → CellsR w X E n g cs → fillS place n g ps = some g' → ∃ cs', Instr.fill place cs vs = some cs' ∧ CellsR w X E n g' cs'
  | [], [], g, g', cs, _, hc, hf => by simp only [fillS, Option.some.injEq] at hf; subst hf; exact ⟨cs, rfl, hc⟩
  | [], _ :: _, _, _, _, hp, _, _ => hp.elim
  | _ :: _, [], _, _, _, hp, _, _ => hp.elim
  | (i, s) :: r, (j, v) :: q, g, g', cs, hp, hc, hf => by
    obtain ⟨rfl, hr, hp'⟩ := hp
    simp only [fillS] at hf
    cases hpl : place i with
    | none => simp [hpl] at hf
    | some os =>
      obtain ⟨off, sz⟩ := os
      cases hcl : cellsOf s with
      | none => simp [hpl, hcl] at hf
      | some mf =>
        obtain ⟨m, f⟩ := mf
        simp only [hpl, hcl] at hf
        split at hf
        case isFalse => cases hf
        rename_i hcond
        obtain ⟨rfl, hle⟩ := hcond
        obtain ⟨h1, h2⟩ := cellsOf_sound hr hcl
        have hlen : v.cells.toList.length = m := by rw [Array.length_toList, h1]
        obtain ⟨f1, f2⟩ := fold_set off v.cells.toList 0 cs (by rw [hlen, hc.1]; omega)
        have hsame : v.cells.zipIdx.foldl (fun (cs : Array Value) p => cs.setIfInBounds (off + p.2) p.1) cs = (v.cells.toList.zipIdx 0).foldl (fun (cs : Array Value) p => cs.setIfInBounds (off + p.2) p.1) cs := by
          rw [← Array.foldl_toList, Array.toList_zipIdx]
        have hnew : CellsR w X E n (updF g off m f) (v.cells.zipIdx.foldl (fun (cs : Array Value) p => cs.setIfInBounds (off + p.2) p.1) cs) := by
          rw [hsame]
          refine ⟨by rw [f1]; exact hc.1, fun k hk => ?_⟩
          rw [f2 k, hlen, Nat.add_zero]
          by_cases hkk : off ≤ k ∧ k < off + m
          · rw [if_pos hkk, updF_in hkk, toList_getD]
            exact h2 (k - off) (by omega)
          · rw [if_neg hkk, updF_out hkk]
            exact hc.2 k hk
        obtain ⟨cs', g1, g2⟩ := fill_sound place n r q _ g' _ hp' hnew hf
        refine ⟨cs', ?_, g2⟩
        have hcs := hc.1
        rw [Instr.fill, hpl]
        simp only
        rw [if_neg (by simp only [Bool.or_eq_true, decide_eq_true_eq, ne_eq]; omega)]
        exact g1
theorem zero_cells {w X E} {v : Value} {z : List Value} (hz : v.cells.toList = z) (h : ∀ k, k < z.length → oneCell (z.getD k undef)) : CellsR w X E z.length (zeroF z) v.cells := by
  subst hz
  refine ⟨by simp, fun i hi => ?_⟩
  have := h i hi
  rw [toList_getD] at this
  refine ⟨this, ?_⟩
  unfold zeroF
  rw [toList_getD]
  exact ofV_sound _
theorem agg_of_cells {w X E n g cs} (h : CellsR w X E n g cs) : R w X E (.agg n g) (.agg cs) := .agg h.1 (fun i hi => (h.2 i hi).1) fun i hi => (h.2 i hi).2
theorem evBuildS_sound {P : Program} {w0 X0 H E w nm} (h : Rep w0 X0 H E w) {t : TypeId} {z : List Value} {fl : List (Nat × Nat)} (ht : tzero P t = some z) (hfl : tflds P t = some fl)
    {ps : List (Nat × SV)} {vs : Array (Nat × Value)} (hp : PartsR w (Xo X0 E H) E ps vs.toList) {y : Yd} (hy : evBuildS z fl ps = some y) :
    ∃ u w', (Instr.build t vs).run P w = .ok u w' ∧ Goes w0 X0 H E w nm y.eff y.val u w' := by
  obtain ⟨i, v, h1, h2, h3, h4, h5⟩ := tzero_spec ht
  unfold evBuildS at hy
  cases hg : fillS (fun i => fl[i]?) z.length (zeroF z) ps with
  | none => simp [hg] at hy
  | some g =>
    simp only [hg, pureY, Option.some.injEq] at hy
    subst hy
    obtain ⟨cs', c1, c2⟩ := fill_sound _ _ _ _ _ _ _ hp (zero_cells h3 h5) hg
    unfold tflds at hfl
    cases hd : P.underlying t with
    | none => simp [hd] at hfl
    | some d =>
      cases d <;> simp only [hd, reduceCtorEq] at hfl
      rename_i fields
      refine ⟨_, w, run_build w t vs cs' ?_, Goes.pure h (agg_of_cells c2)⟩
      unfold Program.built
      simp only [h1, hd, h2, hfl]
      simpa using c1
theorem tarr_spec {P : Program} {t : TypeId} {len s : Nat} {a : Bool} (h : tarr P t = some (len, s, a)) : ∃ e i, P.underlying t = some (.array len e) ∧ tinf P e = some (s, a) ∧ P.info? e = some i ∧ i.size = s := by
  unfold tarr at h
  cases hd : P.underlying t with
  | none => simp [hd] at h
  | some d =>
    cases d <;> simp only [hd, reduceCtorEq] at h
    rename_i l e
    cases hi : tinf P e with
    | none => simp [hi] at h
    | some q =>
      obtain ⟨s', a'⟩ := q
      simp only [hi, Option.some.injEq, Prod.mk.injEq] at h
      obtain ⟨rfl, rfl, rfl⟩ := h
      have hi' := hi
      unfold tinf at hi
      cases hie : P.info? e with
      | none => simp [hie] at hi
      | some i =>
        cases hde : P.underlying e with
        | none => simp [hie, hde] at hi
        | some de =>
          simp only [hie, hde, Option.some.injEq, Prod.mk.injEq] at hi
          exact ⟨e, i, rfl, hi', hie, hi.1⟩
theorem evBuildA_sound {P : Program} {w0 X0 H E w nm} (h : Rep w0 X0 H E w) {t : TypeId} {z : List Value} {ai : Nat × Nat × Bool} (ht : tzero P t = some z) (hfl : tarr P t = some ai)
    {ps : List (Nat × SV)} {vs : Array (Nat × Value)} (hp : PartsR w (Xo X0 E H) E ps vs.toList) {y : Yd} (hy : evBuildA z ai.2.1 ps = some y) :
    ∃ u w', (Instr.build t vs).run P w = .ok u w' ∧ Goes w0 X0 H E w nm y.eff y.val u w' := by
  obtain ⟨i, v, h1, h2, h3, h4, h5⟩ := tzero_spec ht
  obtain ⟨len, es, ag⟩ := ai
  obtain ⟨e, ie, q1, q2, q3, q4⟩ := tarr_spec hfl
  unfold evBuildA at hy
  cases hg : fillS (fun i => some (i * es, es)) z.length (zeroF z) ps with
  | none => simp [hg] at hy
  | some g =>
    simp only [hg, pureY, Option.some.injEq] at hy
    subst hy
    obtain ⟨cs', c1, c2⟩ := fill_sound _ _ _ _ _ _ _ hp (zero_cells h3 h5) hg
    refine ⟨_, w, run_build w t vs cs' ?_, Goes.pure h (agg_of_cells c2)⟩
    unfold Program.built
    simp only [h1, q1, h2, q3, q4]
    exact c1
theorem tsl_spec {P : Program} {t : TypeId} {te : TypeId × Nat × Nat} (h : tsl P t = some te) : ∃ i, P.underlying t = some (.slice te.1) ∧ P.info? te.1 = some i ∧ i.size = te.2.1 ∧ i.bytes = te.2.2 := by
  unfold tsl at h
  cases hd : P.underlying t with
  | none => simp [hd] at h
  | some d =>
    cases d <;> simp only [hd, reduceCtorEq] at h
    rename_i e
    cases hi : P.info? e with
    | none => simp [hi] at h
    | some i =>
      simp only [hi, Option.some.injEq] at h
      subst h
      exact ⟨i, rfl, hi, rfl, rfl⟩
/-- A new slice with all its cells. -/
theorem Goes.row {w0 X0 H E w nm len cap n T} {g : Nat → Nat → SV} {cur : Array Value} (h : Rep w0 X0 H E w) (hf : Free H E nm (.new (.row 0 len n g T))) (hlc : len ≤ cap) (hcm : cap ≤ maxLen) (hs : cur.size = cap * n)
    {w1 : World} (hw1 : Below w.heap.size w w1) (hsz : w1.heap.size = w.heap.size)
    (hr : ∀ i j, i < len → j < n → oneCell (cur.getD (i * n + j) undef) ∧ R w (Xo X0 E H) E0 (g i j) (cur.getD (i * n + j) undef)) :
    Goes w0 X0 H E w nm (.new (.row 0 len n g T)) (.osl nm 0) (.slice (some ⟨w.heap.size, 0, none⟩) len cap) (w1.alloc (.cells cur T)) := by
  have hb : Below w.heap.size w (w1.alloc (.cells cur T)) := hw1.alloc (by rw [hsz]; exact Nat.le_refl _) _
  refine Goes.new (e := .slc 0 (.slice (some ⟨w.heap.size, 0, none⟩) len cap)) h hf hb (fun b hb' => ?_) (fun hke hwi hle => ?_) fun X => .osl (Env.put_same _ _ _) ⟨_, _, _, rfl⟩
  · cases cap with
    | zero => simp [holds] at hb'
    | succ cap =>
      simp only [holds, Option.some.injEq] at hb'
      omega
  · cases cap with
    | zero =>
      obtain rfl : len = 0 := by omega
      exact ⟨rfl, [], .inl ⟨_, rfl, rfl, rfl⟩, fun i j hi => absurd hi (Nat.not_lt_zero _)⟩
    | succ cap =>
      have hll : len * n ≤ (cap + 1) * n := Nat.mul_le_mul_right _ hlc
      refine ⟨rfl, _, .inr ⟨w.heap.size, cap, cur, rfl, by have := heap_new' w1 (.cells cur T); rwa [hsz] at this, hlc, hcm, hs, rfl, by rw [List.length_take, Array.length_toList]; omega⟩, fun i j hi hj => ?_⟩
      rw [list_getD_cur (mul_lt_of hi hj)]
      exact ⟨(hr i j hi hj).1, (hr i j hi hj).2.mono hke hwi (Env.le_refl _)⟩
theorem getD_map_range {n k : Nat} {f : Nat → Value} (h : k < n) : ((Array.range n).map f).getD k undef = f k := by
  rw [Array.getD_eq_getD_getElem?, Array.getElem?_map, Array.getElem?_range, if_pos h]
  rfl
theorem getBang {a : Array Value} {k : Nat} (h : k < a.size) : a[k]! = a.getD k undef := by
  simp [Array.getD, h]
theorem evMakeSlice_sound {P : Program} {w0 X0 H E w nm} (h : Rep w0 X0 H E w) {t : TypeId} {te : TypeId × Nat × Nat} (ht : tsl P t = some te) {z : List Value} (hz : tzero P te.1 = some z)
    {kl kc : IntKind} {l c : Int} {y : Yd} (hy : evMakeSlice te z nm l c = some y) (hask : y.ask) (hf : Free H E nm y.eff) :
    ∃ u w', (Instr.makeSlice t (.int kl l) (.int kc c)).run P w = .ok u w' ∧ Goes w0 X0 H E w nm y.eff y.val u w' := by
  obtain ⟨i, q1, q2, q3, q4⟩ := tsl_spec ht
  obtain ⟨i', v, h1, h2, h3, h4, h5⟩ := tzero_spec hz
  rw [q2] at h1
  cases h1
  unfold evMakeSlice at hy
  obtain ⟨⟨hzl, hpos⟩, rfl⟩ := ite_some hy
  obtain ⟨a1, a2, a3, a4⟩ := hask.out
  have hvs : v.cells.size = z.length := by rw [← h3, Array.length_toList]
  refine ⟨_, _, run_make w t te.1 i v q1 q2 h2 kl kc l c a1 a2 (by rw [q4]; omega) a4, ?_⟩
  have hsize : i.size = te.2.1 := q3
  rw [hsize]
  refine Goes.row h hf (Int.toNat_le_toNat a2) (by unfold maxLen; omega) (by rw [size_madeCells]) (Below.refl _ _) rfl fun i j hi hj => ?_
  have hlt := mul_lt_of (n := te.2.1) (show i < c.toNat by have := Int.toNat_le_toNat a2; omega) hj
  unfold madeCells
  rw [getD_map_range hlt, getBang (Nat.mod_lt _ (by omega)), hvs, hzl, Nat.add_comm, Nat.add_mul_mod_self_right, Nat.mod_eq_of_lt hj]
  have := h5 j (by omega)
  rw [← h3, toList_getD] at this
  refine ⟨this, ?_⟩
  unfold zeroR
  rw [← h3, toList_getD]
  exact ofV_sound _
theorem pickG_eq {n : Nat} {g : Nat → SV} : ∀ {len i j : Nat}, i < len → pickG n g len i j = g (i * n + j)
  | 0, i, j, h => absurd h (Nat.not_lt_zero _)
  | 1, i, j, h => by
    obtain rfl : i = 0 := by omega
    simp [pickG]
  | m + 2, i, j, h => by
    show selS (decide (i = m + 1)) (g ((m + 1) * n + j)) (pickG n g (m + 1) i j) = _
    rw [selS_eq]
    by_cases hi : i = m + 1
    · rw [decide_eq_true hi, hi]; rfl
    · rw [decide_eq_false hi]
      exact pickG_eq (len := m + 1) (by omega)
theorem evBuildSlice_sound {P : Program} {w0 X0 H E w nm} (h : Rep w0 X0 H E w) {t : TypeId} {te : TypeId × Nat × Nat} (ht : tsl P t = some te) {z : List Value} (hz : tzero P te.1 = some z)
    {len : Nat} {ps : List (Nat × SV)} {vs : Array (Nat × Value)} (hp : PartsR w (Xo X0 E H) E ps vs.toList) {y : Yd} (hy : evBuildSlice te z nm len ps = some y) (hf : Free H E nm y.eff) :
    ∃ u w', (Instr.buildSlice t len vs).run P w = .ok u w' ∧ Goes w0 X0 H E w nm y.eff y.val u w' := by
  obtain ⟨i, q1, q2, q3, q4⟩ := tsl_spec ht
  obtain ⟨i', v, h1, h2, h3, h4, h5⟩ := tzero_spec hz
  rw [q2] at h1
  cases h1
  have hvs : v.cells.size = z.length := by rw [← h3, Array.length_toList]
  unfold evBuildSlice at hy
  cases hg : fillS (fun i => some (i * te.2.1, te.2.1)) (len * te.2.1) (fun k => zeroF z (k % z.length)) ps with
  | none => simp [hg] at hy
  | some g =>
    simp only [hg] at hy
    obtain ⟨⟨hzl, hpos, hlen, hle, hall⟩, rfl⟩ := ite_some hy
    have fin : ∀ {cs' : Array Value}, (Instr.buildSlice t len vs).run P w = .ok (.slice (some ⟨w.heap.size, 0, none⟩) len len) (w.alloc (.cells cs' te.1)) → CellsR w (Xo X0 E H) E (len * te.2.1) g cs' →
        ∃ u w', (Instr.buildSlice t len vs).run P w = .ok u w' ∧ Goes w0 X0 H E w nm (.new (.row 0 len te.2.1 (pickG te.2.1 g len) te.1)) (.osl nm 0) u w' := by
      intro cs' hrun c2
      refine ⟨_, _, hrun, ?_⟩
      refine Goes.row h hf (Nat.le_refl _) (by unfold maxLen; omega) c2.1 (Below.refl _ _) rfl fun i j hi hj => ?_
      have hlt := mul_lt_of (n := te.2.1) hi hj
      rw [pickG_eq hi]
      exact ⟨(c2.2 _ hlt).1, isPure_sound 6 _ _ (all_range hall hlt) (c2.2 _ hlt).2⟩
    by_cases hlen0 : len = 0
    · subst hlen0
      have hz0 : CellsR w (Xo X0 E H) E (0 * te.2.1) (fun k => zeroF z (k % z.length)) (#[] : Array Value) := ⟨by simp, fun k hk => by simp at hk⟩
      obtain ⟨cs', c1, c2⟩ := fill_sound _ _ _ _ _ _ _ hp hz0 hg
      refine fin ?_ c2
      simp only [Instr.buildSlice, run_underlying q1, sizeOf, typeInfo, q2, newRow, q3, Nat.zero_mul, Sem.run_bind, Sem.run_pure, Result.andThen_ok, run_program, gt_iff_lt, Nat.not_lt_zero, if_false, if_true]
      have hemp : Array.map (fun x => (#[] : Array Value)[x % (#[] : Array Value).size]!) (Array.range 0) = #[] := Array.eq_empty_of_size_eq_zero (by simp)
      simp only [hemp, c1, Sem.run_bind, Sem.run_pure, Result.andThen_ok, run_newObj_alloc]
    have hz0 : CellsR w (Xo X0 E H) E (len * te.2.1) (fun k => zeroF z (k % z.length)) ((Array.range (len * te.2.1)).map (v.cells[· % v.cells.size]!)) := by
      refine ⟨by simp, fun k hk => ?_⟩
      rw [getD_map_range hk, getBang (Nat.mod_lt _ (by omega)), hvs]
      have := h5 (k % z.length) (Nat.mod_lt _ (by omega))
      rw [← h3, toList_getD] at this
      rw [← h3] at *
      refine ⟨this, ?_⟩
      show R _ _ _ (ofV (v.cells.toList.getD (k % v.cells.toList.length) undef)) _
      rw [toList_getD]
      exact ofV_sound _
    obtain ⟨cs', c1, c2⟩ := fill_sound _ _ _ _ _ _ _ hp hz0 hg
    have hno : ¬ (len * i.size > 2 ^ 24) := by rw [q3]; omega
    have hrun : (Instr.buildSlice t len vs).run P w = .ok (.slice (some ⟨w.heap.size, 0, none⟩) len len) (w.alloc (.cells cs' te.1)) := by
      have hpos2 : 0 < len * te.2.1 := Nat.mul_pos (by omega) hpos
      have hne : ¬ (len = 0 ∨ te.2.1 = 0) := by omega
      have hne' : ¬ (len * te.2.1 = 0) := by omega
      have hno' : ¬ (16777216 < len * te.2.1) := by omega
      simp only [Instr.buildSlice, run_underlying q1, sizeOf, typeInfo, zeroValue, q2, newRow, q3, h2, c1, hne', hno', Sem.run_bind, Sem.run_pure, Result.andThen_ok, run_program, gt_iff_lt, if_false, Sem.run_ite, run_newObj_alloc, Nat.reducePow]
    exact fin hrun c2
end Go.Proofs.YtbmgclpgompjmaaDoor.Sx
