/- The evaluation tells the truth: values, loads, addresses. -/
import Derived.Test.YtbmgclpgompjmaaDoorSxd
namespace Go.Proofs.YtbmgclpgompjmaaDoor.Sx
open Go.RowKit
def appE (H : List SO) : Eff → List SO
  | .keep => H
  | .new _ => H
  | .sets l => applyS H l
/-- Behind an operation: a value that sv stands for, in a memory that holds the objects as the effect says. -/
def Goes (w0 : World) (X0 : Fr) (H : List SO) (E : Env) (w : World) (nm : Nat) (eff : Eff) (sv : SV) (v : Value) (w' : World) : Prop :=
  ∃ E' : Env, E.le E' ∧ Keeps (Xo X0 E H) w w' ∧ Within (Xo X0 E H) (Xo X0 E' (appE H eff)) w ∧ Rep w0 X0 (appE H eff) E' w' ∧ R w' (Xo X0 E' (appE H eff)) E' sv v ∧
    ∀ k, E' k ≠ none → E k ≠ none ∨ (k = nm ∧ ∃ so, eff = .new so)
/-- What is asked of the place of a new object. -/
def Free (H : List SO) (E : Env) (nm : Nat) (eff : Eff) : Prop := ∀ so, eff = .new so → E nm = none ∧ nm < H.length ∧ H.getD nm .dead = so
theorem Goes.pure {w0 X0 H E w nm sv v} (h : Rep w0 X0 H E w) (hr : R w (Xo X0 E H) E sv v) : Goes w0 X0 H E w nm .keep sv v w :=
  ⟨E, Env.le_refl _, fun _ _ _ => rfl, Within.refl _ _, h, hr, fun _ hk => .inl hk⟩
theorem Goes.world {w0 X0 H E w w' nm sv v} (h : Rep w0 X0 H E w) (hb : Below w.heap.size w w') (hr : R w' (Xo X0 E H) E sv v) : Goes w0 X0 H E w nm .keep sv v w' :=
  ⟨E, Env.le_refl _, Rep.keeps hb, Within.refl _ _, h.world hb, hr, fun _ hk => .inl hk⟩
theorem isPure_sound {w X E} : ∀ (f : Nat) (sv : SV) (v : Value), isPure f sv = true → R w X E sv v → R w X E0 sv v := by
  intro f
  induction f with
  | zero => intro sv v hp; simp [isPure] at hp
  | succ f ih =>
    intro sv v hp hr
    cases hr with
    | any => exact .any
    | int => exact .int
    | bool => exact .bool
    | lit => exact .lit
    | str => exact .str
    | nilfn => exact .nilfn
    | cap0 => exact .cap0
    | fn hs hr => exact .fn hs fun i hi => ih _ _ (all_range hp hi) (hr i hi)
    | agg hs ho hr => exact .agg hs ho fun i hi => ih _ _ (all_range hp hi) (hr i hi)
    | tup hs hr => exact .tup hs fun i hi => ih _ _ (all_range hp hi) (hr i hi)
    | sl0 => exact .sl0
    | sl hb hX hc hl ho hr => exact .sl hb hX hc hl ho hr
    | ref hb hX hc ho hr => exact .ref hb hX hc ho hr
    | own => simp [isPure] at hp
    | osl => simp [isPure] at hp
    | oslOld => simp [isPure] at hp
    | ownAt => simp [isPure] at hp
    | ownAtOld => simp [isPure] at hp
    | win => simp [isPure] at hp
    | winOld => simp [isPure] at hp
    | nilsl => exact .nilsl
    | slN hr =>
      refine .slN ?_
      cases hr with
      | sl0 => exact .sl0
      | sl hb hX hc hl ho hr => exact .sl hb hX hc hl ho hr
theorem tinf_spec {P : Program} {t : TypeId} {n : Nat} {a : Bool} (h : tinf P t = some (n, a)) (w : World) : (isAgg t).run P w = .ok a w ∧ (sizeOf t).run P w = .ok n w := by
  unfold tinf at h
  cases hi : P.info? t with
  | none => simp [hi] at h
  | some i =>
    cases hd : P.underlying t with
    | none => simp [hi, hd] at h
    | some d =>
      simp only [hi, hd, Option.some.injEq, Prod.mk.injEq] at h
      obtain ⟨rfl, rfl⟩ := h
      refine ⟨?_, by simp [sizeOf, typeInfo, hi]⟩
      cases d <;> simp [isAgg, run_underlying hd]
theorem ofV_sound {w X E} (v : Value) : R w X E (ofV v) v := by
  unfold ofV
  split
  · exact .int
  · exact .lit
  · exact .str
  · exact .cap0
  · exact .nilfn
  · exact .any
/-- The frame's temporaries as the evaluation has them. -/
def TR (w : World) (X : Nat → Prop) (E : Env) (N : Nat) (τ : Tmps) (a : Act) : Prop := a.tmps.size = N ∧ a.defers = [] ∧ ∀ t, t < N → R w X E (lookT τ t) (a.tmps.getD t undef)
theorem evO_sound {w X E N τ a} (h : TR w X E N τ a) (x : Operand) : R w X E (evO N τ x) (a.eval x) := by
  cases x with
  | tmp t =>
    simp only [evO, Act.eval]
    split
    · exact h.2.2 t ‹_›
    · exact .any
  | const v => exact ofV_sound v
  | global g => exact .any
  | func f => exact .fn rfl fun i hi => by omega
theorem Array.getD_eq_getD {α : Type} (a : Array α) (i : Nat) (d : α) : a.getD i d = a[i]?.getD d := by
  simp [Array.getD_eq_getD_getElem?]
theorem cellsOf_sound {w X E sv v n g} (h : R w X E sv v) (hc : cellsOf sv = some (n, g)) :
    v.cells.size = n ∧ ∀ i, i < n → oneCell (v.cells.getD i undef) ∧ R w X E (g i) (v.cells.getD i undef) := by
  have one : ∀ {sv v}, R w X E sv v → v.cells = #[v] → oneCell v → some (1, fun (_ : Nat) => sv) = some (n, g) → v.cells.size = n ∧ ∀ i, i < n → oneCell (v.cells.getD i undef) ∧ R w X E (g i) (v.cells.getD i undef) := by
    intro sv v hr hv ho hc
    simp only [Option.some.injEq, Prod.mk.injEq] at hc
    obtain ⟨rfl, rfl⟩ := hc
    rw [hv]
    refine ⟨rfl, fun i hi => ?_⟩
    obtain rfl : i = 0 := by omega
    exact ⟨ho, hr⟩
  cases h with
  | any => simp [cellsOf] at hc
  | tup => simp [cellsOf] at hc
  | agg hs ho hr =>
    simp only [cellsOf, Option.some.injEq, Prod.mk.injEq] at hc
    obtain ⟨rfl, rfl⟩ := hc
    exact ⟨hs, fun i hi => ⟨ho i hi, hr i hi⟩⟩
  | int => exact one .int rfl rfl hc
  | bool => exact one .bool rfl rfl hc
  | lit => exact one .lit rfl rfl hc
  | str => exact one .str rfl rfl hc
  | nilfn => exact one .nilfn rfl rfl hc
  | cap0 => exact one .cap0 rfl rfl hc
  | fn hs hr => exact one (.fn hs hr) rfl rfl hc
  | sl0 => exact one .sl0 rfl rfl hc
  | sl hb hX hc' hl ho hr => exact one (.sl hb hX hc' hl ho hr) rfl rfl hc
  | ref hb hX hc' ho hr => exact one (.ref hb hX hc' ho hr) rfl rfl hc
  | own he => exact one (.own he) rfl rfl hc
  | osl he hv => obtain ⟨a, n', c, rfl⟩ := hv; exact one (.osl he ⟨_, _, _, rfl⟩) rfl rfl hc
  | oslOld he hl hv => obtain ⟨a, n', c, rfl⟩ := hv; exact one (.oslOld he hl ⟨_, _, _, rfl⟩) rfl rfl hc
  | ownAt he => exact one (.ownAt he) rfl rfl hc
  | ownAtOld he hl hv => obtain ⟨a, o, rfl⟩ := hv; exact one (.ownAtOld he hl ⟨_, _, rfl⟩) rfl rfl hc
  | win he hl ha h0 => exact one (.win he hl ha h0) rfl rfl hc
  | nilsl => exact one .nilsl rfl rfl hc
  | slN hr => exact one (.slN hr) rfl rfl hc
  | winOld he hl hv => obtain ⟨a, c, rfl⟩ := hv; exact one (.winOld he hl ⟨_, _, rfl⟩) rfl rfl hc
theorem addr_add (b o n : Nat) : (⟨b, o, none⟩ : Addr).add n = ⟨b, o + n, none⟩ := Addr.add_lit b o n
theorem cell_block {w : World} {b o : Nat} {c : Array Value} {T : TypeId} {fr : Nat × Nat} (h : w.heap[b]? = some (.cells c T fr)) (ho : o < c.size) : w.cell? ⟨b, o, none⟩ = some (c.getD o undef) := by
  rw [cell_of_row w b o c T fr h]
  simp [Array.getD, ho]
/-- A read of a variable of n cells, or of one. -/
theorem run_ld {P : Program} {w : World} {X : Nat → Prop} {E : Env} {t : TypeId} {ti : Nat × Bool} (ht : tinf P t = some ti) {b o n off : Nat} {c : Array Value} {T : TypeId} {fr : Nat × Nat} {g : Nat → SV} {s : SV}
    (hb : w.heap[b]? = some (.cells c T fr)) (hc : o + n ≤ c.size) (hl : ld ti n g off = some s)
    (h : ∀ j, j < n → oneCell (c.getD (o + j) undef) ∧ R w X E (g j) (c.getD (o + j) undef)) :
    ∃ v, (loadVar t ⟨b, o + off, none⟩).run P w = .ok v w ∧ R w X E s v := by
  obtain ⟨m, a⟩ := ti
  obtain ⟨ha, hsz⟩ := tinf_spec ht w
  cases a with
  | true =>
    simp only [ld, if_true] at hl
    obtain ⟨hle, rfl⟩ := ite_some hl
    have hcell : ∀ j, j < m → w.cell? ((⟨b, o + off, none⟩ : Addr).add j) = some (c.getD (o + (off + j)) undef) := fun j hj => by
      rw [addr_add, cell_block hb (by omega)]
      congr 2
      omega
    refine ⟨.agg ((List.range m).map fun j => c.getD (o + (off + j)) undef).toArray, ?_, ?_⟩
    · simp [loadVar, ha, hsz, run_loadCells w _ m _ hcell]
    · have hg : ∀ i, i < m → ((List.range m).map fun j => c.getD (o + (off + j)) undef).toArray.getD i undef = c.getD (o + (off + i)) undef := fun i hi => by
        simp [Array.getD, hi]
      refine .agg (by simp) (fun i hi => ?_) fun i hi => ?_
      · rw [hg i hi]; exact (h _ (by omega)).1
      · rw [hg i hi]; exact (h _ (by omega)).2
  | false =>
    simp only [ld, Bool.false_eq_true, if_false] at hl
    obtain ⟨hle, rfl⟩ := ite_some hl
    refine ⟨c.getD (o + off) undef, ?_, (h _ hle).2⟩
    simp [loadVar, ha, cell_block hb (show o + off < c.size by omega)]
theorem list_getD_cur {cur : Array Value} {m k : Nat} (h : k < m) : (cur.toList.take m).getD k undef = cur.getD k undef := by
  rw [List.getD_eq_getElem?_getD, List.getElem?_take, if_pos h, Array.getElem?_toList, Array.getD_eq_getD_getElem?]
theorem mul_lt_of {i len n j : Nat} (hi : i < len) (hj : j < n) : i * n + j < len * n := by
  have : (i + 1) * n ≤ len * n := Nat.mul_le_mul_right _ hi
  rw [Nat.add_mul] at this
  omega
/-- The cells of an element of an own or given slice. -/
theorem OwnsR.elem {w T n v len xs b len' cap} (h : OwnsR w T n v len xs) (hv : v = .slice (some ⟨b, 0, none⟩) len' cap) {i : Nat} (hi : i < len) :
    ∃ cur, w.heap[b]? = some (.cells cur T (0, 0)) ∧ i * n + n ≤ cur.size ∧ ∀ j, j < n → cur.getD (i * n + j) undef = xs.getD (i * n + j) undef := by
  rcases h with ⟨a, rfl, rfl, rfl⟩ | ⟨b', cap', cur, rfl, h1, h2, h3, h4, h5, h6⟩
  · omega
  · cases hv
    have hle : (i + 1) * n ≤ (cap' + 1) * n := Nat.mul_le_mul_right _ (by omega)
    rw [Nat.add_mul] at hle
    refine ⟨cur, h1, by omega, fun j hj => ?_⟩
    subst h5
    rw [list_getD_cur (mul_lt_of hi hj)]
theorem evLoad_run {P : Program} {w0 X0 H E w} (h : Rep w0 X0 H E w) {t : TypeId} {ti : Nat × Bool} (ht : tinf P t = some ti) {x : SV} {v : Value} (hx : R w (Xo X0 E H) E x v) {y : Yd}
    (hy : evLoad ti H x = some y) (hask : y.ask) : ∃ ad u, v = .pointer (some ad) ∧ (loadVar t ad).run P w = .ok u w ∧ y.eff = .keep ∧ R w (Xo X0 E H) E y.val u := by
  have fin : ∀ {b off : Nat} {s : SV}, v = .pointer (some ⟨b, off, none⟩) → y.eff = .keep → y.val = s → (∃ u, (loadVar t ⟨b, off, none⟩).run P w = .ok u w ∧ R w (Xo X0 E H) E s u) →
      ∃ ad u, v = .pointer (some ad) ∧ (loadVar t ad).run P w = .ok u w ∧ y.eff = .keep ∧ R w (Xo X0 E H) E y.val u := by
    intro b off s hv he hs ⟨u, hu, hr⟩
    exact ⟨_, u, hv, hu, he, by rw [hs]; exact hr⟩
  cases hx with
  | own he =>
    rename_i k off b
    have hok := h.ok k _ he
    simp only [evLoad] at hy
    generalize H.getD k .dead = so at hy hok
    cases so <;> simp only [reduceCtorEq] at hy
    · rename_i n g T
      obtain ⟨vs, h1, h2, h3⟩ := hok
      simp only [Option.some.injEq] at hy
      subst hy
      have hl := ld_of (g := g) (Fit.le hask)
      · refine fin rfl rfl rfl ?_
        have := run_ld (P := P) ht (o := 0) h1 (by omega) hl (fun j hj => by rw [Nat.zero_add]; exact h3 j hj)
        simpa using this
    · rename_i n g
      obtain ⟨vs, T, fr, h1, hX, h2, h3⟩ := hok
      simp only [Option.some.injEq] at hy
      subst hy
      have hl := ld_of (g := g) (Fit.le hask)
      · refine fin rfl rfl rfl ?_
        have := run_ld (P := P) ht (o := 0) h1 (by omega) hl (fun j hj => by rw [Nat.zero_add]; exact ⟨(h3 j hj).1, (h3 j hj).2.mono (fun _ _ _ => rfl) (Within.refl _ _) (Env.E0_le E)⟩)
        simpa using this
  | ref hb hX hc ho hr =>
    rename_i n g b o c T fr
    simp only [evLoad, Option.some.injEq] at hy
    subst hy
    have hl := ld_of (g := g) (Fit.le hask)
    · refine fin rfl rfl rfl ?_
      have := run_ld (P := P) (off := 0) ht hb hc hl (fun j hj => ⟨ho j hj, (hr j hj).mono (fun _ _ _ => rfl) (Within.refl _ _) (Env.E0_le E)⟩)
      simpa using this
  | ownAt he =>
    rename_i k ver i m off b len' cap
    have hok := h.ok k _ he
    simp only [evLoad] at hy
    generalize H.getD k .dead = so at hy hok
    cases so <;> simp only [reduceCtorEq] at hy
    · rename_i ver' len n g T
      split at hy
      · rename_i hc
        obtain ⟨rfl, rfl⟩ := hc
        obtain ⟨_, xs, h2, h3⟩ := hok
        cases hl : ld ti m (g i) off with
        | none => simp [hl] at hy
        | some s =>
          simp only [hl, Option.map_some, Option.some.injEq] at hy
          subst hy
          obtain ⟨cur, c1, c2, c3⟩ := h2.elem rfl hask.out
          refine fin rfl rfl rfl ?_
          exact run_ld (P := P) ht c1 c2 hl (fun j hj => by rw [c3 j hj]; exact ⟨(h3 i j hask.out hj).1, (h3 i j hask.out hj).2.mono (fun _ _ _ => rfl) (Within.refl _ _) (Env.E0_le E)⟩)
      · cases hy
    · rename_i ver' len n g
      split at hy
      · rename_i hc
        obtain ⟨rfl, rfl⟩ := hc
        obtain ⟨_, h2⟩ := hok
        have hask' : i < len := by
          cases hl : ld ti m (g i) off with
          | none => simp [hl] at hy
          | some s =>
            simp only [hl, Option.map_some, Option.some.injEq] at hy
            subst hy
            exact hask.out
        have hle2 : (i + 1) * m ≤ len * m := Nat.mul_le_mul_right _ hask'
        rw [Nat.add_mul] at hle2
        cases hl : ld ti m (g i) off with
        | none => simp [hl] at hy
        | some s =>
          simp only [hl, Option.map_some, Option.some.injEq] at hy
          subst hy
          cases h2 with
          | sl0 => exact absurd hask' (Nat.not_lt_zero _)
          | sl hb hX hc hl' ho hr =>
            refine fin rfl rfl rfl ?_
            refine run_ld (P := P) ht hb (by omega) hl (fun j hj => ?_)
            have e1 := ho i j hask' hj
            have e2 := (hr i j hask' hj).mono (fun _ _ _ => rfl) (Within.refl _ _) (Env.E0_le E)
            simp only [Nat.zero_add] at e1 e2
            exact ⟨e1, e2⟩
      · cases hy
  | ownAtOld he hl hv =>
    rename_i k ver ver' v' i m off
    have hok := h.ok k _ he
    simp only [evLoad] at hy
    generalize H.getD k .dead = so at hy hok
    cases so <;> simp only [reduceCtorEq] at hy
    · split at hy
      · rename_i hc
        have := hok.1
        omega
      · cases hy
    · split at hy
      · rename_i hc
        have := hok.1
        omega
      · cases hy
  | _ => simp [evLoad] at hy
theorem evLoad_sound {P : Program} {w0 X0 H E w nm} (h : Rep w0 X0 H E w) {t : TypeId} {ti : Nat × Bool} (ht : tinf P t = some ti) {x : SV} {v : Value} (hx : R w (Xo X0 E H) E x v) {y : Yd}
    (hy : evLoad ti H x = some y) (hask : y.ask) : ∃ u w', (Instr.loadAt t v).run P w = .ok u w' ∧ Goes w0 X0 H E w nm y.eff y.val u w' := by
  obtain ⟨ad, u, rfl, h1, h2, h3⟩ := evLoad_run (P := P) h ht hx hy hask
  refine ⟨u, w, by simp [Instr.loadAt, Instr.sureAddr, h1], ?_⟩
  rw [h2]
  exact Goes.pure h h3
end Go.Proofs.YtbmgclpgompjmaaDoor.Sx
