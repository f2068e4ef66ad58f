/- The evaluation tells the truth: every operation. -/
import Derived.Test.YtbmgclpgompjmaaDoorSxk
namespace Go.Proofs.YtbmgclpgompjmaaDoor.Sx
open Go.RowKit
/-- The operation goes through, and leaves a value and a memory of which G tells. -/
def OpOK (P : Program) (o : Oper) (a : Act) (w : World) (G : Value → World → Prop) : Prop :=
  ∀ (next : Act → World → Prop) (Q : Exit → Act → World → Prop), (∀ v w', G v w' → next (a.put o.dst v) w') → o.wp P a w next Q
theorem opOK_val {P : Program} {o : Oper} {a : Act} {w : World} {G : Value → World → Prop} (h : ∃ u w', (execOp a.eval o).run P w = .ok (.value u) w' ∧ G u w') : OpOK P o a w G := by
  intro next Q hn
  obtain ⟨u, w', h1, h2⟩ := h
  unfold Oper.wp
  rw [h1]
  exact hn u w' h2
theorem opOK_skip {P : Program} {o : Oper} {a : Act} {w : World} {G : Value → World → Prop} (h : ∃ w', (execOp a.eval o).run P w = .ok .skip w' ∧ G undef w') : OpOK P o a w G := by
  intro next Q hn
  obtain ⟨w', h1, h2⟩ := h
  unfold Oper.wp
  rw [h1]
  exact hn undef w' h2
theorem opOK_call {P : Program} {o : Oper} {a : Act} {w : World} {G : Value → World → Prop} {f : FuncId} {vs : Array Value} (h : (execOp a.eval o).run P w = .ok (.enter f vs) w)
    (hc : Calls P f vs w fun e w' => ∃ v, e = .returned v ∧ G v w') : OpOK P o a w G := by
  intro next Q hn
  unfold Oper.wp
  rw [h]
  exact hc.mono fun e w' ⟨v, he, hg⟩ => by subst he; exact hn v w' hg
theorem parts_sound {w X E N τ a} (ht : TR w X E N τ a) : ∀ (l : List (Nat × Operand)), PartsR w X E (l.map fun p => (p.1, evO N τ p.2)) (l.map fun p => (p.1, a.eval p.2))
  | [] => trivial
  | (_, x) :: r => ⟨rfl, evO_sound ht x, parts_sound ht r⟩
theorem args_sound {w X E N τ a} (ht : TR w X E N τ a) (xs : Array Operand) : ArgsR w X E (mapArgs N τ xs) (xs.map a.eval) := by
  refine ⟨by simp [mapArgs], fun i hi => ?_⟩
  have hi' : i < xs.size := by simpa [mapArgs] using hi
  have e1 : (mapArgs N τ xs).getD i .any = evO N τ xs[i] := by simp [mapArgs, List.getD_eq_getElem?_getD, hi']
  have e2 : (xs.map a.eval).getD i undef = a.eval xs[i] := by simp [Array.getD, hi']
  rw [e1, e2]
  exact evO_sound ht _
theorem optO_sound {w X E N τ a} (ht : TR w X E N τ a) {x : Option Operand} {r : Option (IntKind × Int)} (h : optO N τ x = some r) : x.map a.eval = optV r := by
  cases x with
  | none => simp only [optO, Option.some.injEq] at h; subst h; rfl
  | some x =>
    simp only [optO] at h
    have hr := evO_sound ht x
    generalize hv : a.eval x = v at hr
    generalize evO N τ x = s at h hr
    cases hr <;> simp only [reduceCtorEq, Option.some.injEq] at h
    subst h
    simp [optV, hv]
theorem int_inv {w X E k n v} (h : R w X E (.int k n) v) : v = .int k n := by cases h; rfl
theorem foldI_sound {P : Program} {w X E} (f : Int → Int → Int) (m2 : Value → Value → Sem Value) (hm : ∀ k x y, (m2 (.int k x) (.int k y)).run P w = .ok (.int k (f x y)) w) :
    ∀ (ss : List SV) (vs : List Value) (k : IntKind) (x : Int) (y : Yd), ss.length = vs.length → (∀ i, i < ss.length → R w X E (ss.getD i .any) (vs.getD i undef)) → foldI f k x ss = some y →
      ∃ n, y = ⟨True, .int k n, .keep⟩ ∧ (vs.foldlM m2 (.int k x)).run P w = .ok (.int k n) w
  | [], [], k, x, y, _, _, hy => by simp only [foldI, pureY, Option.some.injEq] at hy; exact ⟨x, hy.symm, rfl⟩
  | s :: ss, v :: vs, k, x, y, hl, hr, hy => by
    have h0 := hr 0 (by simp)
    simp only [List.getD_cons_zero] at h0
    cases s <;> simp only [foldI, reduceCtorEq] at hy
    rename_i k' b
    split at hy
    case isFalse => cases hy
    rename_i hk
    subst hk
    have hv := int_inv h0
    subst hv
    obtain ⟨n, h1, h2⟩ := foldI_sound f m2 hm ss vs k (f x b) y (by simpa using hl) (fun i hi => by have := hr (i + 1) (by simpa using hi); simpa using this) hy
    exact ⟨n, h1, by simp only [List.foldlM_cons, Sem.run_bind, hm, Result.andThen_ok, h2]⟩
  | [], _ :: _, _, _, _, hl, _, _ => by simp at hl
  | _ :: _, [], _, _, _, hl, _, _ => by simp at hl
theorem evMin_sound {P : Program} {w0 X0 H E w nm} (h : Rep w0 X0 H E w) (f : Int → Int → Int) (m2 : Value → Value → Sem Value) (hm : ∀ k x y, (m2 (.int k x) (.int k y)).run P w = .ok (.int k (f x y)) w)
    {ss : List SV} {vs : Array Value} (ha : ArgsR w (Xo X0 E H) E ss vs) {y : Yd} (hy : evMin f ss = some y) :
    ∃ x r, vs.toList = x :: r ∧ ∃ u, (r.foldlM m2 x).run P w = .ok u w ∧ Goes w0 X0 H E w nm y.eff y.val u w := by
  cases ss with
  | nil => simp [evMin] at hy
  | cons s ss =>
    obtain ⟨hl, hr⟩ := ha
    cases hv : vs.toList with
    | nil =>
      have : vs.size = 0 := by rw [← Array.length_toList, hv]; rfl
      simp [this] at hl
    | cons v r =>
      have hget : ∀ i, vs.getD i undef = (v :: r).getD i undef := fun i => by rw [← toList_getD, hv]
      have h0 := hr 0 (by simp)
      rw [hget] at h0
      simp only [List.getD_cons_zero] at h0
      cases s <;> simp only [evMin, reduceCtorEq] at hy
      rename_i k a
      have hvv := int_inv h0
      subst hvv
      obtain ⟨n, h1, h2⟩ := foldI_sound (P := P) (w := w) (X := Xo X0 E H) (E := E) f m2 hm ss r k a y (by rw [← Array.length_toList, hv] at hl; simpa using hl.symm)
        (fun i hi => by have := hr (i + 1) (by simpa using hi); rw [hget] at this; simpa using this) hy
      subst h1
      exact ⟨_, _, rfl, _, h2, Goes.pure h .int⟩
theorem evBuiltin_sound {P : Program} {w0 X0 H E w nm} (h : Rep w0 X0 H E w) {b : Builtin} {ats : Array TypeId} {ty : TypeId} {cs : Array Bool} {ss : List SV} {vs : Array Value} (ha : ArgsR w (Xo X0 E H) E ss vs) {y : Yd}
    (hy : evBuiltin P H nm b ats ss = some y) (hask : y.ask) (hf : Free H E nm y.eff) : ∃ u w', (builtin b ats ty cs vs).run P w = .ok (.value u) w' ∧ Goes w0 X0 H E w nm y.eff y.val u w' := by
  unfold evBuiltin at hy
  split at hy
  · -- append
    split at hy
    case h_2 => cases hy
    rename_i t t' s x hats
    split at hy
    case isFalse => cases hy
    rename_i htt
    subst htt
    cases hte : tsl P t with
    | none => simp [hte] at hy
    | some te =>
      simp only [hte] at hy
      cases hz : tzero P te.1 with
      | none => simp [hz] at hy
      | some z =>
        simp only [hz] at hy
        have hat : ats = #[t, t] := by rw [← hats]
        obtain ⟨hl, hr⟩ := ha
        have hvs : vs = #[vs.getD 0 undef, vs.getD 1 undef] := by
          apply Array.ext
          · simpa using hl
          · intro i h1 h2
            simp only [List.size_toArray, List.length_cons, List.length_nil] at h2
            obtain rfl | rfl : i = 0 ∨ i = 1 := by omega
            · simp [Array.getD, h1]
            · simp [Array.getD, h1]
        obtain ⟨r, w', h1, h2⟩ := evAppend_sound (P := P) (ty := ty) h hte hz (hr 0 (by simp)) (hr 1 (by simp)) hy hask hf
        refine ⟨r, w', ?_, h2⟩
        rw [hat, hvs, BigFrame.builtin_append]
        simp only [Sem.run_bind, h1, Result.andThen_ok, Sem.run_pure]
  · -- len
    split at hy
    case h_2 => cases hy
    rename_i t s hats
    have hat : ats = #[t] := by rw [← hats]
    obtain ⟨hl, hr⟩ := ha
    have hvs : vs = #[vs.getD 0 undef] := by
      apply Array.ext
      · simpa using hl
      · intro i h1 h2
        simp only [List.size_toArray, List.length_cons, List.length_nil] at h2
        obtain rfl : i = 0 := by omega
        simp [Array.getD, h1]
    have hr0 := hr 0 (by simp)
    simp only [List.getD_cons_zero] at hr0
    cases hte : tsl P t with
    | some te =>
      simp only [hte] at hy
      obtain ⟨ti, h1, h2, h3, h4⟩ := tsl_spec hte
      have hel : P.elem t = te.1 := by unfold Program.elem; rw [h1]
      have key : ∀ n, lenOf H s = some n → (∀ q, s ≠ .str q) → y = ⟨True, .int .i64 n, .keep⟩ → ∃ u w', (builtin .len ats ty cs vs).run P w = .ok (.value u) w' ∧ Goes w0 X0 H E w nm y.eff y.val u w' := by
        rintro n hn hns rfl
        obtain ⟨u, w', g1, g2⟩ := len_sound (P := P) (ty := ty) (nm := nm) h (by rw [hel]; exact h1) hr0 hn hns
        refine ⟨u, w', ?_, g2⟩
        rw [hat, hvs, BigFrame.builtin_len]
        simp only [Sem.run_bind, g1, Result.andThen_ok, Sem.run_pure]
      split at hy
      · cases hy
      · rename_i hns
        cases hn : lenOf H s with
        | none => simp [hn] at hy
        | some n =>
          simp only [hn, Option.some.injEq] at hy
          exact key n hn (fun q hq => hns q hq) hy.symm
    | none =>
      simp only [hte] at hy
      cases hai : tarr P t with
      | none => simp [hai] at hy
      | some ai =>
        simp only [hai, pureY, Option.some.injEq] at hy
        subst hy
        obtain ⟨len, es, ag⟩ := ai
        obtain ⟨e, ti, h1, h2, h3, h4⟩ := tarr_spec hai
        refine ⟨_, w, ?_, Goes.pure h .int⟩
        rw [hat, hvs, BigFrame.builtin_len]
        simp only [Builtin.len_, Sem.run_bind, run_underlying h1, Result.andThen_ok, Sem.run_pure, List.getElem?_toArray, List.getElem?_cons_zero]
        rfl
  · -- copy
    split at hy
    case h_2 => cases hy
    rename_i t t' s x hats
    cases hte : tsl P t with
    | none => simp [hte] at hy
    | some te =>
      simp only [hte] at hy
      have hat : ats = #[t, t'] := by rw [← hats]
      obtain ⟨hl, hr⟩ := ha
      have hvs : vs = #[vs.getD 0 undef, vs.getD 1 undef] := by
        apply Array.ext
        · simpa using hl
        · intro i h1 h2
          simp only [List.size_toArray, List.length_cons, List.length_nil] at h2
          obtain rfl | rfl : i = 0 ∨ i = 1 := by omega
          · simp [Array.getD, h1]
          · simp [Array.getD, h1]
      obtain ⟨r, w', h1, h2⟩ := evCopy_sound (P := P) (ty := ty) (t' := t') (nm := nm) h hte (hr 0 (by simp)) (hr 1 (by simp)) hy
      refine ⟨r, w', ?_, h2⟩
      rw [hat, hvs, BigFrame.builtin_copy]
      simp only [Sem.run_bind, h1, Result.andThen_ok, Sem.run_pure]
  · -- min
    obtain ⟨x, r, h1, u, h2, h3⟩ := evMin_sound (P := P) (nm := nm) h (fun a b => if b < a then b else a) Builtin.min2 (fun k x y => rfl) ha hy
    refine ⟨u, w, ?_, h3⟩
    rw [BigFrame.builtin_min]
    simp only [Builtin.min_, h1, Sem.run_bind, h2, Result.andThen_ok, Sem.run_pure]
  · obtain ⟨x, r, h1, u, h2, h3⟩ := evMin_sound (P := P) (nm := nm) h (fun a b => if b > a then b else a) Builtin.max2 (fun k x y => rfl) ha hy
    refine ⟨u, w, ?_, h3⟩
    rw [BigFrame.builtin_max]
    simp only [Builtin.max_, h1, Sem.run_bind, h2, Result.andThen_ok, Sem.run_pure]
  · cases hy
theorem evNil_sound {P : Program} {w0 X0 H E w nm} (h : Rep w0 X0 H E w) {x : Operand} {a : Act} {s : SV} (hx : R w (Xo X0 E H) E s (a.eval x)) {y : Yd} (hy : evNil s = some y) {o : Oper} (ho : o.op = .nilCheck x) :
    ∃ u w', (execOp a.eval o).run P w = .ok (.value u) w' ∧ Goes w0 X0 H E w nm y.eff y.val u w' := by
  refine ⟨a.eval x, w, ?_, ?_⟩
  · simp only [execOp, ho]
    generalize a.eval x = v at hx
    cases hx <;> simp only [evNil, reduceCtorEq] at hy
    · rfl
    · rfl
    · rfl
    · rfl
    · rename_i hv
      obtain ⟨b, o', rfl⟩ := hv
      rfl
  · cases s <;> simp only [evNil, pureY, reduceCtorEq, Option.some.injEq] at hy <;> subst hy <;> exact Goes.pure h hx
end Go.Proofs.YtbmgclpgompjmaaDoor.Sx
