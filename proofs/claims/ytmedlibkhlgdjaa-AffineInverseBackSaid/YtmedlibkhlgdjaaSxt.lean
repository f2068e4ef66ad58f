/- One description of a state follows from another; what is given away ahead of a region. -/
import Derived.Test.YtmedlibkhlgdjaaSxs
namespace Go.Proofs.Ytmedlibkhlgdjaa.Sx
open Go.RowKit
def isCells : SO → Bool
  | .cells .. => true
  | .scells .. => true
  | _ => false
def rowVer : SO → Option Nat
  | .row ver _ _ _ _ => some ver
  | .srow ver _ _ _ => some ver
  | _ => none
/-- Whatever s stands for (over the objects H), t stands for (over H'). -/
def SVle (H H' : List SO) (s t : SV) : Prop :=
  match t with
  | .any => True
  | .int k n => match s with | .int k' n' => Ask (k' = k) ∧ Ask (n' = n) | _ => False
  | .bool b => match s with | .bool b' => Ask (b' = b) | .lit b' => Ask (b' = b) | _ => False
  | .lit b => match s with | .bool b' => Ask (b' = b) | .lit b' => Ask (b' = b) | _ => False
  | .str x => match s with | .str x' => Ask (x' = x) | _ => False
  | .nilfn => match s with | .nilfn => True | _ => False
  | .cap0 => match s with | .cap0 => True | _ => False
  | .fn f n g => match s with | .fn f' n' g' => if f' = f ∧ n' = n then allN n fun i => SVle H H' (g' i) (g i) else False | _ => False
  | .agg n g => match s with | .agg n' g' => if n' = n then allN n fun i => SVle H H' (g' i) (g i) else False | _ => False
  | .tup n g => match s with | .tup n' g' => if n' = n then allN n fun i => SVle H H' (g' i) (g i) else False | _ => False
  | .sl len n g => match s with
    | .sl len' n' g' => if n' = n then Ask (len' = len) ∧ ∀ i, i < len → allN n fun j => SVle [] [] (g' i j) (g i j) else False
    | .cap0 => Ask (len = 0)
    | _ => False
  | .ref n g => match s with | .ref n' g' => if n ≤ n' then allN n fun i => SVle [] [] (g' i) (g i) else False | _ => False
  | .own k off => match s with | .own k' off' => if k' = k ∧ isCells (H'.getD k .dead) = true then Ask (off' = off) else False | _ => False
  | .osl k ver => match s with | .osl k' ver' => if k' = k ∧ rowVer (H.getD k .dead) = some ver' ∧ rowVer (H'.getD k .dead) = some ver then True else False | _ => False
  | .ownAt .. => False
theorem ite_False {c : Prop} [Decidable c] {p : Prop} (h : if c then p else False) : c ∧ p := by
  by_cases hc : c
  · rw [if_pos hc] at h; exact ⟨hc, h⟩
  · rw [if_neg hc] at h; exact h.elim
/-- E, for the objects that H' still tells of. -/
def Env.cut (E : Env) (H' : List SO) : Env := fun k => match E k with
  | some (.blk b) => if isCells (H'.getD k .dead) = true then some (.blk b) else none
  | some (.slc _ v) => match rowVer (H'.getD k .dead) with
    | some ver => some (.slc ver v)
    | none => none
  | none => none
theorem SVle_sound {w : World} {X X' : Nat → Prop} (hx : ∀ b, X' b → X b) {H H' : List SO} : ∀ {E : Env} {s t : SV} {v : Value}, (∀ k ver v, E k = some (.slc ver v) → ∀ ver', rowVer (H.getD k .dead) = some ver' → ver' = ver) → SVle H H' s t → R w X E s v → R w X' (E.cut H') t v := by
  intro E s t
  induction t generalizing E s H H' with
  | any => intro v _ _ _; exact .any
  | int k n => intro v _ hl hr; cases hr <;> simp only [SVle] at hl; obtain ⟨⟨rfl⟩, ⟨rfl⟩⟩ := hl; exact .int
  | bool b => intro v _ hl hr; cases hr <;> simp only [SVle] at hl <;> (obtain ⟨rfl⟩ := hl; exact .bool)
  | lit b => intro v _ hl hr; cases hr <;> simp only [SVle] at hl <;> (obtain ⟨rfl⟩ := hl; exact .lit)
  | str x => intro v _ hl hr; cases hr <;> simp only [SVle] at hl; obtain ⟨rfl⟩ := hl; exact .str
  | nilfn => intro v _ hl hr; cases hr <;> simp only [SVle] at hl; exact .nilfn
  | cap0 => intro v _ hl hr; cases hr <;> simp only [SVle] at hl; exact .cap0
  | fn f n g ih =>
    intro v hE hl hr
    cases hr <;> simp only [SVle] at hl
    rename_i hs hr
    obtain ⟨⟨rfl, rfl⟩, hl2⟩ := ite_False hl
    exact .fn hs fun i hi => ih i hE (allN_get hl2 i hi) (hr i hi)
  | agg n g ih =>
    intro v hE hl hr
    cases hr <;> simp only [SVle] at hl
    rename_i hs ho hr
    obtain ⟨rfl, hl2⟩ := ite_False hl
    exact .agg hs ho fun i hi => ih i hE (allN_get hl2 i hi) (hr i hi)
  | tup n g ih =>
    intro v hE hl hr
    cases hr <;> simp only [SVle] at hl
    rename_i hs hr
    obtain ⟨rfl, hl2⟩ := ite_False hl
    exact .tup hs fun i hi => ih i hE (allN_get hl2 i hi) (hr i hi)
  | sl len n g ih =>
    intro v hE hl hr
    cases hr <;> simp only [SVle] at hl
    · obtain ⟨rfl⟩ := hl; exact .sl0
    · obtain ⟨rfl, ⟨rfl⟩, hl2⟩ := ite_False hl; exact .sl0
    · rename_i hb hX hc hlc ho hr
      obtain ⟨rfl, ⟨rfl⟩, hl2⟩ := ite_False hl
      refine .sl hb (fun h => hX (hx _ h)) hc hlc ho fun i j hi hj => ?_
      have := ih i j (E := E0) (fun k ver v h => by cases h) (allN_get (hl2 i hi) j hj) (hr i j hi hj)
      refine this.mono (X := X') (fun _ _ _ => rfl) (Within.refl _ _) ⟨fun k b h => ?_, fun k ver v h => ?_⟩ <;> simp [Env.cut, E0] at h
  | ref n g ih =>
    intro v hE hl hr
    cases hr <;> simp only [SVle] at hl
    rename_i hb hX hc ho hr
    obtain ⟨hn, hl2⟩ := ite_False hl
    refine .ref hb (fun h => hX (hx _ h)) (by omega) (fun j hj => ho j (by omega)) fun j hj => ?_
    have := ih j (E := E0) (fun k ver v h => by cases h) (allN_get hl2 j hj) (hr j (by omega))
    refine this.mono (X := X') (fun _ _ _ => rfl) (Within.refl _ _) ⟨fun k b h => ?_, fun k ver v h => ?_⟩ <;> simp [Env.cut, E0] at h
  | own k off =>
    intro v _ hl hr
    cases hr <;> simp only [SVle] at hl
    rename_i he
    obtain ⟨⟨rfl, hc⟩, ⟨rfl⟩⟩ := ite_False hl
    refine .own ?_
    simp only [Env.cut, he, hc, if_true]
  | osl k ver =>
    intro v hE hl hr
    cases hr <;> simp only [SVle] at hl
    · obtain ⟨⟨rfl, h1, h2⟩, hu⟩ := ite_False hl
      rename_i hv he
      refine .osl ?_ hv
      simp only [Env.cut, he, h2]
    · obtain ⟨⟨rfl, h1, h2⟩, hu⟩ := ite_False hl
      have := hE _ _ _ (by assumption) _ h1
      omega
  | ownAt => intro v _ hl _; simp only [SVle] at hl
def SOle (H H' : List SO) (s t : SO) : Prop :=
  match t with
  | .dead => True
  | .cells n g T => match s with | .cells n' g' T' => if n' = n ∧ T' = T then allN n fun i => SVle H H' (g' i) (g i) else False | _ => False
  | .scells n g => match s with | .scells n' g' => if n' = n then allN n fun i => SVle [] [] (g' i) (g i) else False | _ => False
  | .row _ len n g T => match s with | .row _ len' n' g' T' => if n' = n ∧ T' = T then Ask (len' = len) ∧ ∀ i, i < len → allN n fun j => SVle [] [] (g' i j) (g i j) else False | _ => False
  | .srow _ len n g => match s with | .srow _ len' n' g' => if n' = n then Ask (len' = len) ∧ ∀ i, i < len → allN n fun j => SVle [] [] (g' i j) (g i j) else False | _ => False
def allLe (H H' : List SO) : List SO → List SO → Prop
  | _, [] => True
  | [], t :: r => SOle H H' .dead t ∧ allLe H H' [] r
  | s :: l, t :: r => SOle H H' s t ∧ allLe H H' l r
def tmpLe (H H' : List SO) (τ : Tmps) : Tmps → Prop
  | [] => True
  | (t, s) :: r => SVle H H' (lookT τ t) s ∧ tmpLe H H' τ r
/-- The state s is as t describes it. -/
def StLe (s t : St) : Prop := tmpLe s.H t.H s.τ t.τ ∧ allLe s.H t.H s.H t.H
theorem allLe_get {H H' : List SO} : ∀ {l r : List SO}, allLe H H' l r → ∀ k, SOle H H' (l.getD k .dead) (r.getD k .dead)
  | l, [], _, k => by simp [SOle]
  | [], t :: r, h, 0 => h.1
  | [], t :: r, h, k + 1 => by have := allLe_get h.2 k; simpa using this
  | s :: l, t :: r, h, 0 => h.1
  | s :: l, t :: r, h, k + 1 => by have := allLe_get h.2 k; simpa using this
theorem tmpLe_get {H H' : List SO} {τ : Tmps} : ∀ {r : Tmps}, tmpLe H H' τ r → ∀ t, SVle H H' (lookT τ t) (lookT r t)
  | [], _, t => by simp [lookT, SVle]
  | (u, s) :: r, h, t => by
    simp only [lookT]
    split
    · rename_i hu; subst hu; exact h.1
    · exact tmpLe_get h.2 t
theorem EIok_ver {w X E v} {ver : Nat} {so : SO} (h : EIok w X E (.slc ver v) so) {ver' : Nat} (hr : rowVer so = some ver') : ver' = ver := by
  cases so <;> simp only [rowVer, Option.some.injEq, reduceCtorEq] at hr
  · subst hr; exact h.1.symm
  · subst hr; exact h.1.symm
theorem E0_cut (H : List SO) : E0.cut H = E0 := rfl
theorem StR.le {w0 X0 N} {s t : St} {a : Act} {w : World} (h : StR w0 X0 N s a w) (hl : StLe s t) : StR w0 X0 N t a w := by
  obtain ⟨E, hrep, htr⟩ := h
  obtain ⟨h1, h2⟩ := hl
  have hget := allLe_get h2
  have cutS : ∀ k e, (E.cut t.H) k = some e → ∃ e0, E k = some e0 ∧ holds e (t.H.getD k .dead) = holds e0 (s.H.getD k .dead) := by
    intro k e he
    have hg := hget k
    simp only [Env.cut] at he
    cases hE : E k with
    | none => simp [hE] at he
    | some e0 =>
      refine ⟨e0, rfl, ?_⟩
      have hok := hrep.ok k e0 hE
      rw [hE] at he
      generalize s.H.getD k .dead = so at hg hok
      generalize t.H.getD k .dead = to at hg he
      cases e0 with
      | blk b =>
        simp only at he
        obtain ⟨hc, rfl⟩ := ite_some he
        cases to <;> simp only [isCells, Bool.false_eq_true] at hc <;> cases so <;> simp only [SOle] at hg <;> rfl
      | slc ver v =>
        simp only at he
        cases to <;> simp only [rowVer, reduceCtorEq, Option.some.injEq] at he <;> subst he <;> cases so <;> simp only [SOle] at hg
        · exact holds_row _ _ _ _ _ _ _ _ _ _ _ _ _
        · rw [holds_srow, holds_srow]
  have hx : ∀ b, Xo X0 (E.cut t.H) t.H b → Xo X0 E s.H b := by
    rintro b (hb | ⟨k, e, he, hh⟩)
    · exact .inl hb
    · obtain ⟨e0, h3, h4⟩ := cutS k e he
      exact .inr ⟨k, e0, h3, by rw [← h4]; exact hh⟩
  have hver : ∀ k ver v, E k = some (.slc ver v) → ∀ ver', rowVer (s.H.getD k .dead) = some ver' → ver' = ver := fun k ver v he ver' hr => EIok_ver (hrep.ok k _ he) hr
  have pure0 : ∀ {sv tv : SV} {v : Value}, SVle [] [] sv tv → R w (Xo X0 E s.H) E0 sv v → R w (Xo X0 (E.cut t.H) t.H) E0 tv v := fun hl hr => by
    have := SVle_sound hx (E := E0) (fun k ver v h => by cases h) hl hr
    rwa [E0_cut] at this
  refine ⟨E.cut t.H, ⟨hrep.below, hrep.x0, fun k e he => ?_, fun k e he => ?_, fun k e b he hb => ?_, fun k k' e e' b he he' hb hb' => ?_⟩, htr.1, htr.2.1, fun u hu => SVle_sound hx hver (tmpLe_get h1 u) (htr.2.2 u hu)⟩
  · refine Nat.not_le.1 fun hc => ?_
    have hd : t.H.getD k .dead = .dead := by rw [List.getD_eq_getElem?_getD, List.getElem?_eq_none hc]; rfl
    simp only [Env.cut, hd] at he
    cases hE : E k with
    | none => simp [hE] at he
    | some e0 => cases e0 <;> simp [hE, isCells, rowVer] at he
  · have hg := hget k
    simp only [Env.cut] at he
    cases hE : E k with
    | none => simp [hE] at he
    | some e0 =>
      have hok := hrep.ok k e0 hE
      rw [hE] at he
      generalize s.H.getD k .dead = so at hg hok
      generalize t.H.getD k .dead = to at hg he
      cases e0 with
      | blk b =>
        simp only at he
        obtain ⟨hc, rfl⟩ := ite_some he
        cases to <;> simp only [isCells, Bool.false_eq_true] at hc <;> cases so <;> simp only [SOle] at hg
        · obtain ⟨⟨rfl, rfl⟩, hg2⟩ := ite_False hg
          obtain ⟨vs, g1, g2, g3⟩ := hok
          exact ⟨vs, g1, g2, fun i hi => ⟨(g3 i hi).1, SVle_sound hx hver (allN_get hg2 i hi) (g3 i hi).2⟩⟩
        · obtain ⟨rfl, hg2⟩ := ite_False hg
          obtain ⟨vs, T, fr, g1, g2, g3, g4⟩ := hok
          exact ⟨vs, T, fr, g1, fun hc => g2 (hx _ hc), g3, fun i hi => ⟨(g4 i hi).1, pure0 (allN_get hg2 i hi) (g4 i hi).2⟩⟩
      | slc ver v =>
        simp only at he
        cases to <;> simp only [rowVer, reduceCtorEq, Option.some.injEq] at he <;> subst he <;> cases so <;> simp only [SOle] at hg
        · obtain ⟨⟨rfl, rfl⟩, ⟨rfl⟩, hg2⟩ := ite_False hg
          obtain ⟨g1, xs, g2, g3⟩ := hok
          exact ⟨rfl, xs, g2, fun i j hi hj => ⟨(g3 i j hi hj).1, pure0 (allN_get (hg2 i hi) j hj) (g3 i j hi hj).2⟩⟩
        · rename_i ver' len n g ver'' len' n' g'
          refine ⟨rfl, pure0 (sv := .sl len' n' g') ?_ hok.2⟩
          simp only [SVle]
          exact hg
  · obtain ⟨e0, h3, h4⟩ := cutS k e he
    exact hrep.low k e0 b h3 (by rw [← h4]; exact hb)
  · obtain ⟨e0, h3, h4⟩ := cutS k e he
    obtain ⟨e1, h5, h6⟩ := cutS k' e' he'
    exact hrep.inj k k' e0 e1 b h3 h5 (by rw [← h4]; exact hb) (by rw [← h6]; exact hb')
end Go.Proofs.Ytmedlibkhlgdjaa.Sx
