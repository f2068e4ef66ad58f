/- One description of a state follows from another; what is given away ahead of a region. -/
import Derived.Test.YtbmgclpgompjmaaDoorSxs
namespace Go.Proofs.YtbmgclpgompjmaaDoor.Sx
open Go.RowKit
def isCells : SO → Bool
  | .cells .. => true
  | .scells .. => true
  | _ => false
def rowVer : SO → Option Nat
  | .row ver _ _ _ _ => some ver
  | .srow ver _ _ _ => some ver
  | _ => none
/-- Whatever s stands for (over the objects H), t stands for (over H'). -/
def SVle (H H' : List SO) (s t : SV) : Prop :=
  match t with
  | .any => True
  | .int k n => match s with | .int k' n' => Ask (k' = k) ∧ Ask (n' = n) | _ => False
  | .bool b => match s with | .bool b' => Ask (b' = b) | .lit b' => Ask (b' = b) | _ => False
  | .lit b => match s with | .bool b' => Ask (b' = b) | .lit b' => Ask (b' = b) | _ => False
  | .str x => match s with | .str x' => Ask (x' = x) | _ => False
  | .nilfn => match s with | .nilfn => True | _ => False
  | .cap0 => match s with | .cap0 => True | _ => False
  | .fn f n g => match s with | .fn f' n' g' => if n' = n then Ask (f' = f) ∧ allN n fun i => SVle H H' (g' i) (g i) else False | _ => False
  | .agg n g => match s with | .agg n' g' => if n' = n then allN n fun i => SVle H H' (g' i) (g i) else False | _ => False
  | .tup n g => match s with | .tup n' g' => if n' = n then allN n fun i => SVle H H' (g' i) (g i) else False | _ => False
  | .sl len n g => match s with
    | .sl len' n' g' => if n' = n then Ask (len' = len) ∧ ∀ i, i < len → allN n fun j => SVle [] [] (g' i j) (g i j) else False
    | .slN len' n' g' => if n' = n then Ask (len' = len) ∧ ∀ i, i < len → allN n fun j => SVle [] [] (g' i j) (g i j) else False
    | .cap0 => Ask (len = 0)
    | .nilsl => Ask (len = 0)
    | _ => False
  | .nilsl => match s with | .nilsl => True | _ => False
  | .slN .. => False
  | .ref n g => match s with | .ref n' g' => if n ≤ n' then allN n fun i => SVle [] [] (g' i) (g i) else False | _ => False
  | .own k off => match s with | .own k' off' => if k' = k ∧ isCells (H'.getD k .dead) = true then Ask (off' = off) else False | _ => False
  | .osl k ver => match s with | .osl k' ver' => if k' = k ∧ rowVer (H.getD k .dead) = some ver' ∧ rowVer (H'.getD k .dead) = some ver then True else False | _ => False
  | .ownAt .. => False
  | .win k ver n lo len => match s with | .win k' ver' n' lo' len' => if (k' = k ∧ n' = n) ∧ rowVer (H.getD k .dead) = some ver' ∧ rowVer (H'.getD k .dead) = some ver then Ask (lo' = lo) ∧ Ask (len' = len) else False | _ => False
theorem ite_False {c : Prop} [Decidable c] {p : Prop} (h : if c then p else False) : c ∧ p := by
  by_cases hc : c
  · rw [if_pos hc] at h; exact ⟨hc, h⟩
  · rw [if_neg hc] at h; exact h.elim
theorem ite_none {α : Type} {c : Prop} [Decidable c] {a : Option α} {b : α} (h : (if c then a else none) = some b) : c ∧ a = some b := by
  by_cases hc : c
  · rw [if_pos hc] at h; exact ⟨hc, h⟩
  · rw [if_neg hc] at h; cases h
/-- E, for the objects that H' still tells of. -/
def Env.cut (E : Env) (H' : List SO) : Env := fun k => if k < H'.length then match E k with
  | some (.blk b) => some (.blk b)
  | some (.slc _ v) => some (.slc ((rowVer (H'.getD k .dead)).getD 0) v)
  | none => none
  else none
theorem getD_dead {H : List SO} {k : Nat} (h : ¬ k < H.length) : H.getD k .dead = .dead := by rw [List.getD_eq_getElem?_getD, List.getElem?_eq_none (Nat.not_lt.1 h)]; rfl
theorem cut_blk {E : Env} {H' : List SO} {k b : Nat} (h : E k = some (.blk b)) (hk : k < H'.length) : E.cut H' k = some (.blk b) := by simp only [Env.cut, if_pos hk, h]
theorem cut_slc {E : Env} {H' : List SO} {k ver ver' : Nat} {v : Value} (h : E k = some (.slc ver v)) (hv : rowVer (H'.getD k .dead) = some ver') : E.cut H' k = some (.slc ver' v) := by
  have hk : k < H'.length := Classical.byContradiction fun hc => by rw [getD_dead hc] at hv; cases hv
  simp only [Env.cut, if_pos hk, h, hv, Option.getD_some]
theorem E0_cut (H : List SO) : E0.cut H = E0 := by
  funext k
  simp [Env.cut, E0]
theorem SVle_sound {w : World} {X X' : Nat → Prop} (hx : ∀ b, X' b → X b) {H H' : List SO} : ∀ {E : Env} {s t : SV} {v : Value}, (∀ k ver v, E k = some (.slc ver v) → ∀ ver', rowVer (H.getD k .dead) = some ver' → ver' = ver) → SVle H H' s t → R w X E s v → R w X' (E.cut H') t v := by
  intro E s t
  induction t generalizing E s H H' with
  | any => intro v _ _ _; exact .any
  | int k n => intro v _ hl hr; cases hr <;> simp only [SVle] at hl; obtain ⟨⟨rfl⟩, ⟨rfl⟩⟩ := hl; exact .int
  | bool b => intro v _ hl hr; cases hr <;> simp only [SVle] at hl <;> (obtain ⟨rfl⟩ := hl; exact .bool)
  | lit b => intro v _ hl hr; cases hr <;> simp only [SVle] at hl <;> (obtain ⟨rfl⟩ := hl; exact .lit)
  | str x => intro v _ hl hr; cases hr <;> simp only [SVle] at hl; obtain ⟨rfl⟩ := hl; exact .str
  | nilfn => intro v _ hl hr; cases hr <;> simp only [SVle] at hl; exact .nilfn
  | cap0 => intro v _ hl hr; cases hr <;> simp only [SVle] at hl; exact .cap0
  | fn f n g ih =>
    intro v hE hl hr
    cases hr <;> simp only [SVle] at hl
    rename_i hs hr
    obtain ⟨rfl, ⟨rfl⟩, hl2⟩ := ite_False hl
    exact .fn hs fun i hi => ih i hE (allN_get hl2 i hi) (hr i hi)
  | agg n g ih =>
    intro v hE hl hr
    cases hr <;> simp only [SVle] at hl
    rename_i hs ho hr
    obtain ⟨rfl, hl2⟩ := ite_False hl
    exact .agg hs ho fun i hi => ih i hE (allN_get hl2 i hi) (hr i hi)
  | tup n g ih =>
    intro v hE hl hr
    cases hr <;> simp only [SVle] at hl
    rename_i hs hr
    obtain ⟨rfl, hl2⟩ := ite_False hl
    exact .tup hs fun i hi => ih i hE (allN_get hl2 i hi) (hr i hi)
  | sl len n g ih =>
    intro v hE hl hr
    have onSl : ∀ {len' n' : Nat} {g' : Nat → Nat → SV} {v : Value}, (if n' = n then Ask (len' = len) ∧ ∀ i, i < len → allN n fun j => SVle [] [] (g' i j) (g i j) else False) → R w X E (.sl len' n' g') v → R w X' (E.cut H') (.sl len n g) v := by
      intro len' n' g' v hl hr
      cases hr with
      | sl0 => obtain ⟨rfl, ⟨rfl⟩, hl2⟩ := ite_False hl; exact .sl0
      | sl hb hX hc hlc ho hr =>
        obtain ⟨rfl, ⟨rfl⟩, hl2⟩ := ite_False hl
        refine .sl hb (fun h => hX (hx _ h)) hc hlc ho fun i j hi hj => ?_
        have := ih i j (E := E0) (fun k ver v h => by cases h) (allN_get (hl2 i hi) j hj) (hr i j hi hj)
        rw [E0_cut] at this
        exact this
    cases s <;> simp only [SVle] at hl
    · cases hr; obtain ⟨rfl⟩ := hl; exact .sl0
    · exact onSl hl hr
    · cases hr; obtain ⟨rfl⟩ := hl; exact .sl0
    · cases hr with | slN hr => exact onSl hl hr
  | nilsl => intro v _ hl hr; cases hr <;> simp only [SVle] at hl; exact .nilsl
  | slN => intro v _ hl _; simp only [SVle] at hl
  | ref n g ih =>
    intro v hE hl hr
    cases hr <;> simp only [SVle] at hl
    rename_i hb hX hc ho hr
    obtain ⟨hn, hl2⟩ := ite_False hl
    refine .ref hb (fun h => hX (hx _ h)) (by omega) (fun j hj => ho j (by omega)) fun j hj => ?_
    have := ih j (E := E0) (fun k ver v h => by cases h) (allN_get hl2 j hj) (hr j (by omega))
    rw [E0_cut] at this
    exact this
  | own k off =>
    intro v _ hl hr
    cases hr <;> simp only [SVle] at hl
    rename_i he
    obtain ⟨⟨rfl, hc⟩, ⟨rfl⟩⟩ := ite_False hl
    exact .own (cut_blk he (Classical.byContradiction fun hk => by rw [getD_dead hk] at hc; cases hc))
  | osl k ver =>
    intro v hE hl hr
    cases hr <;> simp only [SVle] at hl
    · obtain ⟨⟨rfl, h1, h2⟩, hu⟩ := ite_False hl
      rename_i hv he
      exact .osl (cut_slc he h2) hv
    · obtain ⟨⟨rfl, h1, h2⟩, hu⟩ := ite_False hl
      have := hE _ _ _ (by assumption) _ h1
      omega
  | ownAt => intro v _ hl _; simp only [SVle] at hl
  | win k ver n lo len =>
    intro v hE hl hr
    cases hr <;> simp only [SVle] at hl
    · rename_i he
      obtain ⟨⟨⟨rfl, rfl⟩, h1, h2⟩, ⟨rfl⟩, ⟨rfl⟩⟩ := ite_False hl
      exact .win (cut_slc he h2) (by assumption) (by assumption) (by assumption)
    · obtain ⟨⟨⟨rfl, rfl⟩, h1, h2⟩, _⟩ := ite_False hl
      have := hE _ _ _ (by assumption) _ h1
      omega
def SOle (H H' : List SO) (s t : SO) : Prop :=
  match t with
  | .dead => True
  | .cells n g T => match s with | .cells n' g' T' => if n' = n ∧ T' = T then allN n fun i => SVle H H' (g' i) (g i) else False | _ => False
  | .scells n g => match s with | .scells n' g' => if n' = n then allN n fun i => SVle [] [] (g' i) (g i) else False | _ => False
  | .row _ len n g T => match s with | .row _ len' n' g' T' => if n' = n ∧ T' = T then Ask (len' = len) ∧ ∀ i, i < len → allN n fun j => SVle [] [] (g' i j) (g i j) else False | _ => False
  | .srow _ len n g => match s with | .srow _ len' n' g' => if n' = n then Ask (len' = len) ∧ ∀ i, i < len → allN n fun j => SVle [] [] (g' i j) (g i j) else False | _ => False
def allLe (H H' : List SO) : List SO → List SO → Prop
  | _, [] => True
  | [], t :: r => SOle H H' .dead t ∧ allLe H H' [] r
  | s :: l, t :: r => SOle H H' s t ∧ allLe H H' l r
def tmpLe (H H' : List SO) (τ : Tmps) : Tmps → Prop
  | [] => True
  | (t, s) :: r => SVle H H' (lookT τ t) s ∧ tmpLe H H' τ r
/-- The state s is as t describes it. -/
def StLe (s t : St) : Prop := tmpLe s.H t.H s.τ t.τ ∧ allLe s.H t.H s.H t.H
theorem allLe_get {H H' : List SO} : ∀ {l r : List SO}, allLe H H' l r → ∀ k, SOle H H' (l.getD k .dead) (r.getD k .dead)
  | l, [], _, k => by simp [SOle]
  | [], t :: r, h, 0 => h.1
  | [], t :: r, h, k + 1 => by have := allLe_get h.2 k; simpa using this
  | s :: l, t :: r, h, 0 => h.1
  | s :: l, t :: r, h, k + 1 => by have := allLe_get h.2 k; simpa using this
theorem tmpLe_get {H H' : List SO} {τ : Tmps} : ∀ {r : Tmps}, tmpLe H H' τ r → ∀ t, SVle H H' (lookT τ t) (lookT r t)
  | [], _, t => by simp [lookT, SVle]
  | (u, s) :: r, h, t => by
    simp only [lookT]
    split
    · rename_i hu; subst hu; exact h.1
    · exact tmpLe_get h.2 t
theorem EIok_ver {w X E v} {ver : Nat} {so : SO} (h : EIok w X E (.slc ver v) so) {ver' : Nat} (hr : rowVer so = some ver') : ver' = ver := by
  cases so <;> simp only [rowVer, Option.some.injEq, reduceCtorEq] at hr
  · subst hr; exact h.1.symm
  · subst hr; exact h.1.symm
/-- Of the names that came with the call: whether a version 0 was 0 before. -/
def verB (s t : SO) : Bool := match s with
  | .cells .. => true
  | .scells .. => true
  | .row v .. => match rowVer t with
    | some (_ + 1) => true
    | _ => Nat.beq v 0
  | .srow v .. => match rowVer t with
    | some (_ + 1) => true
    | _ => Nat.beq v 0
  | .dead => false
def NmLe (m : Nat) (H H' : List SO) : Prop := match Nat.ble m H'.length && (List.range m).all fun k => verB (H.getD k .dead) (H'.getD k .dead) with
  | true => True
  | false => False
/-- p, and with m names that came with the call, what is asked of these. -/
def withNm (m : Nat) (H H' : List SO) (p : Prop) : Prop := match m with
  | 0 => p
  | m + 1 => NmLe (m + 1) H H' ∧ p
theorem NmLe.get {m H H'} (h : NmLe m H H') : m ≤ H'.length ∧ ∀ k, k < m → verB (H.getD k .dead) (H'.getD k .dead) = true := by
  unfold NmLe at h
  split at h
  · rename_i hb
    rw [Bool.and_eq_true] at hb
    exact ⟨Nat.le_of_ble_eq_true hb.1, fun k hk => all_range hb.2 hk⟩
  · exact h.elim
theorem withNm.get {m H H' p} (h : withNm m H H' p) : NmLe m H H' ∧ p := by
  cases m with
  | zero => exact ⟨by simp [NmLe, Nat.ble_eq_true_of_le (Nat.zero_le _)], h⟩
  | succ m => exact h
theorem Rep.le {w0 X0 H H' E w} (hrep : Rep w0 X0 H E w) (h2 : allLe H H' H H') {m : Nat} (hnm : ∀ k, X0.nm k ≠ none → k < m) (hm : NmLe m H H') :
    Rep w0 X0 H' (E.cut H') w ∧ ∀ b, Xo X0 (E.cut H') H' b → Xo X0 E H b := by
  obtain ⟨hm1, hm2⟩ := hm.get
  have hget := allLe_get h2
  have cutS : ∀ k e, (E.cut H') k = some e → ∃ e0, E k = some e0 ∧ holds e (H'.getD k .dead) = holds e0 (H.getD k .dead) ∨ holds e (H'.getD k .dead) = none := by
    intro k e he
    have hg := hget k
    simp only [Env.cut] at he
    obtain ⟨hk, he⟩ := ite_none he
    cases hE : E k with
    | none => simp [hE] at he
    | some e0 =>
      refine ⟨e0, ?_⟩
      have hok := hrep.ok k e0 hE
      rw [hE] at he
      generalize H.getD k .dead = so at hg hok
      generalize H'.getD k .dead = to at hg he
      cases e0 with
      | blk b =>
        simp only [Option.some.injEq] at he
        subst he
        cases to <;> simp only [SOle] at hg
        · right; rfl
        · cases so <;> simp only at hg; left; exact ⟨rfl, rfl⟩
        · right; rfl
        · cases so <;> simp only at hg; exact hok.elim
        · cases so <;> simp only at hg; exact hok.elim
      | slc ver v =>
        simp only [Option.some.injEq] at he
        subst he
        cases to <;> simp only [SOle] at hg
        · right; cases v <;> try rfl
          rename_i x y z
          cases x <;> cases z <;> rfl
        · cases so <;> simp only at hg; exact hok.elim
        · cases so <;> simp only at hg; exact hok.elim
        · cases so <;> simp only at hg
          left; exact ⟨rfl, holds_row _ _ _ _ _ _ _ _ _ _ _ _ _⟩
        · right; exact holds_srow _ _ _ _ _
  have cutH : ∀ k e b, (E.cut H') k = some e → holds e (H'.getD k .dead) = some b → ∃ e0, E k = some e0 ∧ holds e0 (H.getD k .dead) = some b := by
    intro k e b he hb
    obtain ⟨e0, h | h⟩ := cutS k e he
    · exact ⟨e0, h.1, by rw [← h.2]; exact hb⟩
    · rw [h] at hb; cases hb
  have hx : ∀ b, Xo X0 (E.cut H') H' b → Xo X0 E H b := by
    rintro b (hb | ⟨k, e, he, hh⟩)
    · exact .inl hb
    · obtain ⟨e0, h3, h4⟩ := cutH k e b he hh
      exact .inr ⟨k, e0, h3, h4⟩
  have hver : ∀ k ver v, E k = some (.slc ver v) → ∀ ver', rowVer (H.getD k .dead) = some ver' → ver' = ver := fun k ver v he ver' hr => EIok_ver (hrep.ok k _ he) hr
  have pure0 : ∀ {sv tv : SV} {v : Value}, SVle [] [] sv tv → R w (Xo X0 E H) E0 sv v → R w (Xo X0 (E.cut H') H') E0 tv v := fun hl hr => by
    have := SVle_sound hx (E := E0) (fun k ver v h => by cases h) hl hr
    rwa [E0_cut] at this
  refine ⟨⟨hrep.below, hrep.x0, fun k e he => ?_, fun k e he => ?_, fun k e he => ?_, fun k e b he hb => ?_, fun k k' e e' b he he' hb hb' => ?_⟩, hx⟩
  · have hk : k < m := hnm k (by rw [he]; simp)
    have hv := hm2 k hk
    have hok := hrep.nm k e he
    cases e with
    | blk b =>
      have hok' : E k = some (.blk b) := hok
      exact cut_blk hok' (by omega)
    | slc ver0 v0 =>
      obtain ⟨ver, v, h3, h4⟩ := hok
      have hEI := hrep.ok k _ h3
      refine ⟨(rowVer (H'.getD k .dead)).getD 0, v, by simp only [Env.cut, if_pos (show k < H'.length by omega), h3], fun hz => h4 ?_⟩
      generalize H.getD k .dead = so at hEI hv
      generalize H'.getD k .dead = to at hz hv
      have fin : ∀ v', verB so to = true → rowVer so = some v' → v' = 0 := by
        intro v' hb hr
        cases so <;> simp only [rowVer, reduceCtorEq, Option.some.injEq] at hr <;> subst hr <;> simp only [verB] at hb
        · split at hb
          · rename_i q hq; rw [hq] at hz; simp at hz
          · exact Nat.eq_of_beq_eq_true hb
        · split at hb
          · rename_i q hq; rw [hq] at hz; simp at hz
          · exact Nat.eq_of_beq_eq_true hb
      cases so with
      | dead => cases hv
      | cells => exact hEI.elim
      | scells => exact hEI.elim
      | row ver' len n g T => have := hEI.1; have := fin ver' hv rfl; omega
      | srow ver' len n g => have := hEI.1; have := fin ver' hv rfl; omega
  · refine Nat.not_le.1 fun hc => ?_
    simp only [Env.cut, if_neg (Nat.not_lt.2 hc)] at he
    cases he
  · have hg := hget k
    simp only [Env.cut] at he
    obtain ⟨hk, he⟩ := ite_none he
    cases hE : E k with
    | none => simp [hE] at he
    | some e0 =>
      have hok := hrep.ok k e0 hE
      rw [hE] at he
      generalize H.getD k .dead = so at hg hok
      generalize H'.getD k .dead = to at hg he
      cases e0 with
      | blk b =>
        simp only [Option.some.injEq] at he
        subst he
        cases to with
        | dead => trivial
        | cells n g T =>
          cases so <;> simp only [SOle] at hg
          obtain ⟨⟨rfl, rfl⟩, hg2⟩ := ite_False hg
          obtain ⟨vs, g1, g2, g3⟩ := hok
          exact ⟨vs, g1, g2, fun i hi => ⟨(g3 i hi).1, SVle_sound hx hver (allN_get hg2 i hi) (g3 i hi).2⟩⟩
        | scells n g =>
          cases so <;> simp only [SOle] at hg
          obtain ⟨rfl, hg2⟩ := ite_False hg
          obtain ⟨vs, T, fr, g1, g2, g3, g4⟩ := hok
          exact ⟨vs, T, fr, g1, fun hc => g2 (hx _ hc), g3, fun i hi => ⟨(g4 i hi).1, pure0 (allN_get hg2 i hi) (g4 i hi).2⟩⟩
        | row => cases so <;> simp only [SOle] at hg; exact hok.elim
        | srow => cases so <;> simp only [SOle] at hg; exact hok.elim
      | slc ver v =>
        simp only [Option.some.injEq] at he
        subst he
        cases to with
        | dead => trivial
        | cells => cases so <;> simp only [SOle] at hg; exact hok.elim
        | scells => cases so <;> simp only [SOle] at hg; exact hok.elim
        | row ver' len n g T =>
          cases so <;> simp only [SOle] at hg
          obtain ⟨⟨rfl, rfl⟩, ⟨rfl⟩, hg2⟩ := ite_False hg
          obtain ⟨g1, xs, g2, g3⟩ := hok
          exact ⟨rfl, xs, g2, fun i j hi hj => ⟨(g3 i j hi hj).1, pure0 (allN_get (hg2 i hi) j hj) (g3 i j hi hj).2⟩⟩
        | srow ver' len n g =>
          cases so <;> simp only [SOle] at hg
          rename_i ver'' len' n' g'
          refine ⟨rfl, pure0 (sv := .sl len' n' g') ?_ hok.2⟩
          simp only [SVle]
          exact hg
  · obtain ⟨e0, h3, h4⟩ := cutH k e b he hb
    exact hrep.low k e0 b h3 h4
  · obtain ⟨e0, h3, h4⟩ := cutH k e b he hb
    obtain ⟨e1, h5, h6⟩ := cutH k' e' b he' hb'
    exact hrep.inj k k' e0 e1 b h3 h5 h4 h6
theorem StR.le {w0 X0 N} {s t : St} {a : Act} {w : World} (h : StR w0 X0 N s a w) {m : Nat} (hnm : ∀ k, X0.nm k ≠ none → k < m) (hm : NmLe m s.H t.H) (hl : StLe s t) : StR w0 X0 N t a w := by
  obtain ⟨E, hrep, htr⟩ := h
  obtain ⟨h1, h2⟩ := hl
  obtain ⟨g1, hx⟩ := hrep.le h2 hnm hm
  exact ⟨E.cut t.H, g1, htr.1, htr.2.1, fun u hu => SVle_sound hx (fun k ver v he ver' hr => EIok_ver (hrep.ok k _ he) hr) (tmpLe_get h1 u) (htr.2.2 u hu)⟩
end Go.Proofs.YtbmgclpgompjmaaDoor.Sx
