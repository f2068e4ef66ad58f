import Derived.Test.YtppdojjhegiffaaSxs
import Derived.Deep.LoopGhost
import Derived.LoopN
/- One description of a state follows from another; what is given away ahead of a region. -/
namespace Go.Proofs.Ytppdojjhegiffaa.Sx
open Go.RowKit
def isCells : SO → Bool
  | .cells .. => true
  | .scells .. => true
  | _ => false
def rowVer : SO → Option Nat
  | .row ver _ _ _ _ => some ver
  | .srow ver _ _ _ => some ver
  | _ => none
/-- Whatever s stands for (over the objects H), t stands for (over H'). -/
def SVle (H H' : List SO) (s t : SV) : Prop :=
  match t with
  | .any => True
  | .int k n => match s with | .int k' n' => Ask (k' = k) ∧ Ask (n' = n) | _ => False
  | .bool b => match s with | .bool b' => Ask (b' = b) | .lit b' => Ask (b' = b) | _ => False
  | .lit b => match s with | .bool b' => Ask (b' = b) | .lit b' => Ask (b' = b) | _ => False
  | .str x => match s with | .str x' => Ask (x' = x) | _ => False
  | .nilfn => match s with | .nilfn => True | _ => False
  | .cap0 => match s with | .cap0 => True | _ => False
  | .fn f n g => match s with | .fn f' n' g' => if n' = n then Ask (f' = f) ∧ allN n fun i => SVle H H' (g' i) (g i) else False | _ => False
  | .agg n g => match s with | .agg n' g' => if n' = n then allN n fun i => SVle H H' (g' i) (g i) else False | _ => False
  | .tup n g => match s with | .tup n' g' => if n' = n then allN n fun i => SVle H H' (g' i) (g i) else False | _ => False
  | .sl len n g => match s with
    | .sl len' n' g' => if n' = n then Ask (len' = len) ∧ ∀ i, i < len → allN n fun j => SVle [] [] (g' i j) (g i j) else False
    | .slN len' n' g' => if n' = n then Ask (len' = len) ∧ ∀ i, i < len → allN n fun j => SVle [] [] (g' i j) (g i j) else False
    | .cap0 => Ask (len = 0)
    | .nilsl => Ask (len = 0)
    | _ => False
  | .nilsl => match s with | .nilsl => True | _ => False
  | .slN .. => False
  | .ref n g => match s with | .ref n' g' => if n ≤ n' then allN n fun i => SVle [] [] (g' i) (g i) else False | _ => False
  | .own k off => match s with | .own k' off' => if k' = k ∧ isCells (H'.getD k .dead) = true then Ask (off' = off) else False | _ => False
  | .osl k ver => match s with | .osl k' ver' => if k' = k ∧ rowVer (H.getD k .dead) = some ver' ∧ rowVer (H'.getD k .dead) = some ver then True else False | _ => False
  | .ownAt .. => False
  | .win k ver n lo len => match s with | .win k' ver' n' lo' len' => if (k' = k ∧ n' = n) ∧ rowVer (H.getD k .dead) = some ver' ∧ rowVer (H'.getD k .dead) = some ver then Ask (lo' = lo) ∧ Ask (len' = len) else False | _ => False
theorem ite_False {c : Prop} [Decidable c] {p : Prop} (h : if c then p else False) : c ∧ p := by
  by_cases hc : c
  · rw [if_pos hc] at h; exact ⟨hc, h⟩
  · rw [if_neg hc] at h; exact h.elim
theorem ite_none {α : Type} {c : Prop} [Decidable c] {a : Option α} {b : α} (h : (if c then a else none) = some b) : c ∧ a = some b := by
  by_cases hc : c
  · rw [if_pos hc] at h; exact ⟨hc, h⟩
  · rw [if_neg hc] at h; cases h
/-- E, for the objects that H' still tells of. -/
def Env.cut (E : Env) (H' : List SO) : Env := fun k => if k < H'.length then match E k with
  | some (.blk b) => some (.blk b)
  | some (.slc _ v) => some (.slc ((rowVer (H'.getD k .dead)).getD 0) v)
  | none => none
  else none
theorem getD_dead {H : List SO} {k : Nat} (h : ¬ k < H.length) : H.getD k .dead = .dead := by rw [List.getD_eq_getElem?_getD, List.getElem?_eq_none (Nat.not_lt.1 h)]; rfl
theorem cut_blk {E : Env} {H' : List SO} {k b : Nat} (h : E k = some (.blk b)) (hk : k < H'.length) : E.cut H' k = some (.blk b) := by simp only [Env.cut, if_pos hk, h]
theorem cut_slc {E : Env} {H' : List SO} {k ver ver' : Nat} {v : Value} (h : E k = some (.slc ver v)) (hv : rowVer (H'.getD k .dead) = some ver') : E.cut H' k = some (.slc ver' v) := by
  have hk : k < H'.length := Classical.byContradiction fun hc => by rw [getD_dead hc] at hv; cases hv
  simp only [Env.cut, if_pos hk, h, hv, Option.getD_some]
theorem E0_cut (H : List SO) : E0.cut H = E0 := by
  funext k
  simp [Env.cut, E0]
theorem SVle_sound {w : World} {X X' : Nat → Prop} (hx : ∀ b, X' b → X b) {H H' : List SO} : ∀ {E : Env} {s t : SV} {v : Value}, (∀ k ver v, E k = some (.slc ver v) → ∀ ver', rowVer (H.getD k .dead) = some ver' → ver' = ver) → SVle H H' s t → R w X E s v → R w X' (E.cut H') t v := by
  intro E s t
  induction t generalizing E s H H' with
  | any => intro v _ _ _; exact .any
  | int k n => intro v _ hl hr; cases hr <;> simp only [SVle] at hl; obtain ⟨⟨rfl⟩, ⟨rfl⟩⟩ := hl; exact .int
  | bool b => intro v _ hl hr; cases hr <;> simp only [SVle] at hl <;> (obtain ⟨rfl⟩ := hl; exact .bool)
  | lit b => intro v _ hl hr; cases hr <;> simp only [SVle] at hl <;> (obtain ⟨rfl⟩ := hl; exact .lit)
  | str x => intro v _ hl hr; cases hr <;> simp only [SVle] at hl; obtain ⟨rfl⟩ := hl; exact .str
  | nilfn => intro v _ hl hr; cases hr <;> simp only [SVle] at hl; exact .nilfn
  | cap0 => intro v _ hl hr; cases hr <;> simp only [SVle] at hl; exact .cap0
  | fn f n g ih =>
    intro v hE hl hr
    cases hr <;> simp only [SVle] at hl
    rename_i hs hr
    obtain ⟨rfl, ⟨rfl⟩, hl2⟩ := ite_False hl
    exact .fn hs fun i hi => ih i hE (allN_get hl2 i hi) (hr i hi)
  | agg n g ih =>
    intro v hE hl hr
    cases hr <;> simp only [SVle] at hl
    rename_i hs ho hr
    obtain ⟨rfl, hl2⟩ := ite_False hl
    exact .agg hs ho fun i hi => ih i hE (allN_get hl2 i hi) (hr i hi)
  | tup n g ih =>
    intro v hE hl hr
    cases hr <;> simp only [SVle] at hl
    rename_i hs hr
    obtain ⟨rfl, hl2⟩ := ite_False hl
    exact .tup hs fun i hi => ih i hE (allN_get hl2 i hi) (hr i hi)
  | sl len n g ih =>
    intro v hE hl hr
    have onSl : ∀ {len' n' : Nat} {g' : Nat → Nat → SV} {v : Value}, (if n' = n then Ask (len' = len) ∧ ∀ i, i < len → allN n fun j => SVle [] [] (g' i j) (g i j) else False) → R w X E (.sl len' n' g') v → R w X' (E.cut H') (.sl len n g) v := by
      intro len' n' g' v hl hr
      cases hr with
      | sl0 => obtain ⟨rfl, ⟨rfl⟩, hl2⟩ := ite_False hl; exact .sl0
      | sl hb hX hc hlc ho hr =>
        obtain ⟨rfl, ⟨rfl⟩, hl2⟩ := ite_False hl
        refine .sl hb (fun h => hX (hx _ h)) hc hlc ho fun i j hi hj => ?_
        have := ih i j (E := E0) (fun k ver v h => by cases h) (allN_get (hl2 i hi) j hj) (hr i j hi hj)
        rw [E0_cut] at this
        exact this
    cases s <;> simp only [SVle] at hl
    · cases hr; obtain ⟨rfl⟩ := hl; exact .sl0
    · exact onSl hl hr
    · cases hr; obtain ⟨rfl⟩ := hl; exact .sl0
    · cases hr with | slN hr => exact onSl hl hr
  | nilsl => intro v _ hl hr; cases hr <;> simp only [SVle] at hl; exact .nilsl
  | slN => intro v _ hl _; simp only [SVle] at hl
  | ref n g ih =>
    intro v hE hl hr
    cases hr <;> simp only [SVle] at hl
    rename_i hb hX hc ho hr
    obtain ⟨hn, hl2⟩ := ite_False hl
    refine .ref hb (fun h => hX (hx _ h)) (by omega) (fun j hj => ho j (by omega)) fun j hj => ?_
    have := ih j (E := E0) (fun k ver v h => by cases h) (allN_get hl2 j hj) (hr j (by omega))
    rw [E0_cut] at this
    exact this
  | own k off =>
    intro v _ hl hr
    cases hr <;> simp only [SVle] at hl
    rename_i he
    obtain ⟨⟨rfl, hc⟩, ⟨rfl⟩⟩ := ite_False hl
    exact .own (cut_blk he (Classical.byContradiction fun hk => by rw [getD_dead hk] at hc; cases hc))
  | osl k ver =>
    intro v hE hl hr
    cases hr <;> simp only [SVle] at hl
    · obtain ⟨⟨rfl, h1, h2⟩, hu⟩ := ite_False hl
      rename_i hv he
      exact .osl (cut_slc he h2) hv
    · obtain ⟨⟨rfl, h1, h2⟩, hu⟩ := ite_False hl
      have := hE _ _ _ (by assumption) _ h1
      omega
  | ownAt => intro v _ hl _; simp only [SVle] at hl
  | win k ver n lo len =>
    intro v hE hl hr
    cases hr <;> simp only [SVle] at hl
    · rename_i he
      obtain ⟨⟨⟨rfl, rfl⟩, h1, h2⟩, ⟨rfl⟩, ⟨rfl⟩⟩ := ite_False hl
      exact .win (cut_slc he h2) (by assumption) (by assumption) (by assumption)
    · obtain ⟨⟨⟨rfl, rfl⟩, h1, h2⟩, _⟩ := ite_False hl
      have := hE _ _ _ (by assumption) _ h1
      omega
def SOle (H H' : List SO) (s t : SO) : Prop :=
  match t with
  | .dead => True
  | .cells n g T => match s with | .cells n' g' T' => if n' = n ∧ T' = T then allN n fun i => SVle H H' (g' i) (g i) else False | _ => False
  | .scells n g => match s with | .scells n' g' => if n' = n then allN n fun i => SVle [] [] (g' i) (g i) else False | _ => False
  | .row _ len n g T => match s with | .row _ len' n' g' T' => if n' = n ∧ T' = T then Ask (len' = len) ∧ ∀ i, i < len → allN n fun j => SVle [] [] (g' i j) (g i j) else False | _ => False
  | .srow _ len n g => match s with | .srow _ len' n' g' => if n' = n then Ask (len' = len) ∧ ∀ i, i < len → allN n fun j => SVle [] [] (g' i j) (g i j) else False | _ => False
def allLe (H H' : List SO) : List SO → List SO → Prop
  | _, [] => True
  | [], t :: r => SOle H H' .dead t ∧ allLe H H' [] r
  | s :: l, t :: r => SOle H H' s t ∧ allLe H H' l r
def tmpLe (H H' : List SO) (τ : Tmps) : Tmps → Prop
  | [] => True
  | (t, s) :: r => SVle H H' (lookT τ t) s ∧ tmpLe H H' τ r
/-- The state s is as t describes it. -/
def StLe (s t : St) : Prop := tmpLe s.H t.H s.τ t.τ ∧ allLe s.H t.H s.H t.H
theorem allLe_get {H H' : List SO} : ∀ {l r : List SO}, allLe H H' l r → ∀ k, SOle H H' (l.getD k .dead) (r.getD k .dead)
  | l, [], _, k => by simp [SOle]
  | [], t :: r, h, 0 => h.1
  | [], t :: r, h, k + 1 => by have := allLe_get h.2 k; simpa using this
  | s :: l, t :: r, h, 0 => h.1
  | s :: l, t :: r, h, k + 1 => by have := allLe_get h.2 k; simpa using this
theorem tmpLe_get {H H' : List SO} {τ : Tmps} : ∀ {r : Tmps}, tmpLe H H' τ r → ∀ t, SVle H H' (lookT τ t) (lookT r t)
  | [], _, t => by simp [lookT, SVle]
  | (u, s) :: r, h, t => by
    simp only [lookT]
    split
    · rename_i hu; subst hu; exact h.1
    · exact tmpLe_get h.2 t
theorem EIok_ver {w X E v} {ver : Nat} {so : SO} (h : EIok w X E (.slc ver v) so) {ver' : Nat} (hr : rowVer so = some ver') : ver' = ver := by
  cases so <;> simp only [rowVer, Option.some.injEq, reduceCtorEq] at hr
  · subst hr; exact h.1.symm
  · subst hr; exact h.1.symm
/-- Of the names that came with the call: whether a version 0 was 0 before. -/
def verB (s t : SO) : Bool := match s with
  | .cells .. => true
  | .scells .. => true
  | .row v .. => match rowVer t with
    | some (_ + 1) => true
    | _ => Nat.beq v 0
  | .srow v .. => match rowVer t with
    | some (_ + 1) => true
    | _ => Nat.beq v 0
  | .dead => false
def NmLe (m : Nat) (H H' : List SO) : Prop := match Nat.ble m H'.length && (List.range m).all fun k => verB (H.getD k .dead) (H'.getD k .dead) with
  | true => True
  | false => False
/-- p, and with m names that came with the call, what is asked of these. -/
def withNm (m : Nat) (H H' : List SO) (p : Prop) : Prop := match m with
  | 0 => p
  | m + 1 => NmLe (m + 1) H H' ∧ p
theorem NmLe.get {m H H'} (h : NmLe m H H') : m ≤ H'.length ∧ ∀ k, k < m → verB (H.getD k .dead) (H'.getD k .dead) = true := by
  unfold NmLe at h
  split at h
  · rename_i hb
    rw [Bool.and_eq_true] at hb
    exact ⟨Nat.le_of_ble_eq_true hb.1, fun k hk => all_range hb.2 hk⟩
  · exact h.elim
theorem withNm.get {m H H' p} (h : withNm m H H' p) : NmLe m H H' ∧ p := by
  cases m with
  | zero => exact ⟨by simp [NmLe, Nat.ble_eq_true_of_le (Nat.zero_le _)], h⟩
  | succ m => exact h
theorem Rep.le {w0 X0 H H' E w} (hrep : Rep w0 X0 H E w) (h2 : allLe H H' H H') {m : Nat} (hnm : ∀ k, X0.nm k ≠ none → k < m) (hm : NmLe m H H') :
    Rep w0 X0 H' (E.cut H') w ∧ ∀ b, Xo X0 (E.cut H') H' b → Xo X0 E H b := by
  obtain ⟨hm1, hm2⟩ := hm.get
  have hget := allLe_get h2
  have cutS : ∀ k e, (E.cut H') k = some e → ∃ e0, E k = some e0 ∧ holds e (H'.getD k .dead) = holds e0 (H.getD k .dead) ∨ holds e (H'.getD k .dead) = none := by
    intro k e he
    have hg := hget k
    simp only [Env.cut] at he
    obtain ⟨hk, he⟩ := ite_none he
    cases hE : E k with
    | none => simp [hE] at he
    | some e0 =>
      refine ⟨e0, ?_⟩
      have hok := hrep.ok k e0 hE
      rw [hE] at he
      generalize H.getD k .dead = so at hg hok
      generalize H'.getD k .dead = to at hg he
      cases e0 with
      | blk b =>
        simp only [Option.some.injEq] at he
        subst he
        cases to <;> simp only [SOle] at hg
        · right; rfl
        · cases so <;> simp only at hg; left; exact ⟨rfl, rfl⟩
        · right; rfl
        · cases so <;> simp only at hg; exact hok.elim
        · cases so <;> simp only at hg; exact hok.elim
      | slc ver v =>
        simp only [Option.some.injEq] at he
        subst he
        cases to <;> simp only [SOle] at hg
        · right; cases v <;> try rfl
          rename_i x y z
          cases x <;> cases z <;> rfl
        · cases so <;> simp only at hg; exact hok.elim
        · cases so <;> simp only at hg; exact hok.elim
        · cases so <;> simp only at hg
          left; exact ⟨rfl, holds_row _ _ _ _ _ _ _ _ _ _ _ _ _⟩
        · right; exact holds_srow _ _ _ _ _
  have cutH : ∀ k e b, (E.cut H') k = some e → holds e (H'.getD k .dead) = some b → ∃ e0, E k = some e0 ∧ holds e0 (H.getD k .dead) = some b := by
    intro k e b he hb
    obtain ⟨e0, h | h⟩ := cutS k e he
    · exact ⟨e0, h.1, by rw [← h.2]; exact hb⟩
    · rw [h] at hb; cases hb
  have hx : ∀ b, Xo X0 (E.cut H') H' b → Xo X0 E H b := by
    rintro b (hb | ⟨k, e, he, hh⟩)
    · exact .inl hb
    · obtain ⟨e0, h3, h4⟩ := cutH k e b he hh
      exact .inr ⟨k, e0, h3, h4⟩
  have hver : ∀ k ver v, E k = some (.slc ver v) → ∀ ver', rowVer (H.getD k .dead) = some ver' → ver' = ver := fun k ver v he ver' hr => EIok_ver (hrep.ok k _ he) hr
  have pure0 : ∀ {sv tv : SV} {v : Value}, SVle [] [] sv tv → R w (Xo X0 E H) E0 sv v → R w (Xo X0 (E.cut H') H') E0 tv v := fun hl hr => by
    have := SVle_sound hx (E := E0) (fun k ver v h => by cases h) hl hr
    rwa [E0_cut] at this
  refine ⟨⟨hrep.below, hrep.x0, fun k e he => ?_, fun k e he => ?_, fun k e he => ?_, fun k e b he hb => ?_, fun k k' e e' b he he' hb hb' => ?_⟩, hx⟩
  · have hk : k < m := hnm k (by rw [he]; simp)
    have hv := hm2 k hk
    have hok := hrep.nm k e he
    cases e with
    | blk b =>
      have hok' : E k = some (.blk b) := hok
      exact cut_blk hok' (by omega)
    | slc ver0 v0 =>
      obtain ⟨ver, v, h3, h4⟩ := hok
      have hEI := hrep.ok k _ h3
      refine ⟨(rowVer (H'.getD k .dead)).getD 0, v, by simp only [Env.cut, if_pos (show k < H'.length by omega), h3], fun hz => h4 ?_⟩
      generalize H.getD k .dead = so at hEI hv
      generalize H'.getD k .dead = to at hz hv
      have fin : ∀ v', verB so to = true → rowVer so = some v' → v' = 0 := by
        intro v' hb hr
        cases so <;> simp only [rowVer, reduceCtorEq, Option.some.injEq] at hr <;> subst hr <;> simp only [verB] at hb
        · split at hb
          · rename_i q hq; rw [hq] at hz; simp at hz
          · exact Nat.eq_of_beq_eq_true hb
        · split at hb
          · rename_i q hq; rw [hq] at hz; simp at hz
          · exact Nat.eq_of_beq_eq_true hb
      cases so with
      | dead => cases hv
      | cells => exact hEI.elim
      | scells => exact hEI.elim
      | row ver' len n g T => have := hEI.1; have := fin ver' hv rfl; omega
      | srow ver' len n g => have := hEI.1; have := fin ver' hv rfl; omega
  · refine Nat.not_le.1 fun hc => ?_
    simp only [Env.cut, if_neg (Nat.not_lt.2 hc)] at he
    cases he
  · have hg := hget k
    simp only [Env.cut] at he
    obtain ⟨hk, he⟩ := ite_none he
    cases hE : E k with
    | none => simp [hE] at he
    | some e0 =>
      have hok := hrep.ok k e0 hE
      rw [hE] at he
      generalize H.getD k .dead = so at hg hok
      generalize H'.getD k .dead = to at hg he
      cases e0 with
      | blk b =>
        simp only [Option.some.injEq] at he
        subst he
        cases to with
        | dead => trivial
        | cells n g T =>
          cases so <;> simp only [SOle] at hg
          obtain ⟨⟨rfl, rfl⟩, hg2⟩ := ite_False hg
          obtain ⟨vs, g1, g2, g3⟩ := hok
          exact ⟨vs, g1, g2, fun i hi => ⟨(g3 i hi).1, SVle_sound hx hver (allN_get hg2 i hi) (g3 i hi).2⟩⟩
        | scells n g =>
          cases so <;> simp only [SOle] at hg
          obtain ⟨rfl, hg2⟩ := ite_False hg
          obtain ⟨vs, T, fr, g1, g2, g3, g4⟩ := hok
          exact ⟨vs, T, fr, g1, fun hc => g2 (hx _ hc), g3, fun i hi => ⟨(g4 i hi).1, pure0 (allN_get hg2 i hi) (g4 i hi).2⟩⟩
        | row => cases so <;> simp only [SOle] at hg; exact hok.elim
        | srow => cases so <;> simp only [SOle] at hg; exact hok.elim
      | slc ver v =>
        simp only [Option.some.injEq] at he
        subst he
        cases to with
        | dead => trivial
        | cells => cases so <;> simp only [SOle] at hg; exact hok.elim
        | scells => cases so <;> simp only [SOle] at hg; exact hok.elim
        | row ver' len n g T =>
          cases so <;> simp only [SOle] at hg
          obtain ⟨⟨rfl, rfl⟩, ⟨rfl⟩, hg2⟩ := ite_False hg
          obtain ⟨g1, xs, g2, g3⟩ := hok
          exact ⟨rfl, xs, g2, fun i j hi hj => ⟨(g3 i j hi hj).1, pure0 (allN_get (hg2 i hi) j hj) (g3 i j hi hj).2⟩⟩
        | srow ver' len n g =>
          cases so <;> simp only [SOle] at hg
          rename_i ver'' len' n' g'
          refine ⟨rfl, pure0 (sv := .sl len' n' g') ?_ hok.2⟩
          simp only [SVle]
          exact hg
  · obtain ⟨e0, h3, h4⟩ := cutH k e b he hb
    exact hrep.low k e0 b h3 h4
  · obtain ⟨e0, h3, h4⟩ := cutH k e b he hb
    obtain ⟨e1, h5, h6⟩ := cutH k' e' b he' hb'
    exact hrep.inj k k' e0 e1 b h3 h5 h4 h6
theorem StR.le {w0 X0 N} {s t : St} {a : Act} {w : World} (h : StR w0 X0 N s a w) {m : Nat} (hnm : ∀ k, X0.nm k ≠ none → k < m) (hm : NmLe m s.H t.H) (hl : StLe s t) : StR w0 X0 N t a w := by
  obtain ⟨E, hrep, htr⟩ := h
  obtain ⟨h1, h2⟩ := hl
  obtain ⟨g1, hx⟩ := hrep.le h2 hnm hm
  exact ⟨E.cut t.H, g1, htr.1, htr.2.1, fun u hu => SVle_sound hx (fun k ver v he ver' hr => EIok_ver (hrep.ok k _ he) hr) (tmpLe_get h1 u) (htr.2.2 u hu)⟩
end Go.Proofs.Ytppdojjhegiffaa.Sx
/- What is asked of a function's code, and that it is enough. -/
namespace Go.Proofs.Ytppdojjhegiffaa.Sx
open Go.RowKit
/-- What is done to the description alone, ahead of a region: a temporary's value, an own variable's content made pure (what it names is given away); a slice without room taken as an own one; the beginning of an own slice taken as the slice. -/
inductive PrepA : Type
  | tmp (t : Nat)
  | cells (k : Nat)
  | own (t : Nat) (T : TypeId) (n : Nat)
  | ownC (k off : Nat) (T : TypeId) (n : Nat)
  | shrink (t : Nat)
  | nilc (t : Nat)
  | mv (j k : Nat)
/-- Object j named k; the one that was named k is told of no longer. -/
def ren (j k : Nat) : SV → SV
  | .own i off => match Nat.beq i k with
    | true => .any
    | false => match Nat.beq i j with
      | true => .own k off
      | false => .own i off
  | .osl i ver => match Nat.beq i k with
    | true => .any
    | false => match Nat.beq i j with
      | true => .osl k ver
      | false => .osl i ver
  | .ownAt .. => .any
  | .win i ver n lo len => match Nat.beq i k with
    | true => .any
    | false => match Nat.beq i j with
      | true => .win k ver n lo len
      | false => .win i ver n lo len
  | .agg n g => .agg n (fun i => ren j k (g i))
  | .tup n g => .tup n (fun i => ren j k (g i))
  | .fn f n g => .fn f n (fun i => ren j k (g i))
  | s => s
def renO (j k : Nat) : SO → SO
  | .cells n g T => .cells n (fun i => ren j k (g i)) T
  | s => s
def renE (j k : Nat) (E : Env) : Env := fun i => if i = k then E j else if i = j then none else E i
def renH (j k : Nat) (H : List SO) : List SO := ((H.map (renO j k)).set k (renO j k (H.getD j .dead))).set j .dead
def emptyRow (n : Nat) (T : TypeId) : SO := .row 0 0 n (fun _ _ => .any) T
def doPrep (m N : Nat) (s : St) : PrepA → Option St
  | .tmp t => match frzAll s.H (needs s.H 6 (lookT s.τ t)) with
    | some l => match pur (applyS s.H l) 6 (lookT s.τ t) with
      | some v => some ⟨(t, v) :: s.τ, applyS s.H l⟩
      | none => none
    | none => none
  | .cells k => match s.H.getD k .dead with
    | .cells n g _ => match frzAll s.H ((List.range n).flatMap fun i => needs s.H 6 (g i)) with
      | some l => match (applyS s.H l).getD k .dead with
        | .cells n g T => if (List.range n).all (fun i => (pur (applyS s.H l) 6 (g i)).isSome) = true then
            some ⟨s.τ, (applyS s.H l).set k (.cells n (fun i => (pur (applyS s.H l) 6 (g i)).getD .any) T)⟩ else none
        | _ => none
      | none => none
    | _ => none
  | .own t T n => match lookT s.τ t with
    | .cap0 => some ⟨(t, .osl s.H.length 0) :: s.τ, s.H ++ [emptyRow n T]⟩
    | _ => none
  | .ownC k off T n => match s.H.getD k .dead with
    | .cells m g T' => match g off with
      | .cap0 => if off < m then some ⟨s.τ, (s.H ++ [emptyRow n T]).set k (.cells m (updF g off 1 (fun _ => .osl s.H.length 0)) T')⟩ else none
      | _ => none
    | _ => none
  | .shrink t => match Nat.blt t N with
    | true => match lookT s.τ t with
      | .win k ver n lo len => match lo with
        | 0 => match s.H.getD k .dead with
          | .row ver' _ m g T => if ver = ver' ∧ n = m then some ⟨(t, .osl k (ver + 1)) :: s.τ, s.H.set k (.row (ver + 1) len m g T)⟩ else none
          | _ => none
        | _ => none
      | _ => none
    | false => none
  | .nilc _ => none
  | .mv j k => match (Nat.ble m j && Nat.ble m k) && (Nat.blt k s.H.length && !Nat.beq j k) with
    | true => some ⟨s.τ.map (fun p => (p.1, ren j k p.2)), renH j k s.H⟩
    | false => none
/-- The slice in a temporary: nil, or not. -/
def nilAlt (N : Nat) (s : St) (t : Nat) : Option (Nat × St × St) := match Nat.blt t N with
  | true => match lookT s.τ t with
    | .sl len n g => some (len, ⟨(t, .nilsl) :: s.τ, s.H⟩, ⟨(t, .slN len n g) :: s.τ, s.H⟩)
    | _ => none
  | false => none
def doPreps (m N : Nat) (s : St) : List PrepA → Option St
  | [] => some s
  | p :: r => match doPrep m N s p with
    | some s' => doPreps m N s' r
    | none => none
theorem Rep.known {w0 X0 H E w} (h : Rep w0 X0 H E w) : E H.length = none := by
  cases hc : E H.length with
  | none => rfl
  | some e => have := h.dom _ _ hc; omega
/-- A slice without room, as an own one. -/
theorem Rep.empty {w0 X0 H E w} (h : Rep w0 X0 H E w) (n : Nat) (T : TypeId) (a : Option Addr) :
    Rep w0 X0 (H ++ [emptyRow n T]) (E.put H.length (.slc 0 (.slice a 0 0))) w ∧ Within (Xo X0 E H) (Xo X0 (E.put H.length (.slc 0 (.slice a 0 0))) (H ++ [emptyRow n T])) w ∧ E.le (E.put H.length (.slc 0 (.slice a 0 0))) := by
  have hget : ∀ k, k < H.length → (H ++ [emptyRow n T]).getD k .dead = H.getD k .dead := fun k hk => getD_append_left hk
  have hnew : (H ++ [emptyRow n T]).getD H.length .dead = emptyRow n T := by
    rw [List.getD_eq_getElem?_getD, List.getElem?_append_right (Nat.le_refl _)]; simp
  have hxo : Xo X0 E (H ++ [emptyRow n T]) = Xo X0 E H := Xo_ext fun k e hke => hget k (h.dom k e hke)
  have hh : holds (.slc 0 (.slice a 0 0)) (emptyRow n T) = none := by cases a <;> rfl
  obtain ⟨g1, g2⟩ := (h.ext (by simp) hget).new (k := H.length) (e := .slc 0 (.slice a 0 0)) h.known (by simp) (Below.refl _ _) (fun b hb => by rw [hnew, hh] at hb; cases hb)
    (by rw [hnew]; exact ⟨rfl, [], .inl ⟨_, rfl, rfl, rfl⟩, fun i j hi => absurd hi (Nat.not_lt_zero _)⟩)
  rw [hxo] at g2
  exact ⟨g1, g2, Env.le_put h.known⟩
/-- A store of the description alone: an own variable's content said otherwise. -/
theorem Rep.recell {w0 X0 H E w} (h : Rep w0 X0 H E w) {k n : Nat} {g g' : Nat → SV} {T : TypeId} (hk : H.getD k .dead = .cells n g T)
    (hr : ∀ i v, i < n → R w (Xo X0 E H) E (g i) v → R w (Xo X0 E H) E (g' i) v) : Rep w0 X0 (H.set k (.cells n g' T)) E w ∧ Within (Xo X0 E H) (Xo X0 E (H.set k (.cells n g' T))) w := by
  cases he : E k with
  | none =>
    have hh : ∀ j e, E j = some e → (H.set k (.cells n g' T)).getD j .dead = H.getD j .dead := fun j e hj => getD_set_ne' (fun hc => by subst hc; rw [he] at hj; cases hj)
    refine ⟨h.ext' (by simp) hh, ?_⟩
    rw [Xo_ext hh]
    exact Within.refl _ _
  | some e =>
    have hok := h.ok k e he
    rw [hk] at hok
    cases e with
    | slc => exact hok.elim
    | blk b =>
      obtain ⟨vs, h1, h2, h3⟩ := hok
      have hput : E.put k (.blk b) = E := Env.put_self he
      have hu := h.upd (w' := w) (e' := .blk b) (so' := .cells n g' T) he (by rw [hput]; exact Env.le_refl _) (fun _ _ _ => rfl) rfl rfl rfl (Nat.le_refl _) (fun b' hb' => .inl (by rw [hk]; exact hb'))
        (fun hke hwi _ => by rw [hput] at *; exact ⟨vs, h1, h2, fun i hi => ⟨(h3 i hi).1, (hr i _ hi (h3 i hi).2).mono hke hwi (Env.le_refl _)⟩⟩)
      rw [hput] at hu
      exact ⟨hu.1, hu.2.2⟩
theorem cap0_inv {w X E v} (h : R w X E .cap0 v) : ∃ a, v = .slice a 0 0 := by cases h; exact ⟨_, rfl⟩
theorem R_ren {w : World} {X X' : Nat → Prop} (hx : ∀ b, X' b → X b) {j k : Nat} (hjk : j ≠ k) {E : Env} {s : SV} {v : Value} (h : R w X E s v) : R w X' (renE j k E) (ren j k s) v := by
  have ek : ∀ {i}, Nat.beq i j = true → i = j := fun h => Nat.eq_of_beq_eq_true h
  have e1 : renE j k E k = E j := by unfold renE; rw [if_pos rfl]
  have e2 : ∀ {i}, Nat.beq i k = false → Nat.beq i j = false → renE j k E i = E i := fun h1 h2 => by
    unfold renE
    rw [if_neg (Nat.ne_of_beq_eq_false h1), if_neg (Nat.ne_of_beq_eq_false h2)]
  induction s generalizing v with
  | any => exact .any
  | int => cases h; exact .int
  | bool => cases h; exact .bool
  | lit => cases h; exact .lit
  | str => cases h; exact .str
  | nilfn => cases h; exact .nilfn
  | cap0 => cases h; exact .cap0
  | fn f n g ih => cases h with | fn hs hr => exact .fn hs fun i hi => ih i (hr i hi)
  | agg n g ih => cases h with | agg hs ho hr => exact .agg hs ho fun i hi => ih i (hr i hi)
  | tup n g ih => cases h with | tup hs hr => exact .tup hs fun i hi => ih i (hr i hi)
  | sl len n g ih =>
    cases h with
    | sl0 => exact .sl0
    | sl hb hX hc hl ho hr => exact .sl hb (fun hc => hX (hx _ hc)) hc hl ho fun i j hi hj => (hr i j hi hj).mono (fun _ _ _ => rfl) (fun b _ hb => hx b hb) (Env.le_refl _)
  | ref n g ih => cases h with | ref hb hX hc ho hr => exact .ref hb (fun hc => hX (hx _ hc)) hc ho fun j hj => (hr j hj).mono (fun _ _ _ => rfl) (fun b _ hb => hx b hb) (Env.le_refl _)
  | own i off =>
    cases h with
    | own he =>
      simp only [ren]
      split
      · exact .any
      · rename_i h1
        split
        · rename_i h2; exact .own (by rw [e1, ← ek h2]; exact he)
        · rename_i h2; exact .own (by rw [e2 h1 h2]; exact he)
  | osl i ver =>
    simp only [ren]
    split
    · exact .any
    · rename_i h1
      cases h with
      | osl he hs =>
        split
        · rename_i h2; exact .osl (by rw [e1, ← ek h2]; exact he) hs
        · rename_i h2; exact .osl (by rw [e2 h1 h2]; exact he) hs
      | oslOld he hl hs =>
        split
        · rename_i h2; exact .oslOld (by rw [e1, ← ek h2]; exact he) hl hs
        · rename_i h2; exact .oslOld (by rw [e2 h1 h2]; exact he) hl hs
  | ownAt => exact .any
  | nilsl => cases h; exact .nilsl
  | slN len n g =>
    cases h with
    | slN hr =>
      refine .slN ?_
      cases hr with
      | sl0 => exact .sl0
      | sl hb hX hc hl ho hr => exact .sl hb (fun hc => hX (hx _ hc)) hc hl ho fun i j hi hj => (hr i j hi hj).mono (fun _ _ _ => rfl) (fun b _ hb => hx b hb) (Env.le_refl _)
  | win i ver n lo len =>
    simp only [ren]
    split
    · exact .any
    · rename_i h1
      cases h with
      | win he hl ha h0 =>
        split
        · rename_i h2; exact .win (by rw [e1, ← ek h2]; exact he) hl ha h0
        · rename_i h2; exact .win (by rw [e2 h1 h2]; exact he) hl ha h0
      | winOld he hl hs =>
        split
        · rename_i h2; exact .winOld (by rw [e1, ← ek h2]; exact he) hl hs
        · rename_i h2; exact .winOld (by rw [e2 h1 h2]; exact he) hl hs
theorem holds_ren (e : EI) (j k : Nat) (so : SO) : holds e (renO j k so) = holds e so := by
  cases so <;> cases e <;> first | rfl | (rename_i v; cases v <;> first | rfl | (rename_i a _ c; cases a <;> cases c <;> rfl))
theorem EIok_ren {w X X' E} (hx : ∀ b, X' b → X b) {j k : Nat} (hjk : j ≠ k) {e : EI} {so : SO} (h : EIok w X E e so) : EIok w X' (renE j k E) e (renO j k so) := by
  have weak : ∀ {s : SV} {v : Value}, R w X E0 s v → R w X' E0 s v := fun h => h.mono (fun _ _ _ => rfl) (fun b _ hb => hx b hb) (Env.le_refl _)
  cases e with
  | blk b =>
    cases so with
    | dead => trivial
    | cells n g T =>
      obtain ⟨vs, h1, h2, h3⟩ := h
      exact ⟨vs, h1, h2, fun i hi => ⟨(h3 i hi).1, R_ren hx hjk (h3 i hi).2⟩⟩
    | scells n g =>
      obtain ⟨vs, T, fr, h1, h2, h3, h4⟩ := h
      exact ⟨vs, T, fr, h1, fun hc => h2 (hx _ hc), h3, fun i hi => ⟨(h4 i hi).1, weak (h4 i hi).2⟩⟩
    | row => exact h
    | srow => exact h
  | slc ver v =>
    cases so with
    | dead => trivial
    | cells => exact h
    | scells => exact h
    | row =>
      obtain ⟨h1, xs, h2, h3⟩ := h
      exact ⟨h1, xs, h2, fun i j hi hj => ⟨(h3 i j hi hj).1, weak (h3 i j hi hj).2⟩⟩
    | srow => exact ⟨h.1, weak h.2⟩
theorem Rep.ren {w0 X0 H E w} (h : Rep w0 X0 H E w) {m j k : Nat} (hnm : ∀ i, X0.nm i ≠ none → i < m) (hj : m ≤ j) (hk : m ≤ k) (hkl : k < H.length) (hjk : j ≠ k) :
    Rep w0 X0 (renH j k H) (renE j k E) w ∧ ∀ b, Xo X0 (renE j k E) (renH j k H) b → Xo X0 E H b := by
  have hget : ∀ i e, renE j k E i = some e → ∃ i0, E i0 = some e ∧ (renH j k H).getD i .dead = renO j k (H.getD i0 .dead) ∧ (i = k ∧ i0 = j ∨ i ≠ k ∧ i ≠ j ∧ i0 = i) := by
    intro i e he
    unfold renE at he
    split at he
    · rename_i hi
      subst hi
      refine ⟨j, he, ?_, .inl ⟨rfl, rfl⟩⟩
      unfold renH
      rw [getD_set_ne' (Ne.symm hjk), getD_set_eq (by rw [List.length_map]; exact hkl)]
    · rename_i hi
      split at he
      · cases he
      · rename_i hij
        refine ⟨i, he, ?_, .inr ⟨hi, hij, rfl⟩⟩
        unfold renH
        rw [getD_set_ne' hij, getD_set_ne' hi, List.getD_eq_getElem?_getD, List.getElem?_map, List.getD_eq_getElem?_getD]
        cases H[i]? <;> rfl
  have hx : ∀ b, Xo X0 (renE j k E) (renH j k H) b → Xo X0 E H b := by
    rintro b (hb | ⟨i, e, he, hh⟩)
    · exact .inl hb
    · obtain ⟨i0, h1, h2, _⟩ := hget i e he
      rw [h2, holds_ren] at hh
      exact .inr ⟨i0, e, h1, hh⟩
  refine ⟨⟨h.below, h.x0, fun i e he => ?_, fun i e he => ?_, fun i e he => ?_, fun i e b he hb => ?_, fun i i' e e' b he he' hb hb' => ?_⟩, hx⟩
  · have hi := hnm i (by rw [he]; exact fun hc => by cases hc)
    have : renE j k E i = E i := by
      unfold renE
      rw [if_neg (by omega), if_neg (by omega)]
    rw [this]
    exact h.nm i e he
  · unfold renH
    rw [List.length_set, List.length_set, List.length_map]
    obtain ⟨i0, h1, _, h3⟩ := hget i e he
    have := h.dom i0 e h1
    rcases h3 with ⟨rfl, _⟩ | ⟨_, _, rfl⟩
    · exact hkl
    · exact this
  · obtain ⟨i0, h1, h2, _⟩ := hget i e he
    rw [h2]
    exact EIok_ren hx hjk (h.ok i0 e h1)
  · obtain ⟨i0, h1, h2, _⟩ := hget i e he
    rw [h2, holds_ren] at hb
    exact h.low i0 e b h1 hb
  · obtain ⟨i0, h1, h2, h3⟩ := hget i e he
    obtain ⟨i1, g1, g2, g3⟩ := hget i' e' he'
    rw [h2, holds_ren] at hb
    rw [g2, holds_ren] at hb'
    have := h.inj i0 i1 e e' b h1 g1 hb hb'
    omega
theorem lookT_map {f : SV → SV} (hf : f .any = .any) : ∀ (τ : Tmps) (t : Nat), lookT (τ.map (fun p => (p.1, f p.2))) t = f (lookT τ t)
  | [], t => hf.symm
  | (u, s) :: r, t => by
    simp only [List.map_cons, lookT]
    split
    · rfl
    · exact lookT_map hf r t
theorem doPrep_sound {w0 X0 N m} (hnm : ∀ k, X0.nm k ≠ none → k < m) {s s' : St} {p : PrepA} (hp : doPrep m N s p = some s') {a : Act} {w : World} (h : StR w0 X0 N s a w) : StR w0 X0 N s' a w := by
  obtain ⟨E, hrep, htr⟩ := h
  have tput : ∀ {X : Nat → Prop} {E' : Env} {τ : Tmps} {t : Nat} {v : SV}, TR w X E' N τ a → (t < N → R w X E' v (a.tmps.getD t undef)) → TR w X E' N ((t, v) :: τ) a := by
    intro X E' τ t v ht hv
    refine ⟨ht.1, ht.2.1, fun u hu => ?_⟩
    simp only [lookT]
    split
    · rename_i hc; subst hc; exact hv hu
    · exact ht.2.2 u hu
  cases p with
  | tmp t =>
    simp only [doPrep] at hp
    split at hp
    case h_2 => cases hp
    rename_i l hl
    split at hp
    case h_2 => cases hp
    rename_i v hv
    cases hp
    obtain ⟨g1, g2⟩ := frzAll_sound _ _ _ hrep hl
    have htr' := htr.mono (w' := w) (fun _ _ _ => rfl) g2 (Env.le_refl _)
    exact ⟨E, g1, tput htr' fun ht => up (pur_sound g1 6 _ _ _ hv (htr'.2.2 t ht))⟩
  | cells k =>
    simp only [doPrep] at hp
    split at hp
    case h_2 => cases hp
    split at hp
    case h_2 => cases hp
    rename_i l hl
    split at hp
    case h_2 => cases hp
    rename_i n g T hk
    obtain ⟨hall, rfl⟩ := ite_some hp
    obtain ⟨g1, g2⟩ := frzAll_sound _ _ _ hrep hl
    obtain ⟨g3, g4⟩ := g1.recell hk (g' := fun i => (pur (applyS s.H l) 6 (g i)).getD .any) fun i v hi hr => up (pur_sound g1 6 _ _ _ (isSome_getD (all_range hall hi)) hr)
    exact ⟨E, g3, htr.mono (w' := w) (fun _ _ _ => rfl) (g2.trans g4) (Env.le_refl _)⟩
  | own t T n =>
    simp only [doPrep] at hp
    split at hp
    case h_2 => cases hp
    rename_i hl
    cases hp
    by_cases ht : t < N
    · obtain ⟨ad, hv⟩ := cap0_inv (hl ▸ htr.2.2 t ht)
      obtain ⟨g1, g2, g3⟩ := hrep.empty n T ad
      exact ⟨_, g1, tput (htr.mono (w' := w) (fun _ _ _ => rfl) g2 g3) fun _ => by rw [hv]; exact .osl (Env.put_same _ _ _) ⟨_, _, _, rfl⟩⟩
    · obtain ⟨g1, g2, g3⟩ := hrep.empty n T none
      exact ⟨_, g1, tput (htr.mono (w' := w) (fun _ _ _ => rfl) g2 g3) fun hc => absurd hc ht⟩
  | ownC k off T n =>
    simp only [doPrep] at hp
    split at hp
    case h_2 => cases hp
    rename_i m g T' hk
    split at hp
    case h_2 => cases hp
    rename_i hg
    obtain ⟨hlt, rfl⟩ := ite_some hp
    cases he : E k with
    | none =>
      obtain ⟨g1, g2, g3⟩ := hrep.empty n T none
      have hkl : k ≠ s.H.length := by
        intro hc
        rw [hc, List.getD_eq_getElem?_getD, List.getElem?_eq_none (Nat.le_refl _)] at hk
        cases hk
      have he' : (E.put s.H.length (.slc 0 (.slice none 0 0))) k = none := by rw [Env.put_ne hkl]; exact he
      have hh : ∀ j e, (E.put s.H.length (.slc 0 (.slice none 0 0))) j = some e → ((s.H ++ [emptyRow n T]).set k (.cells m (updF g off 1 (fun _ => .osl s.H.length 0)) T')).getD j .dead = (s.H ++ [emptyRow n T]).getD j .dead :=
        fun j e hj => getD_set_ne' (fun hc => by subst hc; rw [he'] at hj; cases hj)
      refine ⟨_, g1.ext' (by simp) hh, ?_⟩
      rw [Xo_ext hh]
      exact htr.mono (w' := w) (fun _ _ _ => rfl) g2 g3
    | some e =>
      have hok := hrep.ok k e he
      rw [hk] at hok
      cases e with
      | slc => exact hok.elim
      | blk b =>
        obtain ⟨vs, h1, h2, h3⟩ := hok
        obtain ⟨ad, hv⟩ := cap0_inv (hg ▸ (h3 off hlt).2)
        obtain ⟨g1, g2, g3⟩ := hrep.empty n T ad
        have hkl : k < s.H.length := hrep.dom k _ he
        have hk' : (s.H ++ [emptyRow n T]).getD k .dead = .cells m g T' := by rw [getD_append_left hkl]; exact hk
        -- the one cell that turns
        have hput : (E.put s.H.length (.slc 0 (.slice ad 0 0))) k = some (.blk b) := by rw [Env.put_ne (by omega)]; exact he
        have hself : (E.put s.H.length (.slc 0 (.slice ad 0 0))).put k (.blk b) = E.put s.H.length (.slc 0 (.slice ad 0 0)) := Env.put_self hput
        have hu := g1.upd (w' := w) (e' := .blk b) (so' := .cells m (updF g off 1 (fun _ => .osl s.H.length 0)) T') hput (by rw [hself]; exact Env.le_refl _) (fun _ _ _ => rfl) rfl rfl rfl (Nat.le_refl _) (fun b' hb' => .inl (by rw [hk']; exact hb'))
          (fun hke hwi _ => by
            rw [hself] at *
            refine ⟨vs, h1, h2, fun i hi => ⟨(h3 i hi).1, ?_⟩⟩
            by_cases hio : off ≤ i ∧ i < off + 1
            · rw [updF_in hio]
              obtain rfl : i = off := by omega
              rw [hv]
              exact .osl (Env.put_same _ _ _) ⟨_, _, _, rfl⟩
            · rw [updF_out hio]
              exact ((h3 i hi).2.mono (w' := w) (fun _ _ _ => rfl) g2 g3).mono hke hwi (Env.le_refl _))
        rw [hself] at hu
        exact ⟨_, hu.1, (htr.mono (w' := w) (fun _ _ _ => rfl) g2 g3).mono (w' := w) (fun _ _ _ => rfl) hu.2.2 (Env.le_refl _)⟩
  | shrink t =>
    simp only [doPrep] at hp
    split at hp
    case h_2 => cases hp
    rename_i hb
    have ht : t < N := Nat.le_of_ble_eq_true hb
    split at hp
    case h_2 => cases hp
    rename_i k ver n lo len hl
    split at hp
    case h_2 => cases hp
    split at hp
    case h_2 => cases hp
    rename_i ver' len0 m g T hk
    obtain ⟨⟨rfl, rfl⟩, rfl⟩ := ite_some hp
    have hR : R w (Xo X0 E s.H) E (.win k ver n 0 len) (a.tmps.getD t undef) := hl ▸ htr.2.2 t ht
    generalize hvv : a.tmps.getD t undef = v at hR
    cases hR with
    | winOld he hlt hv =>
      have hok := hrep.ok k _ he
      rw [hk] at hok
      have := hok.1
      omega
    | win he hle ha h0 =>
      rename_i a1 a0 len1 cap0
      have hok := hrep.ok k _ he
      rw [hk] at hok
      obtain ⟨_, xs, hown, hcont⟩ := hok
      have hw : OwnsR w T n (.slice a0 len cap0) len (xs.take (len * n)) ∧ len ≤ len0 := by
        rcases hown with ⟨a', hv', rfl, rfl⟩ | ⟨b, cap, cur, hv', c1, c2, c3, c4, c5, c6⟩
        · cases hv'
          obtain rfl : len = 0 := by omega
          exact ⟨.inl ⟨_, rfl, rfl, by simp⟩, Nat.le_refl _⟩
        · cases hv'
          have hm := Nat.mul_le_mul_right n (show len ≤ len0 by omega)
          refine ⟨.inr ⟨b, cap, cur, rfl, c1, by omega, c3, c4, by rw [← c5, List.take_take, Nat.min_eq_left hm], by rw [List.length_take, c6]; exact Nat.min_eq_left hm⟩, by omega⟩
      have hle2 : E.le (E.put k (.slc (ver + 1) (.slice a0 len cap0))) := by
        refine ⟨fun j b hj => ?_, fun j ver' v'' hj => ?_⟩
        · by_cases hjk : j = k
          · subst hjk; rw [he] at hj; cases hj
          · rw [Env.put_ne hjk]; exact hj
        · by_cases hjk : j = k
          · subst hjk
            rw [he] at hj
            cases hj
            exact ⟨_, _, Env.put_same _ _ _, Nat.le_succ _, fun hc => by omega⟩
          · exact ⟨_, _, by rw [Env.put_ne hjk]; exact hj, Nat.le_refl _, fun _ => rfl⟩
      have hholds : ∀ b, holds (.slc (ver + 1) (.slice a0 len cap0)) (.row (ver + 1) len n g T) = some b → holds (.slc ver (.slice a0 len1 cap0)) (s.H.getD k .dead) = some b := by
        intro b hb
        rw [hk]
        cases a0 <;> cases cap0 <;> exact hb
      have hu := hrep.upd (w' := w) (e' := .slc (ver + 1) (.slice a0 len cap0)) (so' := .row (ver + 1) len n g T) he hle2 (fun _ _ _ => rfl) rfl rfl rfl (Nat.le_refl _) (fun b hb' => .inl (hholds b hb'))
        (fun hke hwi _ => ⟨rfl, _, hw.1, fun i j hi hj => by
          rw [show (xs.take (len * n)).getD (i * n + j) undef = xs.getD (i * n + j) undef by
            rw [List.getD_eq_getElem?_getD, List.getElem?_take, if_pos (mul_lt_of hi hj), List.getD_eq_getElem?_getD]]
          exact ⟨(hcont i j (by omega) hj).1, (hcont i j (by omega) hj).2.mono hke hwi (Env.le_refl _)⟩⟩)
      refine ⟨_, hu.1, tput (htr.mono (w' := w) (fun _ _ _ => rfl) hu.2.2 hle2) fun _ => ?_⟩
      have hv0 : a1 = a0 := h0 rfl
      subst hv0
      rw [hvv]
      exact .osl (Env.put_same _ _ _) ⟨_, _, _, rfl⟩
  | nilc t => cases hp
  | mv j k =>
    simp only [doPrep] at hp
    split at hp
    case h_2 => cases hp
    rename_i hb
    cases hp
    simp only [Bool.and_eq_true, Bool.not_eq_true'] at hb
    obtain ⟨⟨h1, h2⟩, h3, h4⟩ := hb
    obtain ⟨g1, g2⟩ := hrep.ren hnm (Nat.le_of_ble_eq_true h1) (Nat.le_of_ble_eq_true h2) (Nat.le_of_ble_eq_true h3) (Nat.ne_of_beq_eq_false h4)
    refine ⟨_, g1, htr.1, htr.2.1, fun t ht => ?_⟩
    rw [lookT_map (f := ren j k) rfl]
    exact R_ren g2 (Nat.ne_of_beq_eq_false h4) (htr.2.2 t ht)
theorem nilAlt_sound {w0 X0 N} {s s1 s2 : St} {t len : Nat} (hp : nilAlt N s t = some (len, s1, s2)) {a : Act} {w : World} (h : StR w0 X0 N s a w) : (len = 0 ∧ StR w0 X0 N s1 a w) ∨ StR w0 X0 N s2 a w := by
  obtain ⟨E, hrep, htr⟩ := h
  simp only [nilAlt] at hp
  split at hp
  case h_2 => cases hp
  rename_i hb
  have ht : t < N := Nat.le_of_ble_eq_true hb
  split at hp
  case h_2 => cases hp
  rename_i len' n g hl
  cases hp
  have hR := htr.2.2 t ht
  rw [hl] at hR
  have put : ∀ {sv : SV}, R w (Xo X0 E s.H) E sv (a.tmps.getD t undef) → TR w (Xo X0 E s.H) E N ((t, sv) :: s.τ) a := by
    intro sv hv
    refine ⟨htr.1, htr.2.1, fun u hu => ?_⟩
    simp only [lookT]
    split
    · rename_i hc; subst hc; exact hv
    · exact htr.2.2 u hu
  generalize hvv : a.tmps.getD t undef = v at hR
  rw [hvv] at put
  obtain ⟨ad, cap, rfl⟩ := R_sl_shape hR
  cases ad with
  | some ad => exact .inr ⟨E, hrep, put (.slN hR)⟩
  | none =>
    cases hR
    exact .inl ⟨rfl, E, hrep, put .nilsl⟩
theorem doPreps_sound {w0 X0 N m} (hnm : ∀ k, X0.nm k ≠ none → k < m) {a : Act} {w : World} : ∀ {l : List PrepA} {s s' : St}, doPreps m N s l = some s' → StR w0 X0 N s a w → StR w0 X0 N s' a w
  | [], s, s', h, hs => by simp only [doPreps, Option.some.injEq] at h; subst h; exact hs
  | p :: r, s, s', h, hs => by
    simp only [doPreps] at h
    split at h
    · exact doPreps_sound hnm h (doPrep_sound hnm (by assumption) hs)
    · cases h
end Go.Proofs.Ytppdojjhegiffaa.Sx
