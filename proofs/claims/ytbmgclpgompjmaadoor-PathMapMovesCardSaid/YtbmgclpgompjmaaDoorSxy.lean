/- The objects that a call hands to a function, as the function sees them, and back. -/
import Derived.Test.YtbmgclpgompjmaaDoorSxx
namespace Go.Proofs.YtbmgclpgompjmaaDoor.Sx
open Go.RowKit
/-- Where an object's name stands: an argument; a part of an argument; a cell of an object named before. -/
inductive NP : Type
  | arg (i : Nat)
  | part (i j : Nat)
  | cell (o j : Nat)
def nameOf : SV → Option Nat
  | .own k _ => some k
  | .osl k _ => some k
  | _ => none
def subS (j : Nat) : SV → Option SV
  | .fn _ n g => if j < n then some (g j) else none
  | .agg n g => if j < n then some (g j) else none
  | _ => none
def nameAt (H : List SO) (args : List SV) (ks : List Nat) : NP → Option Nat
  | .arg i => if i < args.length then nameOf (args.getD i .any) else none
  | .part i j => if i < args.length then match subS j (args.getD i .any) with
    | some s => nameOf s
    | none => none
    else none
  | .cell o j => match ks[o]? with
    | some k => match H.getD k .dead with
      | .cells n g _ => if j < n then nameOf (g j) else none
      | _ => none
    | none => none
def namesOf (H : List SO) (args : List SV) : List NP → List Nat → Option (List Nat)
  | [], ks => some ks
  | p :: r, ks => match nameAt H args ks p with
    | some k => namesOf H args r (ks ++ [k])
    | none => none
def posOf : List Nat → Nat → Option Nat
  | [], _ => none
  | a :: r, k => match Nat.beq a k with
    | true => some 0
    | false => match posOf r k with
      | some i => some (i + 1)
      | none => none
def nodupB : List Nat → Bool
  | [] => true
  | a :: r => (posOf r a).isNone && nodupB r
theorem posOf_get : ∀ {ks : List Nat} {k i : Nat}, posOf ks k = some i → ks[i]? = some k
  | [], k, i, h => by cases h
  | a :: r, k, i, h => by
    simp only [posOf] at h
    split at h
    · rename_i hb
      cases h
      rw [Nat.eq_of_beq_eq_true hb]; rfl
    · split at h
      · rename_i j hj
        cases h
        rw [List.getElem?_cons_succ]
        exact posOf_get hj
      · cases h
theorem posOf_none : ∀ {ks : List Nat} {k : Nat}, posOf ks k = none → k ∉ ks
  | [], k, _ => List.not_mem_nil
  | a :: r, k, h => by
    simp only [posOf] at h
    split at h
    · cases h
    · rename_i hb
      split at h
      · cases h
      · rename_i hr
        intro hm
        rcases List.mem_cons.1 hm with rfl | hm
        · rw [Nat.beq_refl] at hb; cases hb
        · exact posOf_none hr hm
theorem posOf_some {ks : List Nat} {k : Nat} (h : k ∈ ks) : ∃ i, posOf ks k = some i := by
  cases hp : posOf ks k with
  | none => exact absurd h (posOf_none hp)
  | some i => exact ⟨i, rfl⟩
theorem posOf_mem {ks : List Nat} {k i : Nat} (h : posOf ks k = some i) : k ∈ ks := List.mem_of_getElem? (posOf_get h)
theorem posOf_lt {ks : List Nat} {k i : Nat} (h : posOf ks k = some i) : i < ks.length := (List.getElem?_eq_some_iff.1 (posOf_get h)).1
theorem posOf_of : ∀ {ks : List Nat} {k i : Nat}, nodupB ks = true → ks[i]? = some k → posOf ks k = some i
  | [], k, i, _, h => by cases h
  | a :: r, k, 0, _, h => by
    simp only [List.getElem?_cons_zero, Option.some.injEq] at h
    subst h
    simp only [posOf, Nat.beq_refl]
  | a :: r, k, i + 1, hn, h => by
    simp only [nodupB, Bool.and_eq_true] at hn
    have h' : r[i]? = some k := h
    have hne : Nat.beq a k = false := by
      cases hb : Nat.beq a k with
      | false => rfl
      | true =>
        have := Nat.eq_of_beq_eq_true hb
        subst this
        obtain ⟨j, hj⟩ := posOf_some (List.mem_of_getElem? h')
        rw [hj] at hn
        simp at hn
    simp only [posOf, hne, posOf_of hn.2 h']
theorem posOf_inj {ks : List Nat} {k k' i : Nat} (h : posOf ks k = some i) (h' : posOf ks k' = some i) : k = k' := by
  have h1 := posOf_get h
  rw [posOf_get h'] at h1
  exact (Option.some.inj h1).symm
def verO : SO → Nat
  | .row v .. => v
  | .srow v .. => v
  | _ => 0
def aliveB : SO → Bool
  | .dead => false
  | _ => true
/-- A value as the function sees it: the names are numbered anew, the versions begin at 0. -/
def sml (os : List SO) (ks : List Nat) : SV → SV
  | .own k off => match posOf ks k with
    | some i => .own i off
    | none => .any
  | .osl k ver => match posOf ks k with
    | some i => match Nat.beq ver (verO (os.getD i .dead)) with
      | true => .osl i 0
      | false => .any
    | none => .any
  | .ownAt .. => .any
  | .win k ver n lo len => match posOf ks k with
    | some i => match Nat.beq ver (verO (os.getD i .dead)) with
      | true => .win i 0 n lo len
      | false => .any
    | none => .any
  | .agg n g => .agg n (fun i => sml os ks (g i))
  | .tup n g => .tup n (fun i => sml os ks (g i))
  | .fn f n g => .fn f n (fun i => sml os ks (g i))
  | s => s
def smlO (os : List SO) (ks : List Nat) : SO → SO
  | .cells n g T => .cells n (fun i => sml os ks (g i)) T
  | .row _ len n g T => .row 0 len n g T
  | .srow _ len n g => .srow 0 len n g
  | s => s
/-- And back. -/
def big (os : List SO) (ks : List Nat) : SV → SV
  | .own i off => match ks[i]? with
    | some k => .own k off
    | none => .any
  | .osl i ver => match ks[i]? with
    | some k => .osl k (verO (os.getD i .dead) + ver)
    | none => .any
  | .ownAt .. => .any
  | .win i ver n lo len => match ks[i]? with
    | some k => .win k (verO (os.getD i .dead) + ver) n lo len
    | none => .any
  | .agg n g => .agg n (fun i => big os ks (g i))
  | .tup n g => .tup n (fun i => big os ks (g i))
  | .fn f n g => .fn f n (fun i => big os ks (g i))
  | s => s
def bigO (os : List SO) (ks : List Nat) (v0 : Nat) : SO → SO
  | .cells n g T => .cells n (fun i => big os ks (g i)) T
  | .row ver len n g T => .row (v0 + ver) len n g T
  | .srow ver len n g => .srow (v0 + ver) len n g
  | s => s
def setsOf (os : List SO) (ks : List Nat) (post : List SO) : List Nat → Nat → List (Nat × SO)
  | [], _ => []
  | k :: r, i => (k, bigO os ks (verO (os.getD i .dead)) (post.getD i .dead)) :: setsOf os ks post r (i + 1)
theorem applyS_sets {os : List SO} {ks : List Nat} {post : List SO} : ∀ (r : List Nat) (i : Nat) (H0 : List SO), nodupB r = true → (∀ k ∈ r, k < H0.length) →
    (applyS H0 (setsOf os ks post r i)).length = H0.length ∧ ∀ k, (applyS H0 (setsOf os ks post r i)).getD k .dead = match posOf r k with
      | some j => bigO os ks (verO (os.getD (i + j) .dead)) (post.getD (i + j) .dead)
      | none => H0.getD k .dead
  | [], i, H0, _, _ => ⟨rfl, fun _ => rfl⟩
  | a :: r, i, H0, hn, hk => by
    simp only [nodupB, Bool.and_eq_true] at hn
    obtain ⟨h1, h2⟩ := applyS_sets (post := post) r (i + 1) (H0.set a (bigO os ks (verO (os.getD i .dead)) (post.getD i .dead))) hn.2 (fun k hm => by rw [List.length_set]; exact hk k (List.mem_cons_of_mem _ hm))
    have e : applyS H0 (setsOf os ks post (a :: r) i) = applyS (H0.set a (bigO os ks (verO (os.getD i .dead)) (post.getD i .dead))) (setsOf os ks post r (i + 1)) := rfl
    rw [e]
    refine ⟨by rw [h1, List.length_set], fun k => ?_⟩
    rw [h2 k]
    simp only [posOf]
    cases hb : Nat.beq a k with
    | true =>
      have := Nat.eq_of_beq_eq_true hb
      subst this
      have hr : posOf r a = none := by simpa using hn.1
      rw [hr]
      simp only [Nat.add_zero]
      exact getD_set_eq (hk a List.mem_cons_self)
    | false =>
      have hne : k ≠ a := fun hc => by subst hc; rw [Nat.beq_refl] at hb; cases hb
      cases hr : posOf r k with
      | some j => simp only; rw [show i + 1 + j = i + (j + 1) by omega]
      | none => simp only; exact getD_set_ne' hne
def smlE (E : Env) (ks : List Nat) : Env := fun i => match ks[i]? with
  | some k => match E k with
    | some (.blk b) => some (.blk b)
    | some (.slc _ v) => some (.slc 0 v)
    | none => none
  | none => none
theorem smlE_blk {E : Env} {ks : List Nat} {k i b : Nat} (h : posOf ks k = some i) (he : E k = some (.blk b)) : smlE E ks i = some (.blk b) := by
  simp only [smlE, posOf_get h, he]
theorem smlE_slc {E : Env} {ks : List Nat} {k i ver : Nat} {v : Value} (h : posOf ks k = some i) (he : E k = some (.slc ver v)) : smlE E ks i = some (.slc 0 v) := by
  simp only [smlE, posOf_get h, he]
theorem smlE_inv {E : Env} {ks : List Nat} {i : Nat} {e : EI} (h : smlE E ks i = some e) : ∃ k, ks[i]? = some k ∧ ((∃ b, E k = some (.blk b) ∧ e = .blk b) ∨ ∃ ver v, E k = some (.slc ver v) ∧ e = .slc 0 v) := by
  simp only [smlE] at h
  split at h
  · rename_i k hk
    split at h
    · rename_i b hb; cases h; exact ⟨k, hk, .inl ⟨b, hb, rfl⟩⟩
    · rename_i ver v hv; cases h; exact ⟨k, hk, .inr ⟨ver, v, hv, rfl⟩⟩
    · cases h
  · cases h
/-- The versions that H tells are those that E knows. -/
def VerOK (os : List SO) (E : Env) (ks : List Nat) : Prop := ∀ i k, ks[i]? = some k → ∀ ver v, E k = some (.slc ver v) → verO (os.getD i .dead) = ver
theorem R_slN {w : World} {X X' : Nat → Prop} (hx : ∀ b, X' b → X b) {E E' : Env} {len n : Nat} {g : Nat → Nat → SV} {v : Value} (h : R w X E (.slN len n g) v) : R w X' E' (.slN len n g) v := by
  cases h with
  | slN hr =>
    refine .slN ?_
    cases hr with
    | sl0 => exact .sl0
    | sl hb hX hc hl ho hr => exact .sl hb (fun hc => hX (hx _ hc)) hc hl ho fun i j hi hj => (hr i j hi hj).mono (fun _ _ _ => rfl) (fun b _ hb => hx b hb) (Env.le_refl _)
theorem R_sml {w : World} {X X' : Nat → Prop} (hx : ∀ b, X' b → X b) {os : List SO} {ks : List Nat} {E : Env} (hv : VerOK os E ks) {s : SV} {v : Value} (h : R w X E s v) : R w X' (smlE E ks) (sml os ks s) v := by
  induction s generalizing v with
  | any => exact .any
  | int => cases h; exact .int
  | bool => cases h; exact .bool
  | lit => cases h; exact .lit
  | str => cases h; exact .str
  | nilfn => cases h; exact .nilfn
  | cap0 => cases h; exact .cap0
  | fn f n g ih => cases h with | fn hs hr => exact .fn hs fun i hi => ih i (hr i hi)
  | agg n g ih => cases h with | agg hs ho hr => exact .agg hs ho fun i hi => ih i (hr i hi)
  | tup n g ih => cases h with | tup hs hr => exact .tup hs fun i hi => ih i (hr i hi)
  | sl len n g ih =>
    cases h with
    | sl0 => exact .sl0
    | sl hb hX hc hl ho hr => exact .sl hb (fun hc => hX (hx _ hc)) hc hl ho fun i j hi hj => (hr i j hi hj).mono (fun _ _ _ => rfl) (fun b _ hb => hx b hb) (Env.le_refl _)
  | ref n g ih => cases h with | ref hb hX hc ho hr => exact .ref hb (fun hc => hX (hx _ hc)) hc ho fun j hj => (hr j hj).mono (fun _ _ _ => rfl) (fun b _ hb => hx b hb) (Env.le_refl _)
  | own k off =>
    cases h with
    | own he =>
      simp only [sml]
      split
      · rename_i i hi; exact .own (smlE_blk hi he)
      · exact .any
  | osl k ver =>
    simp only [sml]
    split
    · rename_i i hi
      split
      · rename_i hb
        have hbb := Nat.eq_of_beq_eq_true hb
        cases h with
        | osl he hs => exact .osl (smlE_slc hi he) hs
        | oslOld he hl hs =>
          have := hv i k (posOf_get hi) _ _ he
          omega
      · exact .any
    · exact .any
  | ownAt => exact .any
  | nilsl => cases h; exact .nilsl
  | slN => exact R_slN hx h
  | win k ver n lo len =>
    simp only [sml]
    split
    · rename_i i hi
      split
      · rename_i hb
        have hbb := Nat.eq_of_beq_eq_true hb
        cases h with
        | win he hl ha h0 => exact .win (smlE_slc hi he) hl ha h0
        | winOld he hl hs =>
          have := hv i k (posOf_get hi) _ _ he
          omega
      · exact .any
    · exact .any
theorem R_big {w : World} {X X' : Nat → Prop} (hx : ∀ b, X' b → X b) {os : List SO} {ks : List Nat} {Es E' : Env}
    (h1 : ∀ i k b, ks[i]? = some k → Es i = some (.blk b) → E' k = some (.blk b)) (h2 : ∀ i k ver v, ks[i]? = some k → Es i = some (.slc ver v) → E' k = some (.slc (verO (os.getD i .dead) + ver) v))
    {s : SV} {v : Value} (h : R w X Es s v) : R w X' E' (big os ks s) v := by
  induction s generalizing v with
  | any => exact .any
  | int => cases h; exact .int
  | bool => cases h; exact .bool
  | lit => cases h; exact .lit
  | str => cases h; exact .str
  | nilfn => cases h; exact .nilfn
  | cap0 => cases h; exact .cap0
  | fn f n g ih => cases h with | fn hs hr => exact .fn hs fun i hi => ih i (hr i hi)
  | agg n g ih => cases h with | agg hs ho hr => exact .agg hs ho fun i hi => ih i (hr i hi)
  | tup n g ih => cases h with | tup hs hr => exact .tup hs fun i hi => ih i (hr i hi)
  | sl len n g ih =>
    cases h with
    | sl0 => exact .sl0
    | sl hb hX hc hl ho hr => exact .sl hb (fun hc => hX (hx _ hc)) hc hl ho fun i j hi hj => (hr i j hi hj).mono (fun _ _ _ => rfl) (fun b _ hb => hx b hb) (Env.le_refl _)
  | ref n g ih => cases h with | ref hb hX hc ho hr => exact .ref hb (fun hc => hX (hx _ hc)) hc ho fun j hj => (hr j hj).mono (fun _ _ _ => rfl) (fun b _ hb => hx b hb) (Env.le_refl _)
  | own i off =>
    cases h with
    | own he =>
      simp only [big]
      split
      · rename_i k hk; exact .own (h1 _ _ _ hk he)
      · exact .any
  | osl i ver =>
    simp only [big]
    split
    · rename_i k hk
      cases h with
      | osl he hs => exact .osl (h2 _ _ _ _ hk he) hs
      | oslOld he hl hs => exact .oslOld (h2 _ _ _ _ hk he) (by omega) hs
    · exact .any
  | ownAt => exact .any
  | nilsl => cases h; exact .nilsl
  | slN => exact R_slN hx h
  | win i ver n lo len =>
    simp only [big]
    split
    · rename_i k hk
      cases h with
      | win he hl ha h0 => exact .win (h2 _ _ _ _ hk he) hl ha h0
      | winOld he hl hs => exact .winOld (h2 _ _ _ _ hk he) (by omega) hs
    · exact .any
/-- The objects of these names. -/
def objsAt (H : List SO) (ks : List Nat) : List SO := ks.map fun k => H.getD k .dead
theorem objsAt_get {H : List SO} {ks : List Nat} {i k : Nat} (h : ks[i]? = some k) : (objsAt H ks).getD i .dead = H.getD k .dead := by
  rw [objsAt, List.getD_eq_getElem?_getD, List.getElem?_map, h]; rfl
theorem Rep.verOK {w0 X0 H E w} (h : Rep w0 X0 H E w) {ks : List Nat} (ha : (objsAt H ks).all aliveB = true) : VerOK (objsAt H ks) E ks := by
  intro i k hk ver v he
  have hok := h.ok k _ he
  rw [objsAt_get hk]
  have hal : aliveB (H.getD k .dead) = true := List.all_eq_true.1 ha _ (List.mem_map.2 ⟨k, List.mem_of_getElem? hk, rfl⟩)
  generalize H.getD k .dead = so at *
  cases so with
  | dead => cases hal
  | cells => exact hok.elim
  | scells => exact hok.elim
  | row => exact hok.1.symm
  | srow => exact hok.1.symm
theorem nameOf_known {w X E s v k} (h : R w X E s v) (hn : nameOf s = some k) : E k ≠ none := by
  cases h <;> simp only [nameOf, reduceCtorEq, Option.some.injEq] at hn
  all_goals (subst hn; rename_i he; first | (rw [he]; simp; done) | skip)
  all_goals (intro hc; simp_all)
theorem nameAt_known {w0 X0 H E w} (h : Rep w0 X0 H E w) {args : List SV} {vals : Array Value} (ha : ArgsR w (Xo X0 E H) E args vals) {ks : List Nat} (hk : ∀ k ∈ ks, E k ≠ none) {p : NP} {k : Nat} (hn : nameAt H args ks p = some k) : E k ≠ none := by
  cases p with
  | arg i =>
    simp only [nameAt] at hn
    obtain ⟨hi, hn⟩ := ite_none hn
    exact nameOf_known (ha.2 i hi) hn
  | part i j =>
    simp only [nameAt] at hn
    obtain ⟨hi, hn⟩ := ite_none hn
    have hr := ha.2 i hi
    generalize args.getD i .any = s at hr hn
    generalize vals.getD i undef = v at hr
    cases hr <;> simp only [subS, reduceCtorEq] at hn
    · rename_i n g vs hs hr
      by_cases hj : j < n
      · rw [if_pos hj] at hn; exact nameOf_known (hr j hj) hn
      · rw [if_neg hj] at hn; cases hn
    · rename_i n g vs hs ho hr
      by_cases hj : j < n
      · rw [if_pos hj] at hn; exact nameOf_known (hr j hj) hn
      · rw [if_neg hj] at hn; cases hn
  | cell o j =>
    simp only [nameAt] at hn
    split at hn
    case h_2 => cases hn
    rename_i k0 hk0
    have hkn := hk k0 (List.mem_of_getElem? hk0)
    split at hn
    case h_2 => cases hn
    rename_i n g T hso
    obtain ⟨hj, hn⟩ := ite_none hn
    cases he : E k0 with
    | none => exact absurd he hkn
    | some e =>
      have hok := h.ok k0 e he
      rw [hso] at hok
      cases e with
      | slc => exact hok.elim
      | blk b =>
        obtain ⟨vs, _, _, h3⟩ := hok
        exact nameOf_known (h3 j hj).2 hn
theorem namesOf_known {w0 X0 H E w} (h : Rep w0 X0 H E w) {args : List SV} {vals : Array Value} (ha : ArgsR w (Xo X0 E H) E args vals) : ∀ (ps : List NP) (ks ks' : List Nat), (∀ k ∈ ks, E k ≠ none) → namesOf H args ps ks = some ks' → (∀ k ∈ ks', E k ≠ none) ∧ ks'.length = ks.length + ps.length
  | [], ks, ks', hk, hn => by simp only [namesOf, Option.some.injEq] at hn; subst hn; exact ⟨hk, rfl⟩
  | p :: r, ks, ks', hk, hn => by
    simp only [namesOf] at hn
    split at hn
    case h_2 => cases hn
    rename_i k hk1
    obtain ⟨h1, h2⟩ := namesOf_known h ha r (ks ++ [k]) ks' (fun k' hm => by
      rcases List.mem_append.1 hm with hm | hm
      · exact hk k' hm
      · rw [List.mem_singleton.1 hm]; exact nameAt_known h ha hk hk1) hn
    exact ⟨h1, by rw [h2]; simp; omega⟩
theorem nameAt_ext {H HF : List SO} (he : Ext H HF) {args : List SV} {ks : List Nat} {p : NP} {k : Nat} (hn : nameAt H args ks p = some k) : nameAt HF args ks p = some k := by
  cases p with
  | arg => exact hn
  | part => exact hn
  | cell o j =>
    simp only [nameAt] at hn ⊢
    split at hn
    case h_2 => cases hn
    rename_i k0 hk0
    split at hn
    case h_2 => cases hn
    rename_i n g T hso
    have : HF.getD k0 .dead = H.getD k0 .dead := he k0 (by rw [hso]; simp)
    simp only [this, hso]
    exact hn
theorem namesOf_ext {H HF : List SO} (he : Ext H HF) {args : List SV} : ∀ (ps : List NP) (ks ks' : List Nat), namesOf H args ps ks = some ks' → namesOf HF args ps ks = some ks'
  | [], ks, ks', hn => hn
  | p :: r, ks, ks', hn => by
    simp only [namesOf] at hn ⊢
    split at hn
    case h_2 => cases hn
    rename_i k hk1
    rw [nameAt_ext he hk1]
    exact namesOf_ext he r _ ks' hn
theorem objsAt_ext {H HF : List SO} (he : Ext H HF) {ks : List Nat} (ha : (objsAt H ks).all aliveB = true) : objsAt HF ks = objsAt H ks := by
  refine List.map_congr_left fun k hk => he k fun hc => ?_
  have := List.all_eq_true.1 ha _ (List.mem_map.2 ⟨k, hk, rfl⟩)
  rw [hc] at this
  cases this
/-- A block that one of these objects keeps. -/
def HeldBy (H : List SO) (E : Env) (ks : List Nat) (b : Nat) : Prop := ∃ k ∈ ks, ∃ e, E k = some e ∧ holds e (H.getD k .dead) = some b
/-- Where the function begins. -/
def smlF (X0 : Fr) (H : List SO) (E : Env) (ks : List Nat) : Fr := ⟨fun b => Xo X0 E H b ∧ ¬ HeldBy H E ks b, HeldBy H E ks, smlE E ks⟩
theorem holds_sml {os ks} (_ : EI) (so : SO) (v : Value) (ver : Nat) : holds (.slc 0 v) (smlO os ks so) = holds (.slc ver v) so := by
  cases so <;> first | rfl | exact holds_row _ _ _ _ _ _ _ _ _ _ _ _ _ | (rw [smlO, holds_srow, holds_srow]) | skip
  all_goals
    cases v <;> try rfl
    rename_i x y z
    cases x <;> cases z <;> rfl
theorem smlE_holds {os H E ks i e b} (h : smlE E ks i = some e) (hb : holds e ((List.map (smlO os ks) (objsAt H ks)).getD i .dead) = some b) : ∃ k e0, ks[i]? = some k ∧ E k = some e0 ∧ holds e0 (H.getD k .dead) = some b := by
  obtain ⟨k, hk, h2⟩ := smlE_inv h
  have hget : (List.map (smlO os ks) (objsAt H ks)).getD i .dead = smlO os ks (H.getD k .dead) := by
    rw [List.getD_eq_getElem?_getD, List.getElem?_map, objsAt, List.getElem?_map, hk]; rfl
  rw [hget] at hb
  rcases h2 with ⟨b0, he, rfl⟩ | ⟨ver, v, he, rfl⟩
  · refine ⟨k, _, hk, he, ?_⟩
    generalize H.getD k .dead = so at *
    cases so <;> simp only [smlO, holds] at hb ⊢ <;> first | exact hb | cases hb
  · exact ⟨k, _, hk, he, by rw [← holds_sml (os := os) (ks := ks) (.slc 0 v) _ v ver]; exact hb⟩
theorem EIok_sml {w X X' E} (hx : ∀ b, X' b → X b) {os ks} (hv : VerOK os E ks) {so : SO} : (∀ {b}, EIok w X E (.blk b) so → EIok w X' (smlE E ks) (.blk b) (smlO os ks so)) ∧ (∀ {ver v}, EIok w X E (.slc ver v) so → EIok w X' (smlE E ks) (.slc 0 v) (smlO os ks so)) := by
  have weak : ∀ {s : SV} {v : Value}, R w X E0 s v → R w X' E0 s v := fun h => h.mono (fun _ _ _ => rfl) (fun b _ hb => hx b hb) (Env.le_refl _)
  constructor
  · intro b h
    cases so with
    | dead => trivial
    | cells n g T =>
      obtain ⟨vs, h1, h2, h3⟩ := h
      exact ⟨vs, h1, h2, fun i hi => ⟨(h3 i hi).1, R_sml hx hv (h3 i hi).2⟩⟩
    | scells n g =>
      obtain ⟨vs, T, fr, h1, h2, h3, h4⟩ := h
      exact ⟨vs, T, fr, h1, fun hc => h2 (hx _ hc), h3, fun i hi => ⟨(h4 i hi).1, weak (h4 i hi).2⟩⟩
    | row => exact h
    | srow => exact h
  · intro ver v h
    cases so with
    | dead => trivial
    | cells => exact h
    | scells => exact h
    | row =>
      obtain ⟨_, xs, h2, h3⟩ := h
      exact ⟨rfl, xs, h2, fun i j hi hj => ⟨(h3 i j hi hj).1, weak (h3 i j hi hj).2⟩⟩
    | srow => exact ⟨rfl, weak h.2⟩
/-- Into the function. -/
theorem Rep.sml {w0 X0 H E w} (h : Rep w0 X0 H E w) {ks : List Nat} (hn : nodupB ks = true) (ha : (objsAt H ks).all aliveB = true) :
    Rep w (smlF X0 H E ks) ((objsAt H ks).map (smlO (objsAt H ks) ks)) (smlE E ks) w ∧ ∀ b, Xo (smlF X0 H E ks) (smlE E ks) ((objsAt H ks).map (smlO (objsAt H ks) ks)) b → Xo X0 E H b := by
  have hv := h.verOK ha
  have hx : ∀ b, Xo (smlF X0 H E ks) (smlE E ks) ((objsAt H ks).map (smlO (objsAt H ks) ks)) b → Xo X0 E H b := by
    rintro b (hb | ⟨i, e, he, hh⟩)
    · exact hb.1
    · obtain ⟨k, e0, hk, he0, hh0⟩ := smlE_holds he hh
      exact .inr ⟨k, e0, he0, hh0⟩
  refine ⟨⟨Bel.refl _ _, fun b hb => ⟨h.xlt b hb.1, hb.2⟩, fun i e he => ?_, fun i e he => ?_, fun i e he => ?_, fun i e b he hb => ?_, fun i i' e e' b he he' hb hb' => ?_⟩, hx⟩
  · have he' : smlE E ks i = some e := he
    obtain ⟨k, hk, h2⟩ := smlE_inv he'
    rcases h2 with ⟨b, hb, rfl⟩ | ⟨ver, v, hv, rfl⟩
    · exact he'
    · exact ⟨0, v, he', fun _ => rfl⟩
  · obtain ⟨k, hk, _⟩ := smlE_inv he
    rw [List.length_map, objsAt, List.length_map]
    exact (List.getElem?_eq_some_iff.1 hk).1
  · obtain ⟨k, hk, h2⟩ := smlE_inv he
    have hget : (List.map (smlO (objsAt H ks) ks) (objsAt H ks)).getD i .dead = smlO (objsAt H ks) ks (H.getD k .dead) := by
      rw [List.getD_eq_getElem?_getD, List.getElem?_map, objsAt, List.getElem?_map, hk]; rfl
    rw [hget]
    rcases h2 with ⟨b, hb, rfl⟩ | ⟨ver, v, hb, rfl⟩
    · exact (EIok_sml hx hv).1 (h.ok k _ hb)
    · exact (EIok_sml hx hv).2 (h.ok k _ hb)
  · obtain ⟨k, e0, hk, he0, hh0⟩ := smlE_holds he hb
    exact .inr ⟨k, List.mem_of_getElem? hk, e0, he0, hh0⟩
  · obtain ⟨k, e0, hk, he0, hh0⟩ := smlE_holds he hb
    obtain ⟨k', e1, hk', he1, hh1⟩ := smlE_holds he' hb'
    have := h.inj k k' e0 e1 b he0 he1 hh0 hh1
    subst this
    have h1 := posOf_of hn hk
    rw [posOf_of hn hk'] at h1
    exact (Option.some.inj h1).symm
end Go.Proofs.YtbmgclpgompjmaaDoor.Sx
