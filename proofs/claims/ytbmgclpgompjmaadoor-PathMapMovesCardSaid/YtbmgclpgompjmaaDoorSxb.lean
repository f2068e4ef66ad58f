/- The objects that a call has made, as data, and what it means that a memory holds them; steps of the memory that keep it. -/
import Derived.Test.YtbmgclpgompjmaaDoorSxa
namespace Go.Proofs.YtbmgclpgompjmaaDoor.Sx
open Go.RowKit
/-- cells: a block of the call's own; row: a slice of the call's own; scells, srow: the same, given away for reading. -/
inductive SO : Type
  | dead
  | cells (n : Nat) (g : Nat → SV) (T : TypeId)
  | scells (n : Nat) (g : Nat → SV)
  | row (ver len n : Nat) (g : Nat → Nat → SV) (T : TypeId)
  | srow (ver len n : Nat) (g : Nat → Nat → SV)
instance : Inhabited SO := ⟨.dead⟩
/-- The slice value v is the call's own: empty without room, or at the head of a block. -/
def OwnsR (w : World) (T : TypeId) (n : Nat) (v : Value) (len : Nat) (xs : List Value) : Prop :=
  (∃ a, v = .slice a 0 0 ∧ len = 0 ∧ xs = []) ∨
  ∃ b cap cur, v = .slice (some ⟨b, 0, none⟩) len (cap + 1) ∧ w.heap[b]? = some (.cells cur T (0, 0)) ∧ len ≤ cap + 1 ∧ cap + 1 ≤ maxLen ∧ cur.size = (cap + 1) * n ∧ cur.toList.take (len * n) = xs ∧ xs.length = len * n
def EIok (w : World) (X : Nat → Prop) (E : Env) : EI → SO → Prop
  | _, .dead => True
  | .blk b, .cells n g T => ∃ vs, w.heap[b]? = some (.cells vs T (0, 0)) ∧ vs.size = n ∧ ∀ i, i < n → oneCell (vs.getD i undef) ∧ R w X E (g i) (vs.getD i undef)
  | .blk b, .scells n g => ∃ vs T fr, w.heap[b]? = some (.cells vs T fr) ∧ ¬ X b ∧ vs.size = n ∧ ∀ i, i < n → oneCell (vs.getD i undef) ∧ R w X E0 (g i) (vs.getD i undef)
  | .slc ver v, .row ver' len n g T => ver = ver' ∧ ∃ xs, OwnsR w T n v len xs ∧ ∀ i j, i < len → j < n → oneCell (xs.getD (i * n + j) undef) ∧ R w X E0 (g i j) (xs.getD (i * n + j) undef)
  | .slc ver v, .srow ver' len n g => ver = ver' ∧ R w X E0 (.sl len n g) v
  | _, _ => False
/-- The block that an object keeps for the call alone. -/
def holds : EI → SO → Option Nat
  | .blk b, .cells .. => some b
  | .slc _ (.slice (some a) _ (_ + 1)), .row .. => some a.block
  | _, _ => none
/-- Where a call began: the blocks not to be looked at, those of the caller's that may turn, and the names that came with it. -/
structure Fr : Type where
  x : Nat → Prop
  d : Nat → Prop
  nm : Env
def Fr.of (X : Nat → Prop) : Fr := ⟨X, fun _ => False, E0⟩
/-- What was there is as it was, but for the blocks that may turn. -/
structure Bel (D : Nat → Prop) (w w' : World) : Prop where
  os : w'.os = w.os
  tape : w'.tape = w.tape
  output : w'.output = w.output
  size : w.heap.size ≤ w'.heap.size
  block : ∀ k, k < w.heap.size → ¬ D k → w'.heap[k]? = w.heap[k]?
theorem Bel.refl (D : Nat → Prop) (w : World) : Bel D w w := ⟨rfl, rfl, rfl, Nat.le_refl _, fun _ _ _ => rfl⟩
theorem Bel.below {D : Nat → Prop} {a b c : World} (h : Bel D a b) (k : Below b.heap.size b c) : Bel D a c :=
  ⟨k.os.trans h.os, k.tape.trans h.tape, k.output.trans h.output, Nat.le_trans h.size k.size, fun i hi hd => (k.block i (Nat.lt_of_lt_of_le hi h.size)).trans (h.block i hi hd)⟩
theorem Bel.all {w w' : World} (h : Bel (fun _ => False) w w') : Below w.heap.size w w' := ⟨h.os, h.tape, h.output, h.size, fun k hk => h.block k hk id⟩
/-- A name that came with the call: the same block; a slice that is as it was while its version is 0. -/
def NmOK : EI → Option EI → Prop
  | .blk b, e => e = some (.blk b)
  | .slc _ v, e => ∃ ver v', e = some (.slc ver v') ∧ (ver = 0 → v' = v)
theorem NmOK.le {E E' : Env} (le : E.le E') {e : EI} {k : Nat} (h : NmOK e (E k)) : NmOK e (E' k) := by
  cases e with
  | blk b => exact le.1 _ _ h
  | slc ver v =>
    obtain ⟨ver1, v1, h1, h2⟩ := h
    obtain ⟨ver2, v2, h3, h4, h5⟩ := le.2 _ _ _ h1
    refine ⟨ver2, v2, h3, fun hz => ?_⟩
    have : ver1 = 0 := by omega
    rw [← h2 this]
    exact (h5 (by omega)).symm
def Xo (X0 : Fr) (E : Env) (H : List SO) (b : Nat) : Prop := X0.x b ∨ ∃ k e, E k = some e ∧ holds e (H.getD k .dead) = some b
structure Rep (w0 : World) (X0 : Fr) (H : List SO) (E : Env) (w : World) : Prop where
  below : Bel X0.d w0 w
  x0 : ∀ b, X0.x b → b < w0.heap.size ∧ ¬ X0.d b
  nm : ∀ k e, X0.nm k = some e → NmOK e (E k)
  dom : ∀ k e, E k = some e → k < H.length
  ok : ∀ k e, E k = some e → EIok w (Xo X0 E H) E e (H.getD k .dead)
  low : ∀ k e b, E k = some e → holds e (H.getD k .dead) = some b → w0.heap.size ≤ b ∨ X0.d b
  inj : ∀ k k' e e' b, E k = some e → E k' = some e' → holds e (H.getD k .dead) = some b → holds e' (H.getD k' .dead) = some b → k = k'
theorem OwnsR.mono {w w' : World} {T n v len xs} (h : OwnsR w T n v len xs) (hb : ∀ b, (∃ a m c, v = .slice (some a) m (c + 1) ∧ a.block = b) → w'.heap[b]? = w.heap[b]?) : OwnsR w' T n v len xs := by
  rcases h with h | ⟨b, cap, cur, rfl, h1, h2⟩
  · exact .inl h
  · exact .inr ⟨b, cap, cur, rfl, (hb b ⟨_, _, _, rfl, rfl⟩).trans h1, h2⟩
theorem EIok.mono {w w' : World} {X X' : Nat → Prop} {E E' : Env} (hk : Keeps X w w') (hx : Within X X' w) (le : E.le E') {e : EI} {so : SO} (h : EIok w X E e so)
    (hb : ∀ b, holds e so = some b → w'.heap[b]? = w.heap[b]?) : EIok w' X' E' e so := by
  cases so with
  | dead => cases e <;> trivial
  | cells n g T =>
    cases e with
    | slc => exact h
    | blk b =>
      obtain ⟨vs, h1, h2, h3⟩ := h
      exact ⟨vs, (hb b rfl).trans h1, h2, fun i hi => ⟨(h3 i hi).1, (h3 i hi).2.mono hk hx le⟩⟩
  | scells n g =>
    cases e with
    | slc => exact h
    | blk b =>
      obtain ⟨vs, T, fr, h1, h2, h3, h4⟩ := h
      have hlt := lt_of_block h1
      exact ⟨vs, T, fr, (hk b hlt h2).trans h1, fun hx' => h2 (hx _ hlt hx'), h3, fun i hi => ⟨(h4 i hi).1, (h4 i hi).2.mono hk hx (Env.le_refl _)⟩⟩
  | row ver len n g T =>
    cases e with
    | blk => exact h
    | slc ver' v =>
      obtain ⟨h1, xs, h2, h3⟩ := h
      refine ⟨h1, xs, h2.mono fun b ⟨a, m, c, e1, e2⟩ => ?_, fun i j hi hj => ⟨(h3 i j hi hj).1, (h3 i j hi hj).2.mono hk hx (Env.le_refl _)⟩⟩
      subst e1; subst e2
      exact hb _ rfl
  | srow ver len n g =>
    cases e with
    | blk => exact h
    | slc ver' v => exact ⟨h.1, h.2.mono hk hx (Env.le_refl _)⟩
theorem holds_lt {w : World} {X : Nat → Prop} {E : Env} {e : EI} {so : SO} (h : EIok w X E e so) {b : Nat} (hb : holds e so = some b) : b < w.heap.size := by
  cases so with
  | dead => cases e <;> simp [holds] at hb
  | cells n g T =>
    cases e with
    | slc => exact h.elim
    | blk b' =>
      simp only [holds, Option.some.injEq] at hb
      subst hb
      obtain ⟨vs, h1, _⟩ := h
      exact lt_of_block h1
  | scells n g => cases e <;> simp [holds] at hb
  | row ver len n g T =>
    cases e with
    | blk => exact h.elim
    | slc ver' v =>
      obtain ⟨h1, xs, h2, h3⟩ := h
      rcases h2 with ⟨a, rfl, _⟩ | ⟨b', cap, cur, rfl, h4, _⟩
      · cases a <;> simp [holds] at hb
      · simp only [holds, Option.some.injEq] at hb
        subst hb
        exact lt_of_block h4
  | srow ver len n g => cases e <;> simp [holds] at hb
theorem Rep.xlt {w0 X0 H E w} (h : Rep w0 X0 H E w) : ∀ b, Xo X0 E H b → b < w.heap.size := by
  rintro b (hb | ⟨k, e, he, hh⟩)
  · exact Nat.lt_of_lt_of_le (h.x0 b hb).1 h.below.size
  · exact holds_lt (h.ok k e he) hh
/-- The same heap of data, a world in which all that was there is there still. -/
theorem Rep.world {w0 X0 H E w w'} (h : Rep w0 X0 H E w) (hb : Below w.heap.size w w') : Rep w0 X0 H E w' := by
  refine ⟨h.below.below hb, h.x0, h.nm, h.dom, fun k e he => ?_, h.low, h.inj⟩
  exact (h.ok k e he).mono (fun b hlt _ => hb.block b hlt) (fun b _ hx => hx) (Env.le_refl _) fun b hh => hb.block b (holds_lt (h.ok k e he) hh)
theorem Rep.keeps {X : Nat → Prop} {w w' : World} (hb : Below w.heap.size w w') : Keeps X w w' := fun b hlt _ => hb.block b hlt
theorem Within.refl (X : Nat → Prop) (w : World) : Within X X w := fun _ _ h => h
theorem getD_append_left {α : Type} {l m : List α} {k : Nat} {d : α} (h : k < l.length) : (l ++ m).getD k d = l.getD k d := by
  simp only [List.getD_eq_getElem?_getD]
  rw [List.getElem?_append_left h]
theorem Xo_ext {X0 E} {H H' : List SO} (h : ∀ k e, E k = some e → H'.getD k .dead = H.getD k .dead) : Xo X0 E H' = Xo X0 E H := by
  funext b
  apply propext
  unfold Xo
  refine or_congr Iff.rfl ⟨fun ⟨k, e, he, hh⟩ => ⟨k, e, he, by rw [← h k e he]; exact hh⟩, fun ⟨k, e, he, hh⟩ => ⟨k, e, he, by rw [h k e he]; exact hh⟩⟩
/-- Objects that nobody knows yet. -/
theorem Rep.ext {w0 X0 H H' E w} (h : Rep w0 X0 H E w) (hl : H.length ≤ H'.length) (hh : ∀ k, k < H.length → H'.getD k .dead = H.getD k .dead) : Rep w0 X0 H' E w := by
  have hh' : ∀ k e, E k = some e → H'.getD k .dead = H.getD k .dead := fun k e he => hh k (h.dom k e he)
  refine ⟨h.below, h.x0, h.nm, fun k e he => Nat.lt_of_lt_of_le (h.dom k e he) hl, fun k e he => ?_, fun k e b he hb => ?_, fun k k' e e' b he he' hb hb' => ?_⟩
  · rw [Xo_ext hh', hh' k e he]; exact h.ok k e he
  · rw [hh' k e he] at hb; exact h.low k e b he hb
  · rw [hh' k e he] at hb; rw [hh' k' e' he'] at hb'; exact h.inj k k' e e' b he he' hb hb'
/-- E with one more name. -/
def Env.put (E : Env) (k : Nat) (e : EI) : Env := fun j => if j = k then some e else E j
theorem Env.put_same (E : Env) (k : Nat) (e : EI) : E.put k e k = some e := by simp [Env.put]
theorem Env.put_ne {E : Env} {k j : Nat} {e : EI} (h : j ≠ k) : E.put k e j = E j := by simp [Env.put, h]
theorem Env.le_put {E : Env} {k : Nat} {e : EI} (h : E k = none) : E.le (E.put k e) := by
  refine ⟨fun j b hj => ?_, fun j ver v hj => ?_⟩
  · rw [Env.put_ne (fun e => by subst e; rw [h] at hj; cases hj)]; exact hj
  · exact ⟨ver, v, by rw [Env.put_ne (fun e => by subst e; rw [h] at hj; cases hj)]; exact hj, Nat.le_refl _, fun _ => rfl⟩
theorem heap_new' (w : World) (o : Obj) : (w.alloc o).heap[w.heap.size]? = some o := heap_alloc_new w o
theorem Below.allocs (w : World) (o : Obj) : Below w.heap.size w (w.alloc o) := (Below.refl _ _).alloc (Nat.le_refl _) o
/-- A new object takes its place: its name k was known to nobody. -/
theorem Rep.new {w0 X0 H E w w'} (h : Rep w0 X0 H E w) {k : Nat} {e : EI} (hk : E k = none) (hkl : k < H.length) (hb : Below w.heap.size w w')
    (hh : ∀ b, holds e (H.getD k .dead) = some b → w.heap.size ≤ b)
    (hok : EIok w' (Xo X0 (E.put k e) H) (E.put k e) e (H.getD k .dead)) :
    Rep w0 X0 H (E.put k e) w' ∧ Within (Xo X0 E H) (Xo X0 (E.put k e) H) w := by
  have hle : E.le (E.put k e) := Env.le_put hk
  have hw : Within (Xo X0 E H) (Xo X0 (E.put k e) H) w := by
    rintro b hlt (hx | ⟨j, e', hj, hh'⟩)
    · exact .inl hx
    · by_cases hjk : j = k
      · subst hjk
        rw [Env.put_same] at hj
        cases hj
        have := hh b hh'
        omega
      · rw [Env.put_ne hjk] at hj
        exact .inr ⟨j, e', hj, hh'⟩
  refine ⟨⟨h.below.below hb, h.x0, fun j e' hj => (h.nm j e' hj).le hle, fun j e' hj => ?_, fun j e' hj => ?_, fun j e' b hj hh' => ?_, fun j j' e1 e2 b hj hj' h1 h2 => ?_⟩, hw⟩
  · by_cases hjk : j = k
    · subst hjk; exact hkl
    · rw [Env.put_ne hjk] at hj; exact h.dom j e' hj
  · by_cases hjk : j = k
    · subst hjk
      rw [Env.put_same] at hj
      cases hj
      exact hok
    · rw [Env.put_ne hjk] at hj
      exact (h.ok j e' hj).mono (Rep.keeps hb) hw hle fun b hh' => hb.block b (holds_lt (h.ok j e' hj) hh')
  · by_cases hjk : j = k
    · subst hjk
      rw [Env.put_same] at hj
      cases hj
      have := hh b hh'
      have := h.below.size
      exact .inl (by omega)
    · rw [Env.put_ne hjk] at hj
      exact h.low j e' b hj hh'
  · by_cases hjk : j = k
    · by_cases hjk' : j' = k
      · omega
      · subst hjk
        rw [Env.put_same] at hj
        cases hj
        rw [Env.put_ne hjk'] at hj'
        have := hh b h1
        have := holds_lt (h.ok j' e2 hj') h2
        omega
    · by_cases hjk' : j' = k
      · subst hjk'
        rw [Env.put_same] at hj'
        cases hj'
        rw [Env.put_ne hjk] at hj
        have := hh b h2
        have := holds_lt (h.ok j e1 hj) h1
        omega
      · rw [Env.put_ne hjk] at hj
        rw [Env.put_ne hjk'] at hj'
        exact h.inj j j' e1 e2 b hj hj' h1 h2
end Go.Proofs.YtbmgclpgompjmaaDoor.Sx
