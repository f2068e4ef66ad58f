/- An object of the call's own takes another content; objects are given away for reading; values as pure data. -/
import Derived.Test.YtbmgclpgompjmaaDoorSxb
namespace Go.Proofs.YtbmgclpgompjmaaDoor.Sx
open Go.RowKit
theorem getD_set_eq {α : Type} {l : List α} {k : Nat} {x d : α} (h : k < l.length) : (l.set k x).getD k d = x := by
  simp [List.getD_eq_getElem?_getD, h]
theorem getD_set_ne' {α : Type} {l : List α} {k j : Nat} {x d : α} (h : j ≠ k) : (l.set k x).getD j d = l.getD j d := by
  simp [List.getD_eq_getElem?_getD, Ne.symm h]
/-- What a step may do: of the blocks that were there, only the one that object k keeps for the call may turn. -/
theorem Rep.upd {w0 X0 H E w w'} (h : Rep w0 X0 H E w) {k : Nat} {e e' : EI} {so' : SO} (hk : E k = some e) (le : E.le (E.put k e'))
    (hb : ∀ b, b < w.heap.size → holds e (H.getD k .dead) ≠ some b → w'.heap[b]? = w.heap[b]?)
    (hos : w'.os = w.os) (htape : w'.tape = w.tape) (hout : w'.output = w.output) (hsz : w.heap.size ≤ w'.heap.size)
    (hh : ∀ b, holds e' so' = some b → holds e (H.getD k .dead) = some b ∨ (w.heap.size ≤ b))
    (hok : Keeps (Xo X0 E H) w w' → Within (Xo X0 E H) (Xo X0 (E.put k e') (H.set k so')) w →
      (∀ b, holds e (H.getD k .dead) = some b → holds e' so' ≠ some b → ¬ Xo X0 (E.put k e') (H.set k so') b) → EIok w' (Xo X0 (E.put k e') (H.set k so')) (E.put k e') e' so') :
    Rep w0 X0 (H.set k so') (E.put k e') w' ∧ Keeps (Xo X0 E H) w w' ∧ Within (Xo X0 E H) (Xo X0 (E.put k e') (H.set k so')) w := by
  have hkl : k < H.length := h.dom k e hk
  have ge : ∀ {j e1}, (E.put k e') j = some e1 → j ≠ k → E j = some e1 := fun hj hne => by rwa [Env.put_ne hne] at hj
  have hke : Keeps (Xo X0 E H) w w' := fun b hlt hX => hb b hlt fun hc => hX (.inr ⟨k, e, hk, hc⟩)
  have hwi : Within (Xo X0 E H) (Xo X0 (E.put k e') (H.set k so')) w := by
    rintro b hlt (hx | ⟨j, e1, hj, hj2⟩)
    · exact .inl hx
    · by_cases hjk : j = k
      · subst hjk
        rw [Env.put_same] at hj
        cases hj
        rw [getD_set_eq hkl] at hj2
        rcases hh b hj2 with h1 | h1
        · exact .inr ⟨j, e, hk, h1⟩
        · omega
      · rw [getD_set_ne' hjk] at hj2
        exact .inr ⟨j, e1, ge hj hjk, hj2⟩
  have hoth : ∀ j e1 b, j ≠ k → E j = some e1 → holds e1 (H.getD j .dead) = some b → w'.heap[b]? = w.heap[b]? := fun j e1 b hjk hj hj2 =>
    hb b (holds_lt (h.ok j e1 hj) hj2) fun hc => hjk (h.inj j k e1 e b hj hk hj2 hc)
  have hfree : ∀ b, holds e (H.getD k .dead) = some b → holds e' so' ≠ some b → ¬ Xo X0 (E.put k e') (H.set k so') b := by
    rintro b h1 h2 (hx | ⟨j, e1, hj, hj2⟩)
    · have h3 := h.x0 b hx
      rcases h.low k e b hk h1 with h4 | h4
      · omega
      · exact h3.2 h4
    · by_cases hjk : j = k
      · subst hjk
        rw [Env.put_same] at hj
        cases hj
        rw [getD_set_eq hkl] at hj2
        exact h2 hj2
      · rw [getD_set_ne' hjk] at hj2
        exact hjk (h.inj j k e1 e b (ge hj hjk) hk hj2 h1)
  refine ⟨⟨⟨hos.trans h.below.os, htape.trans h.below.tape, hout.trans h.below.output, Nat.le_trans h.below.size hsz, fun b hlt hd => (hb b (Nat.lt_of_lt_of_le hlt h.below.size) fun hc => ?_).trans (h.below.block b hlt hd)⟩, h.x0, fun j e1 hj => (h.nm j e1 hj).le le, fun j e1 hj => ?_, fun j e1 hj => ?_, fun j e1 b hj hj2 => ?_, fun j j' e1 e2 b hj hj' h1 h2 => ?_⟩, hke, hwi⟩
  · rcases h.low k e b hk hc with h4 | h4
    · omega
    · exact hd h4
  · rw [List.length_set]
    by_cases hjk : j = k
    · subst hjk; exact hkl
    · exact h.dom j e1 (ge hj hjk)
  · by_cases hjk : j = k
    · subst hjk
      rw [Env.put_same] at hj
      cases hj
      rw [getD_set_eq hkl]
      exact hok hke hwi hfree
    · rw [getD_set_ne' hjk]
      exact (h.ok j e1 (ge hj hjk)).mono hke hwi le fun b hj2 => hoth j e1 b hjk (ge hj hjk) hj2
  · by_cases hjk : j = k
    · subst hjk
      rw [Env.put_same] at hj
      cases hj
      rw [getD_set_eq hkl] at hj2
      rcases hh b hj2 with h1 | h1
      · exact h.low j e b hk h1
      · exact .inl (Nat.le_trans h.below.size h1)
    · rw [getD_set_ne' hjk] at hj2
      exact h.low j e1 b (ge hj hjk) hj2
  · have key : ∀ j e1, j ≠ k → E j = some e1 → holds e1 (H.getD j .dead) = some b → holds e' so' = some b → False := fun j e1 hjk hj hj2 h2 => by
      rcases hh b h2 with h1 | h1
      · exact hjk (h.inj j k e1 e b hj hk hj2 h1)
      · have := holds_lt (h.ok j e1 hj) hj2
        omega
    by_cases hjk : j = k
    · by_cases hjk' : j' = k
      · omega
      · subst hjk
        rw [Env.put_same] at hj
        cases hj
        rw [getD_set_eq hkl] at h1
        rw [getD_set_ne' hjk'] at h2
        exact (key j' e2 hjk' (ge hj' hjk') h2 h1).elim
    · by_cases hjk' : j' = k
      · subst hjk'
        rw [Env.put_same] at hj'
        cases hj'
        rw [getD_set_eq hkl] at h2
        rw [getD_set_ne' hjk] at h1
        exact (key j e1 hjk (ge hj hjk) h1 h2).elim
      · rw [getD_set_ne' hjk] at h1
        rw [getD_set_ne' hjk'] at h2
        exact h.inj j j' e1 e2 b (ge hj hjk) (ge hj' hjk') h1 h2
theorem Env.put_self {E : Env} {k : Nat} {e : EI} (h : E k = some e) : E.put k e = E := by
  funext j
  by_cases hj : j = k
  · subst hj; rw [Env.put_same, h]
  · rw [Env.put_ne hj]
/-- As data that names nothing of the call's own. -/
def pur (H : List SO) : Nat → SV → Option SV
  | 0, _ => none
  | f + 1, sv => match sv with
    | .any => none
    | .own k off => match H.getD k .dead with
      | .scells n g => if off ≤ n then some (.ref (n - off) (fun j => g (off + j))) else none
      | _ => none
    | .osl k ver => match H.getD k .dead with
      | .srow ver' len n g => if ver = ver' then some (.sl len n g) else none
      | _ => none
    | .ownAt .. => none
    | .win k ver n lo len => match H.getD k .dead with
      | .srow ver' _ n' g => if ver = ver' ∧ n = n' then some (.sl len n (fun i j => g (lo + i) j)) else none
      | _ => none
    | .agg n g => if (List.range n).all (fun i => (pur H f (g i)).isSome) then some (.agg n (fun i => (pur H f (g i)).getD .any)) else none
    | .tup n g => if (List.range n).all (fun i => (pur H f (g i)).isSome) then some (.tup n (fun i => (pur H f (g i)).getD .any)) else none
    | .fn F n g => if (List.range n).all (fun i => (pur H f (g i)).isSome) then some (.fn F n (fun i => (pur H f (g i)).getD .any)) else none
    | s => some s
theorem ite_some {α : Type} {c : Prop} [Decidable c] {a b : α} (h : (if c then some a else none) = some b) : c ∧ a = b := by
  by_cases hc : c <;> simp [hc] at h
  exact ⟨hc, h⟩
theorem all_range {n : Nat} {p : Nat → Bool} (h : (List.range n).all p = true) {i : Nat} (hi : i < n) : p i = true :=
  List.all_eq_true.1 h i (List.mem_range.2 hi)
theorem isSome_getD {α : Type} {o : Option α} {d : α} (h : o.isSome = true) : o = some (o.getD d) := by cases o <;> simp_all
theorem pur_sound {w0 X0 H E w} (h : Rep w0 X0 H E w) : ∀ (f : Nat) (sv sv' : SV) (v : Value), pur H f sv = some sv' → R w (Xo X0 E H) E sv v → R w (Xo X0 E H) E0 sv' v := by
  intro f
  induction f with
  | zero => intro sv sv' v hp; simp [pur] at hp
  | succ f ih =>
    intro sv sv' v hp hr
    cases hr with
    | any => simp [pur] at hp
    | int => simp [pur] at hp; subst hp; exact .int
    | bool => simp [pur] at hp; subst hp; exact .bool
    | lit => simp [pur] at hp; subst hp; exact .lit
    | str => simp [pur] at hp; subst hp; exact .str
    | nilfn => simp [pur] at hp; subst hp; exact .nilfn
    | cap0 => simp [pur] at hp; subst hp; exact .cap0
    | fn hs hr =>
      simp only [pur] at hp
      obtain ⟨ha, rfl⟩ := ite_some hp
      exact .fn hs fun i hi => ih _ _ _ (isSome_getD (all_range ha hi)) (hr i hi)
    | agg hs ho hr =>
      simp only [pur] at hp
      obtain ⟨ha, rfl⟩ := ite_some hp
      exact .agg hs ho fun i hi => ih _ _ _ (isSome_getD (all_range ha hi)) (hr i hi)
    | tup hs hr =>
      simp only [pur] at hp
      obtain ⟨ha, rfl⟩ := ite_some hp
      exact .tup hs fun i hi => ih _ _ _ (isSome_getD (all_range ha hi)) (hr i hi)
    | sl0 => simp [pur] at hp; subst hp; exact .sl0
    | sl hb hX hc hl ho hr => simp [pur] at hp; subst hp; exact .sl hb hX hc hl ho hr
    | ref hb hX hc ho hr => simp [pur] at hp; subst hp; exact .ref hb hX hc ho hr
    | own he =>
      rename_i k off b
      simp only [pur] at hp
      have hok := h.ok k _ he
      generalize H.getD k .dead = so at hp hok
      cases so <;> simp only [reduceCtorEq] at hp
      rename_i n g
      obtain ⟨ha, rfl⟩ := ite_some hp
      obtain ⟨vs, T, fr, h1, h2, h3, h4⟩ := hok
      exact .ref h1 h2 (by omega) (fun j hj => (h4 (off + j) (by omega)).1) fun j hj => (h4 (off + j) (by omega)).2
    | osl he hv =>
      rename_i k ver
      simp only [pur] at hp
      have hok := h.ok k _ he
      generalize H.getD k .dead = so at hp hok
      cases so <;> simp only [reduceCtorEq] at hp
      rename_i ver' len n g
      obtain ⟨ha, rfl⟩ := ite_some hp
      exact hok.2
    | oslOld he hlt hv =>
      rename_i k ver ver' v'
      simp only [pur] at hp
      have hok := h.ok k _ he
      generalize H.getD k .dead = so at hp hok
      cases so <;> simp only [reduceCtorEq] at hp
      rename_i ver'' len n g
      obtain ⟨ha, rfl⟩ := ite_some hp
      have := hok.1
      omega
    | ownAt => simp [pur] at hp
    | ownAtOld => simp [pur] at hp
    | win he hl ha h0 =>
      rename_i k ver n lo len a a0 len0 cap0
      simp only [pur] at hp
      have hok := h.ok k _ he
      generalize H.getD k .dead = so at hp hok
      cases so <;> simp only [reduceCtorEq] at hp
      rename_i ver' len' n' g
      obtain ⟨⟨rfl, rfl⟩, rfl⟩ := ite_some hp
      by_cases hz : len = 0
      · subst hz; exact .sl0
      · have hr2 := hok.2
        cases hr2 with
        | sl0 => omega
        | sl hb hX hc hlc ho hr =>
          rename_i b o c T fr
          rw [ha hz]
          have hle := Nat.mul_le_mul_right n hl
          rw [Nat.add_mul] at hle
          have hadd : (some (⟨b, o, none⟩ : Addr)).map (·.add (lo * n)) = some ⟨b, o + lo * n, none⟩ := by rw [Option.map_some]; exact congrArg some (Addr.add_lit b o _)
          rw [hadd]
          have e1 : ∀ i j, o + lo * n + i * n + j = o + (lo + i) * n + j := fun i j => by rw [Nat.add_mul]; omega
          refine .sl hb hX (by omega) (by omega) (fun i j hi hj => ?_) fun i j hi hj => ?_
          · rw [e1]; exact ho _ _ (by omega) hj
          · rw [e1]; exact hr _ _ (by omega) hj
    | nilsl => simp [pur] at hp; subst hp; exact .nilsl
    | slN hr =>
      simp [pur] at hp
      subst hp
      refine .slN ?_
      cases hr with
      | sl0 => exact .sl0
      | sl hb hX hc hl ho hr => exact .sl hb hX hc hl ho hr
    | winOld he hlt hv =>
      rename_i k ver ver' v' n lo len
      simp only [pur] at hp
      have hok := h.ok k _ he
      generalize H.getD k .dead = so at hp hok
      cases so <;> simp only [reduceCtorEq] at hp
      rename_i ver'' len' n' g
      obtain ⟨⟨rfl, rfl⟩, rfl⟩ := ite_some hp
      have := hok.1
      omega
theorem holds_srow (e : EI) (ver len n : Nat) (g : Nat → Nat → SV) : holds e (.srow ver len n g) = none := by
  unfold holds; split <;> simp_all
theorem holds_row (v : Value) (a b l n a' b' l' n' : Nat) (g g' : Nat → Nat → SV) (T T' : TypeId) : holds (.slc a v) (.row b l n g T) = holds (.slc a' v) (.row b' l' n' g' T') := by
  cases v <;> try rfl
  rename_i x y z
  cases x <;> cases z <;> rfl
/-- An object given away for reading. -/
def frz (H : List SO) (k : Nat) : Option (List SO) :=
  match H.getD k .dead with
  | .cells n g _ => if (List.range n).all (fun i => (pur H 6 (g i)).isSome) then some (H.set k (.scells n (fun i => (pur H 6 (g i)).getD .any))) else none
  | .row ver len n g _ => some (H.set k (.srow ver len n g))
  | .scells .. => some H
  | .srow .. => some H
  | .dead => none
theorem OwnsR.toSl {w : World} {X : Nat → Prop} {E : Env} {T n v len xs g} (h : OwnsR w T n v len xs)
    (hX : ∀ b, holds (.slc 0 v) (.row 0 len n g T) = some b → ¬ X b)
    (hr : ∀ i j, i < len → j < n → oneCell (xs.getD (i * n + j) undef) ∧ R w X E0 (g i j) (xs.getD (i * n + j) undef)) : R w X E (.sl len n g) v := by
  rcases h with ⟨a, rfl, rfl, rfl⟩ | ⟨b, cap, cur, rfl, h1, h2, h3, h4, h5, h6⟩
  · exact .sl0
  · have hle : len * n ≤ (cap + 1) * n := Nat.mul_le_mul_right _ h2
    have key : ∀ i j, i < len → j < n → cur.getD (0 + i * n + j) undef = xs.getD (i * n + j) undef := by
      intro i j hi hj
      have hlt : i * n + j < len * n := by
        have : (i + 1) * n ≤ len * n := Nat.mul_le_mul_right _ hi
        rw [Nat.add_mul] at this
        omega
      subst h5
      rw [Nat.zero_add, Array.getD_eq_getD_getElem?, List.getD_eq_getElem?_getD, List.getElem?_take, if_pos hlt, Array.getElem?_toList]
    refine .sl h1 (hX b rfl) (by omega) h2 (fun i j hi hj => ?_) fun i j hi hj => ?_
    · rw [key i j hi hj]; exact (hr i j hi hj).1
    · rw [key i j hi hj]; exact (hr i j hi hj).2
theorem Rep.frz {w0 X0 H E w} (h : Rep w0 X0 H E w) {k : Nat} {H' : List SO} (hf : frz H k = some H') {e : EI} (hk : E k = some e) :
    Rep w0 X0 H' E w ∧ Within (Xo X0 E H) (Xo X0 E H') w := by
  have hok := h.ok k e hk
  unfold Sx.frz at hf
  have go : ∀ so', holds e so' = none → H' = H.set k so' →
      (Keeps (Xo X0 E H) w w → Within (Xo X0 E H) (Xo X0 E (H.set k so')) w → (∀ b, holds e (H.getD k .dead) = some b → ¬ Xo X0 E (H.set k so') b) → EIok w (Xo X0 E (H.set k so')) E e so') →
      Rep w0 X0 H' E w ∧ Within (Xo X0 E H) (Xo X0 E H') w := by
    intro so' hn he hgo
    subst he
    have hu := h.upd (w' := w) (e' := e) (so' := so') hk (by rw [Env.put_self hk]; exact Env.le_refl _) (fun _ _ _ => rfl) rfl rfl rfl (Nat.le_refl _)
      (fun b hb => by rw [hn] at hb; cases hb) (fun a b c => by rw [Env.put_self hk] at *; exact hgo a b fun b' hb' => c b' hb' (by rw [hn]; simp))
    rw [Env.put_self hk] at hu
    exact ⟨hu.1, hu.2.2⟩
  generalize hs : H.getD k .dead = so at hf hok
  cases so with
  | dead => simp at hf
  | scells n g => simp at hf; subst hf; exact ⟨h, Within.refl _ _⟩
  | srow => simp at hf; subst hf; exact ⟨h, Within.refl _ _⟩
  | cells n g T =>
    simp only at hf
    obtain ⟨ha, rfl⟩ := ite_some hf
    cases e with
    | slc => exact hok.elim
    | blk b =>
      obtain ⟨vs, h1, h2, h3⟩ := hok
      refine go _ rfl rfl fun hke hwi hfree => ⟨vs, T, _, h1, hfree b (by rw [hs]; rfl), h2, fun i hi => ⟨(h3 i hi).1, ?_⟩⟩
      exact (pur_sound h 6 _ _ _ (isSome_getD (all_range ha hi)) (h3 i hi).2).mono hke hwi (Env.le_refl _)
  | row ver len n g T =>
    simp only at hf
    cases hf
    cases e with
    | blk => exact hok.elim
    | slc ver' v =>
      obtain ⟨h1, xs, h2, h3⟩ := hok
      refine go _ (holds_srow _ _ _ _ _) rfl fun hke hwi hfree => ⟨h1, h2.toSl (T := T) (fun b hb => hfree b ?_) fun i j hi hj => ⟨(h3 i j hi hj).1, (h3 i j hi hj).2.mono hke hwi (Env.le_refl _)⟩⟩
      rw [hs, holds_row v ver' ver len n 0 0 len n g g T T]
      exact hb
end Go.Proofs.YtbmgclpgompjmaaDoor.Sx
