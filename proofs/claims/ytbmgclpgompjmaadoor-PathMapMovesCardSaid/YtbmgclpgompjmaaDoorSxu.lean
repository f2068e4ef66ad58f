/- What is asked of a function's code, and that it is enough. -/
import Derived.Test.YtbmgclpgompjmaaDoorSxt
import Derived.Deep.LoopGhost
import Derived.LoopN
namespace Go.Proofs.YtbmgclpgompjmaaDoor.Sx
open Go.RowKit
/-- What is done to the description alone, ahead of a region: a temporary's value, an own variable's content made pure (what it names is given away); a slice without room taken as an own one; the beginning of an own slice taken as the slice. -/
inductive PrepA : Type
  | tmp (t : Nat)
  | cells (k : Nat)
  | own (t : Nat) (T : TypeId) (n : Nat)
  | ownC (k off : Nat) (T : TypeId) (n : Nat)
  | shrink (t : Nat)
  | nilc (t : Nat)
def emptyRow (n : Nat) (T : TypeId) : SO := .row 0 0 n (fun _ _ => .any) T
def doPrep (N : Nat) (s : St) : PrepA → Option St
  | .tmp t => match frzAll s.H (needs s.H 6 (lookT s.τ t)) with
    | some l => match pur (applyS s.H l) 6 (lookT s.τ t) with
      | some v => some ⟨(t, v) :: s.τ, applyS s.H l⟩
      | none => none
    | none => none
  | .cells k => match s.H.getD k .dead with
    | .cells n g _ => match frzAll s.H ((List.range n).flatMap fun i => needs s.H 6 (g i)) with
      | some l => match (applyS s.H l).getD k .dead with
        | .cells n g T => if (List.range n).all (fun i => (pur (applyS s.H l) 6 (g i)).isSome) = true then
            some ⟨s.τ, (applyS s.H l).set k (.cells n (fun i => (pur (applyS s.H l) 6 (g i)).getD .any) T)⟩ else none
        | _ => none
      | none => none
    | _ => none
  | .own t T n => match lookT s.τ t with
    | .cap0 => some ⟨(t, .osl s.H.length 0) :: s.τ, s.H ++ [emptyRow n T]⟩
    | _ => none
  | .ownC k off T n => match s.H.getD k .dead with
    | .cells m g T' => match g off with
      | .cap0 => if off < m then some ⟨s.τ, (s.H ++ [emptyRow n T]).set k (.cells m (updF g off 1 (fun _ => .osl s.H.length 0)) T')⟩ else none
      | _ => none
    | _ => none
  | .shrink t => match Nat.blt t N with
    | true => match lookT s.τ t with
      | .win k ver n lo len => match lo with
        | 0 => match s.H.getD k .dead with
          | .row ver' _ m g T => if ver = ver' ∧ n = m then some ⟨(t, .osl k (ver + 1)) :: s.τ, s.H.set k (.row (ver + 1) len m g T)⟩ else none
          | _ => none
        | _ => none
      | _ => none
    | false => none
  | .nilc _ => none
/-- The slice in a temporary: nil, or not. -/
def nilAlt (N : Nat) (s : St) (t : Nat) : Option (Nat × St × St) := match Nat.blt t N with
  | true => match lookT s.τ t with
    | .sl len n g => some (len, ⟨(t, .nilsl) :: s.τ, s.H⟩, ⟨(t, .slN len n g) :: s.τ, s.H⟩)
    | _ => none
  | false => none
def doPreps (N : Nat) (s : St) : List PrepA → Option St
  | [] => some s
  | p :: r => match doPrep N s p with
    | some s' => doPreps N s' r
    | none => none
theorem Rep.known {w0 X0 H E w} (h : Rep w0 X0 H E w) : E H.length = none := by
  cases hc : E H.length with
  | none => rfl
  | some e => have := h.dom _ _ hc; omega
/-- A slice without room, as an own one. -/
theorem Rep.empty {w0 X0 H E w} (h : Rep w0 X0 H E w) (n : Nat) (T : TypeId) (a : Option Addr) :
    Rep w0 X0 (H ++ [emptyRow n T]) (E.put H.length (.slc 0 (.slice a 0 0))) w ∧ Within (Xo X0 E H) (Xo X0 (E.put H.length (.slc 0 (.slice a 0 0))) (H ++ [emptyRow n T])) w ∧ E.le (E.put H.length (.slc 0 (.slice a 0 0))) := by
  have hget : ∀ k, k < H.length → (H ++ [emptyRow n T]).getD k .dead = H.getD k .dead := fun k hk => getD_append_left hk
  have hnew : (H ++ [emptyRow n T]).getD H.length .dead = emptyRow n T := by
    rw [List.getD_eq_getElem?_getD, List.getElem?_append_right (Nat.le_refl _)]; simp
  have hxo : Xo X0 E (H ++ [emptyRow n T]) = Xo X0 E H := Xo_ext fun k e hke => hget k (h.dom k e hke)
  have hh : holds (.slc 0 (.slice a 0 0)) (emptyRow n T) = none := by cases a <;> rfl
  obtain ⟨g1, g2⟩ := (h.ext (by simp) hget).new (k := H.length) (e := .slc 0 (.slice a 0 0)) h.known (by simp) (Below.refl _ _) (fun b hb => by rw [hnew, hh] at hb; cases hb)
    (by rw [hnew]; exact ⟨rfl, [], .inl ⟨_, rfl, rfl, rfl⟩, fun i j hi => absurd hi (Nat.not_lt_zero _)⟩)
  rw [hxo] at g2
  exact ⟨g1, g2, Env.le_put h.known⟩
/-- A store of the description alone: an own variable's content said otherwise. -/
theorem Rep.recell {w0 X0 H E w} (h : Rep w0 X0 H E w) {k n : Nat} {g g' : Nat → SV} {T : TypeId} (hk : H.getD k .dead = .cells n g T)
    (hr : ∀ i v, i < n → R w (Xo X0 E H) E (g i) v → R w (Xo X0 E H) E (g' i) v) : Rep w0 X0 (H.set k (.cells n g' T)) E w ∧ Within (Xo X0 E H) (Xo X0 E (H.set k (.cells n g' T))) w := by
  cases he : E k with
  | none =>
    have hh : ∀ j e, E j = some e → (H.set k (.cells n g' T)).getD j .dead = H.getD j .dead := fun j e hj => getD_set_ne' (fun hc => by subst hc; rw [he] at hj; cases hj)
    refine ⟨h.ext' (by simp) hh, ?_⟩
    rw [Xo_ext hh]
    exact Within.refl _ _
  | some e =>
    have hok := h.ok k e he
    rw [hk] at hok
    cases e with
    | slc => exact hok.elim
    | blk b =>
      obtain ⟨vs, h1, h2, h3⟩ := hok
      have hput : E.put k (.blk b) = E := Env.put_self he
      have hu := h.upd (w' := w) (e' := .blk b) (so' := .cells n g' T) he (by rw [hput]; exact Env.le_refl _) (fun _ _ _ => rfl) rfl rfl rfl (Nat.le_refl _) (fun b' hb' => .inl (by rw [hk]; exact hb'))
        (fun hke hwi _ => by rw [hput] at *; exact ⟨vs, h1, h2, fun i hi => ⟨(h3 i hi).1, (hr i _ hi (h3 i hi).2).mono hke hwi (Env.le_refl _)⟩⟩)
      rw [hput] at hu
      exact ⟨hu.1, hu.2.2⟩
theorem cap0_inv {w X E v} (h : R w X E .cap0 v) : ∃ a, v = .slice a 0 0 := by cases h; exact ⟨_, rfl⟩
theorem doPrep_sound {w0 X0 N} {s s' : St} {p : PrepA} (hp : doPrep N s p = some s') {a : Act} {w : World} (h : StR w0 X0 N s a w) : StR w0 X0 N s' a w := by
  obtain ⟨E, hrep, htr⟩ := h
  have tput : ∀ {X : Nat → Prop} {E' : Env} {τ : Tmps} {t : Nat} {v : SV}, TR w X E' N τ a → (t < N → R w X E' v (a.tmps.getD t undef)) → TR w X E' N ((t, v) :: τ) a := by
    intro X E' τ t v ht hv
    refine ⟨ht.1, ht.2.1, fun u hu => ?_⟩
    simp only [lookT]
    split
    · rename_i hc; subst hc; exact hv hu
    · exact ht.2.2 u hu
  cases p with
  | tmp t =>
    simp only [doPrep] at hp
    split at hp
    case h_2 => cases hp
    rename_i l hl
    split at hp
    case h_2 => cases hp
    rename_i v hv
    cases hp
    obtain ⟨g1, g2⟩ := frzAll_sound _ _ _ hrep hl
    have htr' := htr.mono (w' := w) (fun _ _ _ => rfl) g2 (Env.le_refl _)
    exact ⟨E, g1, tput htr' fun ht => up (pur_sound g1 6 _ _ _ hv (htr'.2.2 t ht))⟩
  | cells k =>
    simp only [doPrep] at hp
    split at hp
    case h_2 => cases hp
    split at hp
    case h_2 => cases hp
    rename_i l hl
    split at hp
    case h_2 => cases hp
    rename_i n g T hk
    obtain ⟨hall, rfl⟩ := ite_some hp
    obtain ⟨g1, g2⟩ := frzAll_sound _ _ _ hrep hl
    obtain ⟨g3, g4⟩ := g1.recell hk (g' := fun i => (pur (applyS s.H l) 6 (g i)).getD .any) fun i v hi hr => up (pur_sound g1 6 _ _ _ (isSome_getD (all_range hall hi)) hr)
    exact ⟨E, g3, htr.mono (w' := w) (fun _ _ _ => rfl) (g2.trans g4) (Env.le_refl _)⟩
  | own t T n =>
    simp only [doPrep] at hp
    split at hp
    case h_2 => cases hp
    rename_i hl
    cases hp
    by_cases ht : t < N
    · obtain ⟨ad, hv⟩ := cap0_inv (hl ▸ htr.2.2 t ht)
      obtain ⟨g1, g2, g3⟩ := hrep.empty n T ad
      exact ⟨_, g1, tput (htr.mono (w' := w) (fun _ _ _ => rfl) g2 g3) fun _ => by rw [hv]; exact .osl (Env.put_same _ _ _) ⟨_, _, _, rfl⟩⟩
    · obtain ⟨g1, g2, g3⟩ := hrep.empty n T none
      exact ⟨_, g1, tput (htr.mono (w' := w) (fun _ _ _ => rfl) g2 g3) fun hc => absurd hc ht⟩
  | ownC k off T n =>
    simp only [doPrep] at hp
    split at hp
    case h_2 => cases hp
    rename_i m g T' hk
    split at hp
    case h_2 => cases hp
    rename_i hg
    obtain ⟨hlt, rfl⟩ := ite_some hp
    cases he : E k with
    | none =>
      obtain ⟨g1, g2, g3⟩ := hrep.empty n T none
      have hkl : k ≠ s.H.length := by
        intro hc
        rw [hc, List.getD_eq_getElem?_getD, List.getElem?_eq_none (Nat.le_refl _)] at hk
        cases hk
      have he' : (E.put s.H.length (.slc 0 (.slice none 0 0))) k = none := by rw [Env.put_ne hkl]; exact he
      have hh : ∀ j e, (E.put s.H.length (.slc 0 (.slice none 0 0))) j = some e → ((s.H ++ [emptyRow n T]).set k (.cells m (updF g off 1 (fun _ => .osl s.H.length 0)) T')).getD j .dead = (s.H ++ [emptyRow n T]).getD j .dead :=
        fun j e hj => getD_set_ne' (fun hc => by subst hc; rw [he'] at hj; cases hj)
      refine ⟨_, g1.ext' (by simp) hh, ?_⟩
      rw [Xo_ext hh]
      exact htr.mono (w' := w) (fun _ _ _ => rfl) g2 g3
    | some e =>
      have hok := hrep.ok k e he
      rw [hk] at hok
      cases e with
      | slc => exact hok.elim
      | blk b =>
        obtain ⟨vs, h1, h2, h3⟩ := hok
        obtain ⟨ad, hv⟩ := cap0_inv (hg ▸ (h3 off hlt).2)
        obtain ⟨g1, g2, g3⟩ := hrep.empty n T ad
        have hkl : k < s.H.length := hrep.dom k _ he
        have hk' : (s.H ++ [emptyRow n T]).getD k .dead = .cells m g T' := by rw [getD_append_left hkl]; exact hk
        -- the one cell that turns
        have hput : (E.put s.H.length (.slc 0 (.slice ad 0 0))) k = some (.blk b) := by rw [Env.put_ne (by omega)]; exact he
        have hself : (E.put s.H.length (.slc 0 (.slice ad 0 0))).put k (.blk b) = E.put s.H.length (.slc 0 (.slice ad 0 0)) := Env.put_self hput
        have hu := g1.upd (w' := w) (e' := .blk b) (so' := .cells m (updF g off 1 (fun _ => .osl s.H.length 0)) T') hput (by rw [hself]; exact Env.le_refl _) (fun _ _ _ => rfl) rfl rfl rfl (Nat.le_refl _) (fun b' hb' => .inl (by rw [hk']; exact hb'))
          (fun hke hwi _ => by
            rw [hself] at *
            refine ⟨vs, h1, h2, fun i hi => ⟨(h3 i hi).1, ?_⟩⟩
            by_cases hio : off ≤ i ∧ i < off + 1
            · rw [updF_in hio]
              obtain rfl : i = off := by omega
              rw [hv]
              exact .osl (Env.put_same _ _ _) ⟨_, _, _, rfl⟩
            · rw [updF_out hio]
              exact ((h3 i hi).2.mono (w' := w) (fun _ _ _ => rfl) g2 g3).mono hke hwi (Env.le_refl _))
        rw [hself] at hu
        exact ⟨_, hu.1, (htr.mono (w' := w) (fun _ _ _ => rfl) g2 g3).mono (w' := w) (fun _ _ _ => rfl) hu.2.2 (Env.le_refl _)⟩
  | shrink t =>
    simp only [doPrep] at hp
    split at hp
    case h_2 => cases hp
    rename_i hb
    have ht : t < N := Nat.le_of_ble_eq_true hb
    split at hp
    case h_2 => cases hp
    rename_i k ver n lo len hl
    split at hp
    case h_2 => cases hp
    split at hp
    case h_2 => cases hp
    rename_i ver' len0 m g T hk
    obtain ⟨⟨rfl, rfl⟩, rfl⟩ := ite_some hp
    have hR : R w (Xo X0 E s.H) E (.win k ver n 0 len) (a.tmps.getD t undef) := hl ▸ htr.2.2 t ht
    generalize hvv : a.tmps.getD t undef = v at hR
    cases hR with
    | winOld he hlt hv =>
      have hok := hrep.ok k _ he
      rw [hk] at hok
      have := hok.1
      omega
    | win he hle ha h0 =>
      rename_i a1 a0 len1 cap0
      have hok := hrep.ok k _ he
      rw [hk] at hok
      obtain ⟨_, xs, hown, hcont⟩ := hok
      have hw : OwnsR w T n (.slice a0 len cap0) len (xs.take (len * n)) ∧ len ≤ len0 := by
        rcases hown with ⟨a', hv', rfl, rfl⟩ | ⟨b, cap, cur, hv', c1, c2, c3, c4, c5, c6⟩
        · cases hv'
          obtain rfl : len = 0 := by omega
          exact ⟨.inl ⟨_, rfl, rfl, by simp⟩, Nat.le_refl _⟩
        · cases hv'
          have hm := Nat.mul_le_mul_right n (show len ≤ len0 by omega)
          refine ⟨.inr ⟨b, cap, cur, rfl, c1, by omega, c3, c4, by rw [← c5, List.take_take, Nat.min_eq_left hm], by rw [List.length_take, c6]; exact Nat.min_eq_left hm⟩, by omega⟩
      have hle2 : E.le (E.put k (.slc (ver + 1) (.slice a0 len cap0))) := by
        refine ⟨fun j b hj => ?_, fun j ver' v'' hj => ?_⟩
        · by_cases hjk : j = k
          · subst hjk; rw [he] at hj; cases hj
          · rw [Env.put_ne hjk]; exact hj
        · by_cases hjk : j = k
          · subst hjk
            rw [he] at hj
            cases hj
            exact ⟨_, _, Env.put_same _ _ _, Nat.le_succ _, fun hc => by omega⟩
          · exact ⟨_, _, by rw [Env.put_ne hjk]; exact hj, Nat.le_refl _, fun _ => rfl⟩
      have hholds : ∀ b, holds (.slc (ver + 1) (.slice a0 len cap0)) (.row (ver + 1) len n g T) = some b → holds (.slc ver (.slice a0 len1 cap0)) (s.H.getD k .dead) = some b := by
        intro b hb
        rw [hk]
        cases a0 <;> cases cap0 <;> exact hb
      have hu := hrep.upd (w' := w) (e' := .slc (ver + 1) (.slice a0 len cap0)) (so' := .row (ver + 1) len n g T) he hle2 (fun _ _ _ => rfl) rfl rfl rfl (Nat.le_refl _) (fun b hb' => .inl (hholds b hb'))
        (fun hke hwi _ => ⟨rfl, _, hw.1, fun i j hi hj => by
          rw [show (xs.take (len * n)).getD (i * n + j) undef = xs.getD (i * n + j) undef by
            rw [List.getD_eq_getElem?_getD, List.getElem?_take, if_pos (mul_lt_of hi hj), List.getD_eq_getElem?_getD]]
          exact ⟨(hcont i j (by omega) hj).1, (hcont i j (by omega) hj).2.mono hke hwi (Env.le_refl _)⟩⟩)
      refine ⟨_, hu.1, tput (htr.mono (w' := w) (fun _ _ _ => rfl) hu.2.2 hle2) fun _ => ?_⟩
      have hv0 : a1 = a0 := h0 rfl
      subst hv0
      rw [hvv]
      exact .osl (Env.put_same _ _ _) ⟨_, _, _, rfl⟩
  | nilc t => cases hp
theorem nilAlt_sound {w0 X0 N} {s s1 s2 : St} {t len : Nat} (hp : nilAlt N s t = some (len, s1, s2)) {a : Act} {w : World} (h : StR w0 X0 N s a w) : (len = 0 ∧ StR w0 X0 N s1 a w) ∨ StR w0 X0 N s2 a w := by
  obtain ⟨E, hrep, htr⟩ := h
  simp only [nilAlt] at hp
  split at hp
  case h_2 => cases hp
  rename_i hb
  have ht : t < N := Nat.le_of_ble_eq_true hb
  split at hp
  case h_2 => cases hp
  rename_i len' n g hl
  cases hp
  have hR := htr.2.2 t ht
  rw [hl] at hR
  have put : ∀ {sv : SV}, R w (Xo X0 E s.H) E sv (a.tmps.getD t undef) → TR w (Xo X0 E s.H) E N ((t, sv) :: s.τ) a := by
    intro sv hv
    refine ⟨htr.1, htr.2.1, fun u hu => ?_⟩
    simp only [lookT]
    split
    · rename_i hc; subst hc; exact hv
    · exact htr.2.2 u hu
  generalize hvv : a.tmps.getD t undef = v at hR
  rw [hvv] at put
  obtain ⟨ad, cap, rfl⟩ := R_sl_shape hR
  cases ad with
  | some ad => exact .inr ⟨E, hrep, put (.slN hR)⟩
  | none =>
    cases hR
    exact .inl ⟨rfl, E, hrep, put .nilsl⟩
theorem doPreps_sound {w0 X0 N} {a : Act} {w : World} : ∀ {l : List PrepA} {s s' : St}, doPreps N s l = some s' → StR w0 X0 N s a w → StR w0 X0 N s' a w
  | [], s, s', h, hs => by simp only [doPreps, Option.some.injEq] at h; subst h; exact hs
  | p :: r, s, s', h, hs => by
    simp only [doPreps] at h
    split at h
    · exact doPreps_sound h (doPrep_sound (by assumption) hs)
    · cases h
end Go.Proofs.YtbmgclpgompjmaaDoor.Sx
