import Derived.Test.YthappngbapbkfaaDoorSxx
/- The objects that a call hands to a function, as the function sees them, and back. -/
namespace Go.Proofs.YthappngbapbkfaaDoor.Sx
open Go.RowKit
/-- Where an object's name stands: an argument; a part of an argument; a cell of an object named before. -/
inductive NP : Type
  | arg (i : Nat)
  | part (i j : Nat)
  | cell (o j : Nat)
  | hole (o : Nat)
def nameOf : SV → Option Nat
  | .own k _ => some k
  | .osl k _ => some k
  | .ownAt k _ _ _ _ => some k
  | .omap k => some k
  | _ => none
def subS (j : Nat) : SV → Option SV
  | .fn _ n g => if j < n then some (g j) else none
  | .agg n g => if j < n then some (g j) else none
  | .slP n g => if j < n then some (g j) else none
  | _ => none
def nameAt (H : List SO) (args : List SV) (ks : List Nat) : NP → Option Nat
  | .arg i => if i < args.length then nameOf (args.getD i .any) else none
  | .part i j => if i < args.length then match subS j (args.getD i .any) with
    | some s => nameOf s
    | none => none
    else none
  | .cell o j => match ks[o]? with
    | some k => match H.getD k .dead with
      | .cells n g _ => if j < n then nameOf (g j) else none
      | _ => none
    | none => none
  | .hole o => match ks[o]? with
    | some k => match H.getD k .dead with
      | .deep _ _ _ _ _ _ _ _ _ ho => match ho with
        | some q => nameOf q.2
        | none => none
      | _ => none
    | none => none
/-- The elements that are out lie within their slices. -/
def holeP (H : List SO) (ks : List Nat) : NP → Prop
  | .hole o => match ks[o]? with
    | some k => match H.getD k .dead with
      | .deep _ len _ _ _ _ _ _ _ ho => match ho with
        | some q => Ask (q.1 < len)
        | none => True
      | _ => True
    | none => True
  | _ => True
def holesP (H : List SO) (ks : List Nat) : List NP → Prop
  | [] => True
  | p :: r => holeP H ks p ∧ holesP H ks r
def hasHole : List NP → Bool
  | [] => false
  | .hole _ :: _ => true
  | _ :: r => hasHole r
def holeO (os : List SO) : NP → Prop
  | .hole o => match os[o]? with
    | some so => match so with
      | .deep _ len _ _ _ _ _ _ _ ho => match ho with
        | some q => Ask (q.1 < len)
        | none => True
      | _ => True
    | none => True
  | _ => True
def holesO (os : List SO) : List NP → Prop
  | [] => True
  | p :: r => holeO os p ∧ holesO os r
def withHoles (os : List SO) (ps : List NP) (a : Prop) : Prop := match hasHole ps with
  | true => a ∧ holesO os ps
  | false => a
theorem holesO_none {os : List SO} : ∀ {ps : List NP}, hasHole ps = false → holesO os ps
  | [], _ => trivial
  | .arg _ :: r, h => ⟨trivial, holesO_none (ps := r) h⟩
  | .part _ _ :: r, h => ⟨trivial, holesO_none (ps := r) h⟩
  | .cell _ _ :: r, h => ⟨trivial, holesO_none (ps := r) h⟩
  | .hole _ :: r, h => by cases h
theorem withHoles_get {os : List SO} {ps : List NP} {a : Prop} (h : withHoles os ps a) : a ∧ holesO os ps := by
  unfold withHoles at h
  split at h
  · exact h
  · rename_i hn; exact ⟨h, holesO_none hn⟩
theorem holeP_of {H : List SO} {ks : List Nat} {p : NP} (h : holeO (ks.map fun k => H.getD k .dead) p) : holeP H ks p := by
  cases p with
  | hole o =>
    simp only [holeO, List.getElem?_map] at h
    simp only [holeP]
    cases hk : ks[o]? with
    | none => trivial
    | some k =>
      rw [hk] at h
      simp only [Option.map_some] at h
      cases hso : H.getD k .dead with
      | deep ver len n c m p g T T' ho =>
        rw [hso] at h
        simp only [hso]
        cases ho with
        | none => trivial
        | some q => exact h
      | _ => simp only [hso]
  | _ => trivial
theorem holesP_of {H : List SO} {ks : List Nat} : ∀ {ps : List NP}, holesO (ks.map fun k => H.getD k .dead) ps → holesP H ks ps
  | [], _ => trivial
  | p :: r, h => ⟨holeP_of h.1, holesP_of h.2⟩
def namesOf (H : List SO) (args : List SV) : List NP → List Nat → Option (List Nat)
  | [], ks => some ks
  | p :: r, ks => match nameAt H args ks p with
    | some k => namesOf H args r (ks ++ [k])
    | none => none
def posOf : List Nat → Nat → Option Nat
  | [], _ => none
  | a :: r, k => match Nat.beq a k with
    | true => some 0
    | false => match posOf r k with
      | some i => some (i + 1)
      | none => none
def nodupB : List Nat → Bool
  | [] => true
  | a :: r => (posOf r a).isNone && nodupB r
theorem posOf_get : ∀ {ks : List Nat} {k i : Nat}, posOf ks k = some i → ks[i]? = some k
  | [], k, i, h => by cases h
  | a :: r, k, i, h => by
    simp only [posOf] at h
    split at h
    · rename_i hb
      cases h
      rw [Nat.eq_of_beq_eq_true hb]; rfl
    · split at h
      · rename_i j hj
        cases h
        rw [List.getElem?_cons_succ]
        exact posOf_get hj
      · cases h
theorem posOf_none : ∀ {ks : List Nat} {k : Nat}, posOf ks k = none → k ∉ ks
  | [], k, _ => List.not_mem_nil
  | a :: r, k, h => by
    simp only [posOf] at h
    split at h
    · cases h
    · rename_i hb
      split at h
      · cases h
      · rename_i hr
        intro hm
        rcases List.mem_cons.1 hm with rfl | hm
        · rw [Nat.beq_refl] at hb; cases hb
        · exact posOf_none hr hm
theorem posOf_some {ks : List Nat} {k : Nat} (h : k ∈ ks) : ∃ i, posOf ks k = some i := by
  cases hp : posOf ks k with
  | none => exact absurd h (posOf_none hp)
  | some i => exact ⟨i, rfl⟩
theorem posOf_mem {ks : List Nat} {k i : Nat} (h : posOf ks k = some i) : k ∈ ks := List.mem_of_getElem? (posOf_get h)
theorem posOf_lt {ks : List Nat} {k i : Nat} (h : posOf ks k = some i) : i < ks.length := (List.getElem?_eq_some_iff.1 (posOf_get h)).1
theorem posOf_of : ∀ {ks : List Nat} {k i : Nat}, nodupB ks = true → ks[i]? = some k → posOf ks k = some i
  | [], k, i, _, h => by cases h
  | a :: r, k, 0, _, h => by
    simp only [List.getElem?_cons_zero, Option.some.injEq] at h
    subst h
    simp only [posOf, Nat.beq_refl]
  | a :: r, k, i + 1, hn, h => by
    simp only [nodupB, Bool.and_eq_true] at hn
    have h' : r[i]? = some k := h
    have hne : Nat.beq a k = false := by
      cases hb : Nat.beq a k with
      | false => rfl
      | true =>
        have := Nat.eq_of_beq_eq_true hb
        subst this
        obtain ⟨j, hj⟩ := posOf_some (List.mem_of_getElem? h')
        rw [hj] at hn
        simp at hn
    simp only [posOf, hne, posOf_of hn.2 h']
theorem posOf_inj {ks : List Nat} {k k' i : Nat} (h : posOf ks k = some i) (h' : posOf ks k' = some i) : k = k' := by
  have h1 := posOf_get h
  rw [posOf_get h'] at h1
  exact (Option.some.inj h1).symm
def verO : SO → Nat
  | .row v .. => v
  | .srow v .. => v
  | .deep v .. => v
  | _ => 0
def aliveB : SO → Bool
  | .dead => false
  | _ => true
/-- A value as the function sees it: the names are numbered anew, the versions begin at 0. -/
def sml (os : List SO) (ks : List Nat) : SV → SV
  | .own k off => match posOf ks k with
    | some i => .own i off
    | none => .any
  | .osl k ver => match posOf ks k with
    | some i => match Nat.beq ver (verO (os.getD i .dead)) with
      | true => .osl i 0
      | false => .any
    | none => .any
  | .ownAt k ver a n off => match posOf ks k with
    | some i => match Nat.beq ver (verO (os.getD i .dead)) with
      | true => .ownAt i 0 a n off
      | false => .any
    | none => .any
  | .omap k => match posOf ks k with
    | some i => match Nat.beq (verO (os.getD i .dead)) 0 with
      | true => .omap i
      | false => .any
    | none => .any
  | .win k ver n lo len => match posOf ks k with
    | some i => match Nat.beq ver (verO (os.getD i .dead)) with
      | true => .win i 0 n lo len
      | false => .any
    | none => .any
  | .agg n g => .agg n (fun i => sml os ks (g i))
  | .tup n g => .tup n (fun i => sml os ks (g i))
  | .fn f n g => .fn f n (fun i => sml os ks (g i))
  | .slP n g => .slP n (fun i => sml os ks (g i))
  | .refP g => .refP (fun i => sml os ks (g i))
  | .ifc T g => .ifc T (fun i => sml os ks (g i))
  | s => s
def smlO (os : List SO) (ks : List Nat) : SO → SO
  | .cells n g T => .cells n (fun i => sml os ks (g i)) T
  | .row _ len n g T => .row 0 len n g T
  | .srow _ len n g => .srow 0 len n g
  | .deep _ len n c m p g T T' ho => .deep 0 len n c m p g T T' (hoMap (sml os ks) ho)
  | .mps kd has c m p T' ho => .mps kd has c m p T' (hoIMap (sml os ks) ho)
  | s => s
/-- And back. -/
def big (os : List SO) (ks : List Nat) : SV → SV
  | .own i off => match ks[i]? with
    | some k => .own k off
    | none => .any
  | .osl i ver => match ks[i]? with
    | some k => .osl k (verO (os.getD i .dead) + ver)
    | none => .any
  | .ownAt i ver a n off => match ks[i]? with
    | some k => .ownAt k (verO (os.getD i .dead) + ver) a n off
    | none => .any
  | .omap i => match ks[i]? with
    | some k => .omap k
    | none => .any
  | .win i ver n lo len => match ks[i]? with
    | some k => .win k (verO (os.getD i .dead) + ver) n lo len
    | none => .any
  | .agg n g => .agg n (fun i => big os ks (g i))
  | .tup n g => .tup n (fun i => big os ks (g i))
  | .fn f n g => .fn f n (fun i => big os ks (g i))
  | .slP n g => .slP n (fun i => big os ks (g i))
  | .refP g => .refP (fun i => big os ks (g i))
  | .ifc T g => .ifc T (fun i => big os ks (g i))
  | s => s
def bigO (os : List SO) (ks : List Nat) (v0 : Nat) : SO → SO
  | .cells n g T => .cells n (fun i => big os ks (g i)) T
  | .row ver len n g T => .row (v0 + ver) len n g T
  | .srow ver len n g => .srow (v0 + ver) len n g
  | .deep ver len n c m p g T T' ho => .deep (v0 + ver) len n c m p g T T' (hoMap (big os ks) ho)
  | .mps kd has c m p T' ho => .mps kd has c m p T' (hoIMap (big os ks) ho)
  | s => s
def setsOf (os : List SO) (ks : List Nat) (post : List SO) : List Nat → Nat → List (Nat × SO)
  | [], _ => []
  | k :: r, i => (k, bigO os ks (verO (os.getD i .dead)) (post.getD i .dead)) :: setsOf os ks post r (i + 1)
theorem applyS_sets {os : List SO} {ks : List Nat} {post : List SO} : ∀ (r : List Nat) (i : Nat) (H0 : List SO), nodupB r = true → (∀ k ∈ r, k < H0.length) →
    (applyS H0 (setsOf os ks post r i)).length = H0.length ∧ ∀ k, (applyS H0 (setsOf os ks post r i)).getD k .dead = match posOf r k with
      | some j => bigO os ks (verO (os.getD (i + j) .dead)) (post.getD (i + j) .dead)
      | none => H0.getD k .dead
  | [], i, H0, _, _ => ⟨rfl, fun _ => rfl⟩
  | a :: r, i, H0, hn, hk => by
    simp only [nodupB, Bool.and_eq_true] at hn
    obtain ⟨h1, h2⟩ := applyS_sets (post := post) r (i + 1) (H0.set a (bigO os ks (verO (os.getD i .dead)) (post.getD i .dead))) hn.2 (fun k hm => by rw [List.length_set]; exact hk k (List.mem_cons_of_mem _ hm))
    have e : applyS H0 (setsOf os ks post (a :: r) i) = applyS (H0.set a (bigO os ks (verO (os.getD i .dead)) (post.getD i .dead))) (setsOf os ks post r (i + 1)) := rfl
    rw [e]
    refine ⟨by rw [h1, List.length_set], fun k => ?_⟩
    rw [h2 k]
    simp only [posOf]
    cases hb : Nat.beq a k with
    | true =>
      have := Nat.eq_of_beq_eq_true hb
      subst this
      have hr : posOf r a = none := by simpa using hn.1
      rw [hr]
      simp only [Nat.add_zero]
      exact getD_set_eq (hk a List.mem_cons_self)
    | false =>
      have hne : k ≠ a := fun hc => by subst hc; rw [Nat.beq_refl] at hb; cases hb
      cases hr : posOf r k with
      | some j => simp only; rw [show i + 1 + j = i + (j + 1) by omega]
      | none => simp only; exact getD_set_ne' hne
def smlE (E : Env) (ks : List Nat) : Env := fun i => match ks[i]? with
  | some k => match E k with
    | some (.blk b) => some (.blk b)
    | some (.slc _ v us) => some (.slc 0 v us)
    | none => none
  | none => none
theorem smlE_blk {E : Env} {ks : List Nat} {k i b : Nat} (h : posOf ks k = some i) (he : E k = some (.blk b)) : smlE E ks i = some (.blk b) := by
  simp only [smlE, posOf_get h, he]
theorem smlE_slc {E : Env} {ks : List Nat} {k i ver : Nat} {v : Value} {us : Nat → Option Nat} (h : posOf ks k = some i) (he : E k = some (.slc ver v us)) : smlE E ks i = some (.slc 0 v us) := by
  simp only [smlE, posOf_get h, he]
theorem smlE_inv {E : Env} {ks : List Nat} {i : Nat} {e : EI} (h : smlE E ks i = some e) : ∃ k, ks[i]? = some k ∧ ((∃ b, E k = some (.blk b) ∧ e = .blk b) ∨ ∃ ver v us, E k = some (.slc ver v us) ∧ e = .slc 0 v us) := by
  simp only [smlE] at h
  split at h
  · rename_i k hk
    split at h
    · rename_i b hb; cases h; exact ⟨k, hk, .inl ⟨b, hb, rfl⟩⟩
    · rename_i ver v us hv; cases h; exact ⟨k, hk, .inr ⟨ver, v, us, hv, rfl⟩⟩
    · cases h
  · cases h
/-- The versions that H tells are those that E knows. -/
def VerOK (os : List SO) (E : Env) (ks : List Nat) : Prop := ∀ i k, ks[i]? = some k → ∀ ver v us, E k = some (.slc ver v us) → verO (os.getD i .dead) = ver
theorem R_slN {w : World} {X X' : Nat → Prop} (hx : ∀ b, X' b → X b) {E E' : Env} {len n : Nat} {g : Nat → Nat → SV} {v : Value} (h : R w X E (.slN len n g) v) : R w X' E' (.slN len n g) v := by
  cases h with
  | slN hr =>
    refine .slN ?_
    cases hr with
    | sl0 => exact .sl0
    | sl hb hX hc hl ho hr => exact .sl hb (fun hc => hX (hx _ hc)) hc hl ho fun i j hi hj => (hr i j hi hj).mono (fun _ _ _ => rfl) (fun b _ hb => hx b hb) (Env.le_refl _)
theorem MpsOK.over {w X X' E E' us kd has c m p T' ho es} (d : MpsOK w X E us kd has c m p T' ho es) (hx : ∀ b, X' b → X b) (f : SV → SV) (hf : ∀ s u, R w X E s u → R w X' E' (f s) u) : MpsOK w X' E' us kd has c m p T' (hoIMap f ho) es := by
  have weak : ∀ {s : SV} {v : Value}, R w X E0 s v → R w X' E0 s v := fun h => h.mono (fun _ _ _ => rfl) (fun b _ hb => hx b hb) (Env.le_refl _)
  refine ⟨d.map, fun y e he hke hh => ?_, d.gone, fun hy sv fl hho => ?_, fun y y' b q1 q2 => d.inj y y' b (by rwa [hoI_map_none] at q1) (by rwa [hoI_map_none] at q2)⟩
  · rw [hoI_map_none] at hh
    obtain ⟨q1, ys, q2, q3⟩ := d.inn y e he hke hh
    exact ⟨q1, ys, q2, fun i' j hi' hj => ⟨(q3 i' j hi' hj).1, weak (q3 i' j hi' hj).2⟩⟩
  · cases ho with
    | none => cases hho
    | some q =>
      cases hho
      obtain ⟨g1, g2, g3⟩ := d.out q.1 q.2.1 q.2.2 rfl
      exact ⟨g1, fun e he hke => hf _ _ (g2 e he hke), fun hz => hf _ _ (g3 hz)⟩
theorem MpiOK.over {w X X' kk tot has val es} (d : MpiOK w X kk tot has val es) (hx : ∀ b, X' b → X b) : MpiOK w X' kk tot has val es := by
  have weak : ∀ {s : SV} {v : Value}, R w X E0 s v → R w X' E0 s v := fun h => h.mono (fun _ _ _ => rfl) (fun b _ hb => hx b hb) (Env.le_refl _)
  exact ⟨d.1, fun l e hl he hk => weak (d.2.1 l e hl he hk), fun ht l hl hh => weak (d.2.2 ht l hl hh)⟩
theorem EIok_mapver {w X E ver b us} {so : SO} (h : EIok w X E (.slc ver (.map (some b)) us) so) (ha : aliveB so = true) : ver = 0 := by
  cases so with
  | dead => cases ha
  | cells => exact h.elim
  | scells => exact h.elim
  | row => obtain ⟨_, xs, ho, _⟩ := h; rcases ho with ⟨a, h1, _⟩ | ⟨b', cap, cur, h1, _⟩ <;> cases h1
  | srow => obtain ⟨_, hr⟩ := h; cases hr
  | deep => obtain ⟨_, xs, d⟩ := h; rcases d.own with ⟨a, h1, _⟩ | ⟨b', cap, cur, h1, _⟩ <;> cases h1
  | mpi => exact h.1
  | mps => exact h.1
theorem R_sml {w : World} {X X' : Nat → Prop} (hx : ∀ b, X' b → X b) {os : List SO} {ks : List Nat} {E : Env} (hv : VerOK os E ks) {s : SV} {v : Value} (h : R w X E s v) : R w X' (smlE E ks) (sml os ks s) v := by
  induction s generalizing v with
  | any => exact .any
  | int => cases h; exact .int
  | bool => cases h; exact .bool
  | lit => cases h; exact .lit
  | str => cases h; exact .str
  | nilfn => cases h; exact .nilfn
  | cap0 => cases h; exact .cap0
  | fn f n g ih => cases h with | fn hs hr => exact .fn hs fun i hi => ih i (hr i hi)
  | agg n g ih => cases h with | agg hs ho hr => exact .agg hs ho fun i hi => ih i (hr i hi)
  | tup n g ih => cases h with | tup hs hr => exact .tup hs fun i hi => ih i (hr i hi)
  | sl len n g ih =>
    cases h with
    | sl0 => exact .sl0
    | sl hb hX hc hl ho hr => exact .sl hb (fun hc => hX (hx _ hc)) hc hl ho fun i j hi hj => (hr i j hi hj).mono (fun _ _ _ => rfl) (fun b _ hb => hx b hb) (Env.le_refl _)
  | ref n g ih => cases h with | ref hb hX hc ho hr => exact .ref hb (fun hc => hX (hx _ hc)) hc ho fun j hj => (hr j hj).mono (fun _ _ _ => rfl) (fun b _ hb => hx b hb) (Env.le_refl _)
  | own k off =>
    cases h with
    | own he =>
      simp only [sml]
      split
      · rename_i i hi; exact .own (smlE_blk hi he)
      · exact .any
  | osl k ver =>
    simp only [sml]
    split
    · rename_i i hi
      split
      · rename_i hb
        have hbb := Nat.eq_of_beq_eq_true hb
        cases h with
        | osl he hs => exact .osl (smlE_slc hi he) hs
        | oslOld he hl hs =>
          have := hv i k (posOf_get hi) _ _ _ he
          omega
      · exact .any
    · exact .any
  | ownAt k ver a n off =>
    simp only [sml]
    split
    · rename_i i hi
      split
      · rename_i hb
        have hbb := Nat.eq_of_beq_eq_true hb
        cases h with
        | ownAt he => exact .ownAt (smlE_slc hi he)
        | ownAtOld he hl hs =>
          have := hv i k (posOf_get hi) _ _ _ he
          omega
      · exact .any
    · exact .any
  | con => cases h; exact .con
  | slP n g ih => cases h with | slP hb hX hc hl ho hr => exact .slP hb (fun hc => hX (hx _ hc)) hc hl ho fun i hi => ih i (hr i hi)
  | refP g ih => cases h with | refP hb hX hc ho hr => exact .refP hb (fun hc => hX (hx _ hc)) hc ho (ih 0 hr)
  | ifc T g ih => cases h with | ifc ho hr => exact .ifc ho (ih 0 hr)
  | omap k =>
    simp only [sml]
    split
    · rename_i i hi
      split
      · rename_i hb
        have hbb := Nat.eq_of_beq_eq_true hb
        cases h with
        | omap he => exact .omap (smlE_slc hi he)
        | omapOld he hl =>
          have := hv i k (posOf_get hi) _ _ _ he
          omega
      · exact .any
    · exact .any
  | nilsl => cases h; exact .nilsl
  | slN => exact R_slN hx h
  | win k ver n lo len =>
    simp only [sml]
    split
    · rename_i i hi
      split
      · rename_i hb
        have hbb := Nat.eq_of_beq_eq_true hb
        cases h with
        | win he hl ha h0 => exact .win (smlE_slc hi he) hl ha h0
        | winOld he hl hs =>
          have := hv i k (posOf_get hi) _ _ _ he
          omega
      · exact .any
    · exact .any
theorem R_big {w : World} {X X' : Nat → Prop} (hx : ∀ b, X' b → X b) {os : List SO} {ks : List Nat} {Es E' : Env}
    (h1 : ∀ i k b, ks[i]? = some k → Es i = some (.blk b) → E' k = some (.blk b)) (h2 : ∀ i k ver v us, ks[i]? = some k → Es i = some (.slc ver v us) → E' k = some (.slc (verO (os.getD i .dead) + ver) v us))
    {s : SV} {v : Value} (h : R w X Es s v) : R w X' E' (big os ks s) v := by
  induction s generalizing v with
  | any => exact .any
  | int => cases h; exact .int
  | bool => cases h; exact .bool
  | lit => cases h; exact .lit
  | str => cases h; exact .str
  | nilfn => cases h; exact .nilfn
  | cap0 => cases h; exact .cap0
  | fn f n g ih => cases h with | fn hs hr => exact .fn hs fun i hi => ih i (hr i hi)
  | agg n g ih => cases h with | agg hs ho hr => exact .agg hs ho fun i hi => ih i (hr i hi)
  | tup n g ih => cases h with | tup hs hr => exact .tup hs fun i hi => ih i (hr i hi)
  | sl len n g ih =>
    cases h with
    | sl0 => exact .sl0
    | sl hb hX hc hl ho hr => exact .sl hb (fun hc => hX (hx _ hc)) hc hl ho fun i j hi hj => (hr i j hi hj).mono (fun _ _ _ => rfl) (fun b _ hb => hx b hb) (Env.le_refl _)
  | ref n g ih => cases h with | ref hb hX hc ho hr => exact .ref hb (fun hc => hX (hx _ hc)) hc ho fun j hj => (hr j hj).mono (fun _ _ _ => rfl) (fun b _ hb => hx b hb) (Env.le_refl _)
  | own i off =>
    cases h with
    | own he =>
      simp only [big]
      split
      · rename_i k hk; exact .own (h1 _ _ _ hk he)
      · exact .any
  | osl i ver =>
    simp only [big]
    split
    · rename_i k hk
      cases h with
      | osl he hs => exact .osl (h2 _ _ _ _ _ hk he) hs
      | oslOld he hl hs => exact .oslOld (h2 _ _ _ _ _ hk he) (by omega) hs
    · exact .any
  | ownAt i ver a n off =>
    simp only [big]
    split
    · rename_i k hk
      cases h with
      | ownAt he => exact .ownAt (h2 _ _ _ _ _ hk he)
      | ownAtOld he hl hs => exact .ownAtOld (h2 _ _ _ _ _ hk he) (by omega) hs
    · exact .any
  | con => cases h; exact .con
  | slP n g ih => cases h with | slP hb hX hc hl ho hr => exact .slP hb (fun hc => hX (hx _ hc)) hc hl ho fun i hi => ih i (hr i hi)
  | refP g ih => cases h with | refP hb hX hc ho hr => exact .refP hb (fun hc => hX (hx _ hc)) hc ho (ih 0 hr)
  | ifc T g ih => cases h with | ifc ho hr => exact .ifc ho (ih 0 hr)
  | omap i =>
    simp only [big]
    split
    · rename_i k hk
      cases h with
      | omap he =>
        have := h2 _ _ _ _ _ hk he
        rw [Nat.add_zero] at this
        cases hz : verO (os.getD i .dead) with
        | zero => rw [hz] at this; exact .omap this
        | succ n => rw [hz] at this; exact .omapOld this (Nat.succ_pos n)
      | omapOld he hl => exact .omapOld (h2 _ _ _ _ _ hk he) (by omega)
    · exact .any
  | nilsl => cases h; exact .nilsl
  | slN => exact R_slN hx h
  | win i ver n lo len =>
    simp only [big]
    split
    · rename_i k hk
      cases h with
      | win he hl ha h0 => exact .win (h2 _ _ _ _ _ hk he) hl ha h0
      | winOld he hl hs => exact .winOld (h2 _ _ _ _ _ hk he) (by omega) hs
    · exact .any
/-- The objects of these names. -/
def objsAt (H : List SO) (ks : List Nat) : List SO := ks.map fun k => H.getD k .dead
theorem objsAt_get {H : List SO} {ks : List Nat} {i k : Nat} (h : ks[i]? = some k) : (objsAt H ks).getD i .dead = H.getD k .dead := by
  rw [objsAt, List.getD_eq_getElem?_getD, List.getElem?_map, h]; rfl
theorem Rep.verOK {w0 X0 H E w} (h : Rep w0 X0 H E w) {ks : List Nat} (ha : (objsAt H ks).all aliveB = true) : VerOK (objsAt H ks) E ks := by
  intro i k hk ver v us he
  have hok := h.ok k _ he
  rw [objsAt_get hk]
  have hal : aliveB (H.getD k .dead) = true := List.all_eq_true.1 ha _ (List.mem_map.2 ⟨k, List.mem_of_getElem? hk, rfl⟩)
  generalize H.getD k .dead = so at *
  cases so with
  | dead => cases hal
  | cells => exact hok.elim
  | scells => exact hok.elim
  | row => exact hok.1.symm
  | srow => exact hok.1.symm
  | deep => exact hok.1.symm
  | mpi => exact hok.1.symm
  | mps => exact hok.1.symm
theorem nameOf_known {w X E s v k} (h : R w X E s v) (hn : nameOf s = some k) : E k ≠ none := by
  cases h <;> simp only [nameOf, reduceCtorEq, Option.some.injEq] at hn
  all_goals (subst hn; rename_i he; first | (rw [he]; simp; done) | skip)
  all_goals (intro hc; simp_all)
theorem nameAt_known {w0 X0 H E w} (h : Rep w0 X0 H E w) {args : List SV} {vals : Array Value} (ha : ArgsR w (Xo X0 E H) E args vals) {ks : List Nat} (hk : ∀ k ∈ ks, E k ≠ none) {p : NP} (hp : holeP H ks p) {k : Nat} (hn : nameAt H args ks p = some k) : E k ≠ none := by
  cases p with
  | arg i =>
    simp only [nameAt] at hn
    obtain ⟨hi, hn⟩ := ite_none hn
    exact nameOf_known (ha.2 i hi) hn
  | part i j =>
    simp only [nameAt] at hn
    obtain ⟨hi, hn⟩ := ite_none hn
    have hr := ha.2 i hi
    generalize args.getD i .any = s at hr hn
    generalize vals.getD i undef = v at hr
    cases hr <;> simp only [subS, reduceCtorEq] at hn
    · rename_i n g vs hs hr
      by_cases hj : j < n
      · rw [if_pos hj] at hn; exact nameOf_known (hr j hj) hn
      · rw [if_neg hj] at hn; cases hn
    · rename_i n g vs hs ho hr
      by_cases hj : j < n
      · rw [if_pos hj] at hn; exact nameOf_known (hr j hj) hn
      · rw [if_neg hj] at hn; cases hn
    · rename_i n g b o cap c T fr hb hX hc hl ho hr
      by_cases hj : j < n
      · rw [if_pos hj] at hn; exact nameOf_known (hr j hj) hn
      · rw [if_neg hj] at hn; cases hn
  | cell o j =>
    simp only [nameAt] at hn
    split at hn
    case h_2 => cases hn
    rename_i k0 hk0
    have hkn := hk k0 (List.mem_of_getElem? hk0)
    split at hn
    case h_2 => cases hn
    rename_i n g T hso
    obtain ⟨hj, hn⟩ := ite_none hn
    cases he : E k0 with
    | none => exact absurd he hkn
    | some e =>
      have hok := h.ok k0 e he
      rw [hso] at hok
      cases e with
      | slc => exact hok.elim
      | blk b =>
        obtain ⟨vs, _, _, h3⟩ := hok
        exact nameOf_known (h3 j hj).2 hn
  | hole o =>
    simp only [nameAt] at hn
    split at hn
    case h_2 => cases hn
    rename_i k0 hk0
    have hkn := hk k0 (List.mem_of_getElem? hk0)
    split at hn
    case h_2 => cases hn
    rename_i ver len n c m p g T T' ho hso
    split at hn
    case h_2 => cases hn
    rename_i q
    simp only [holeP, hk0, hso] at hp
    cases he : E k0 with
    | none => exact absurd he hkn
    | some e =>
      have hok := h.ok k0 e he
      rw [hso] at hok
      cases e with
      | blk b => exact hok.elim
      | slc ver' v us =>
        obtain ⟨_, xs, d⟩ := hok
        exact nameOf_known (d.out q.1 q.2 hp.out (by unfold hoAt; simp)).2 hn
theorem namesOf_pre {H : List SO} {args : List SV} : ∀ (ps : List NP) (ks ks' : List Nat), namesOf H args ps ks = some ks' → ∀ (o k : Nat), ks[o]? = some k → ks'[o]? = some k
  | [], ks, ks', hn, o, k, h => by simp only [namesOf, Option.some.injEq] at hn; subst hn; exact h
  | p :: r, ks, ks', hn, o, k, h => by
    simp only [namesOf] at hn
    split at hn
    case h_2 => cases hn
    exact namesOf_pre r _ ks' hn o k (by rw [List.getElem?_append_left (List.getElem?_eq_some_iff.1 h).1]; exact h)
theorem holeP_pre {H : List SO} {ks ks' : List Nat} {p : NP} (h : ∀ (o k : Nat), ks[o]? = some k → ks'[o]? = some k) (hp : holeP H ks' p) : holeP H ks p := by
  cases p with
  | hole o =>
    simp only [holeP] at hp ⊢
    cases hk : ks[o]? with
    | none => trivial
    | some k => rw [h o k hk] at hp; exact hp
  | _ => trivial
theorem namesOf_known {w0 X0 H E w} (h : Rep w0 X0 H E w) {args : List SV} {vals : Array Value} (ha : ArgsR w (Xo X0 E H) E args vals) : ∀ (ps : List NP) (ks ks' : List Nat), (∀ k ∈ ks, E k ≠ none) → holesP H ks' ps → namesOf H args ps ks = some ks' → (∀ k ∈ ks', E k ≠ none) ∧ ks'.length = ks.length + ps.length
  | [], ks, ks', hk, _, hn => by simp only [namesOf, Option.some.injEq] at hn; subst hn; exact ⟨hk, rfl⟩
  | p :: r, ks, ks', hk, hq, hn => by
    simp only [namesOf] at hn
    split at hn
    case h_2 => cases hn
    rename_i k hk1
    obtain ⟨h1, h2⟩ := namesOf_known h ha r (ks ++ [k]) ks' (fun k' hm => by
      rcases List.mem_append.1 hm with hm | hm
      · exact hk k' hm
      · rw [List.mem_singleton.1 hm]; exact nameAt_known h ha hk (holeP_pre (fun o k' h' => namesOf_pre r _ ks' hn o k' (by rw [List.getElem?_append_left (List.getElem?_eq_some_iff.1 h').1]; exact h')) hq.1) hk1) hq.2 hn
    exact ⟨h1, by rw [h2]; simp; omega⟩
theorem nameAt_ext {H HF : List SO} (he : Ext H HF) {args : List SV} {ks : List Nat} {p : NP} {k : Nat} (hn : nameAt H args ks p = some k) : nameAt HF args ks p = some k := by
  cases p with
  | arg => exact hn
  | part => exact hn
  | cell o j =>
    simp only [nameAt] at hn ⊢
    split at hn
    case h_2 => cases hn
    rename_i k0 hk0
    split at hn
    case h_2 => cases hn
    rename_i n g T hso
    have : HF.getD k0 .dead = H.getD k0 .dead := he k0 (by rw [hso]; simp)
    simp only [this, hso]
    exact hn
  | hole o =>
    simp only [nameAt] at hn ⊢
    split at hn
    case h_2 => cases hn
    rename_i k0 hk0
    split at hn
    case h_2 => cases hn
    rename_i hso
    have : HF.getD k0 .dead = H.getD k0 .dead := he k0 (by rw [hso]; simp)
    simp only [this, hso]
    exact hn
theorem namesOf_ext {H HF : List SO} (he : Ext H HF) {args : List SV} : ∀ (ps : List NP) (ks ks' : List Nat), namesOf H args ps ks = some ks' → namesOf HF args ps ks = some ks'
  | [], ks, ks', hn => hn
  | p :: r, ks, ks', hn => by
    simp only [namesOf] at hn ⊢
    split at hn
    case h_2 => cases hn
    rename_i k hk1
    rw [nameAt_ext he hk1]
    exact namesOf_ext he r _ ks' hn
theorem objsAt_ext {H HF : List SO} (he : Ext H HF) {ks : List Nat} (ha : (objsAt H ks).all aliveB = true) : objsAt HF ks = objsAt H ks := by
  refine List.map_congr_left fun k hk => he k fun hc => ?_
  have := List.all_eq_true.1 ha _ (List.mem_map.2 ⟨k, hk, rfl⟩)
  rw [hc] at this
  cases this
/-- A block that one of these objects keeps. -/
def HeldBy (H : List SO) (E : Env) (ks : List Nat) (b : Nat) : Prop := ∃ k ∈ ks, ∃ e, E k = some e ∧ holds e (H.getD k .dead) b
/-- Where the function begins. -/
def smlF (X0 : Fr) (H : List SO) (E : Env) (ks : List Nat) : Fr := ⟨fun b => Xo X0 E H b ∧ ¬ HeldBy H E ks b, HeldBy H E ks, smlE E ks, true⟩
theorem holds_sml {os ks} (_ : EI) (so : SO) (v : Value) (us : Nat → Option Nat) (ver : Nat) : holds (.slc 0 v us) (smlO os ks so) = holds (.slc ver v us) so := by
  cases so <;> first | rfl | skip
  · funext b
    simp only [smlO, holds, hoAt_map_none]
  · funext b
    simp only [smlO, holds, hoI_map_none]
theorem smlE_holds {os H E ks i e b} (h : smlE E ks i = some e) (hb : holds e ((List.map (smlO os ks) (objsAt H ks)).getD i .dead) b) : ∃ k e0, ks[i]? = some k ∧ E k = some e0 ∧ holds e0 (H.getD k .dead) b := by
  obtain ⟨k, hk, h2⟩ := smlE_inv h
  have hget : (List.map (smlO os ks) (objsAt H ks)).getD i .dead = smlO os ks (H.getD k .dead) := by
    rw [List.getD_eq_getElem?_getD, List.getElem?_map, objsAt, List.getElem?_map, hk]; rfl
  rw [hget] at hb
  rcases h2 with ⟨b0, he, rfl⟩ | ⟨ver, v, us, he, rfl⟩
  · refine ⟨k, _, hk, he, ?_⟩
    generalize H.getD k .dead = so at *
    cases so <;> simp only [smlO, holds] at hb ⊢ <;> first | exact hb | cases hb
  · exact ⟨k, _, hk, he, by rw [← holds_sml (os := os) (ks := ks) (.slc 0 v us) _ v us ver]; exact hb⟩
theorem EIok_sml {w X X' E} (hx : ∀ b, X' b → X b) {os ks} (hv : VerOK os E ks) {so : SO} : (∀ {b}, EIok w X E (.blk b) so → EIok w X' (smlE E ks) (.blk b) (smlO os ks so)) ∧ (∀ {ver v us}, EIok w X E (.slc ver v us) so → EIok w X' (smlE E ks) (.slc 0 v us) (smlO os ks so)) := by
  have weak : ∀ {s : SV} {v : Value}, R w X E0 s v → R w X' E0 s v := fun h => h.mono (fun _ _ _ => rfl) (fun b _ hb => hx b hb) (Env.le_refl _)
  constructor
  · intro b h
    cases so with
    | dead => trivial
    | cells n g T =>
      obtain ⟨vs, h1, h2, h3⟩ := h
      exact ⟨vs, h1, h2, fun i hi => ⟨(h3 i hi).1, R_sml hx hv (h3 i hi).2⟩⟩
    | scells n g =>
      obtain ⟨vs, T, fr, h1, h2, h3, h4⟩ := h
      exact ⟨vs, T, fr, h1, fun hc => h2 (hx _ hc), h3, fun i hi => ⟨(h4 i hi).1, weak (h4 i hi).2⟩⟩
    | row => exact h
    | srow => exact h
    | deep => exact h
    | mpi => exact h
    | mps => exact h
  · intro ver v us h
    cases so with
    | dead => trivial
    | cells => exact h
    | scells => exact h
    | mpi kk tot has val =>
      obtain ⟨_, b, es, clock, h1, h2, h3⟩ := h
      exact ⟨rfl, b, es, clock, h1, h2, h3.over hx⟩
    | mps kd has c m p T' ho =>
      obtain ⟨_, b, es, clock, h1, h2, d⟩ := h
      exact ⟨rfl, b, es, clock, h1, h2, d.over hx _ fun s u hu => R_sml hx hv hu⟩
    | row =>
      obtain ⟨_, xs, h2, h3⟩ := h
      exact ⟨rfl, xs, h2, fun i j hi hj => ⟨(h3 i j hi hj).1, weak (h3 i j hi hj).2⟩⟩
    | srow => exact ⟨rfl, weak h.2⟩
    | deep ver' len n c m p g T T' ho =>
      obtain ⟨_, xs, d⟩ := h
      refine ⟨rfl, xs, d.map hx (fun i hi => by rwa [hoAt_map_none] at hi) (fun i sv' hi => ?_)⟩
      rw [hoAt_map] at hi
      cases hh : hoAt ho i with
      | none => rw [hh] at hi; cases hi
      | some sv =>
        rw [hh] at hi
        cases hi
        exact ⟨sv, rfl, fun u hu => R_sml hx hv hu⟩
/-- Into the function. -/
theorem Rep.sml {w0 X0 H E w} (h : Rep w0 X0 H E w) {ks : List Nat} (hn : nodupB ks = true) (ha : (objsAt H ks).all aliveB = true) :
    Rep w (smlF X0 H E ks) ((objsAt H ks).map (smlO (objsAt H ks) ks)) (smlE E ks) w ∧ ∀ b, Xo (smlF X0 H E ks) (smlE E ks) ((objsAt H ks).map (smlO (objsAt H ks) ks)) b → Xo X0 E H b := by
  have hv := h.verOK ha
  have hx : ∀ b, Xo (smlF X0 H E ks) (smlE E ks) ((objsAt H ks).map (smlO (objsAt H ks) ks)) b → Xo X0 E H b := by
    rintro b (hb | ⟨i, e, he, hh⟩)
    · exact hb.1
    · obtain ⟨k, e0, hk, he0, hh0⟩ := smlE_holds he hh
      exact .inr ⟨k, e0, he0, hh0⟩
  refine ⟨⟨Bel.refl _ _, fun b hb => ⟨h.xlt b hb.1, hb.2⟩, fun i e he => ?_, fun i e he => ?_, fun i e he => ?_, fun i e b he hb => ?_, fun i i' e e' b he he' hb hb' => ?_⟩, hx⟩
  · have he' : smlE E ks i = some e := he
    obtain ⟨k, hk, h2⟩ := smlE_inv he'
    rcases h2 with ⟨b, hb, rfl⟩ | ⟨ver, v, us, hv, rfl⟩
    · exact he'
    · exact ⟨0, v, us, he', fun _ => rfl⟩
  · obtain ⟨k, hk, _⟩ := smlE_inv he
    rw [List.length_map, objsAt, List.length_map]
    exact (List.getElem?_eq_some_iff.1 hk).1
  · obtain ⟨k, hk, h2⟩ := smlE_inv he
    have hget : (List.map (smlO (objsAt H ks) ks) (objsAt H ks)).getD i .dead = smlO (objsAt H ks) ks (H.getD k .dead) := by
      rw [List.getD_eq_getElem?_getD, List.getElem?_map, objsAt, List.getElem?_map, hk]; rfl
    rw [hget]
    rcases h2 with ⟨b, hb, rfl⟩ | ⟨ver, v, us, hb, rfl⟩
    · exact (EIok_sml hx hv).1 (h.ok k _ hb)
    · exact (EIok_sml hx hv).2 (h.ok k _ hb)
  · obtain ⟨k, e0, hk, he0, hh0⟩ := smlE_holds he hb
    exact .inr ⟨k, List.mem_of_getElem? hk, e0, he0, hh0⟩
  · obtain ⟨k, e0, hk, he0, hh0⟩ := smlE_holds he hb
    obtain ⟨k', e1, hk', he1, hh1⟩ := smlE_holds he' hb'
    have := h.inj k k' e0 e1 b he0 he1 hh0 hh1
    subst this
    have h1 := posOf_of hn hk
    rw [posOf_of hn hk'] at h1
    exact (Option.some.inj h1).symm
end Go.Proofs.YthappngbapbkfaaDoor.Sx
/- Specifications of functions that write into what the caller hands them, and of functions that hand out a new slice. -/
namespace Go.Proofs.YthappngbapbkfaaDoor.Sx
open Go.RowKit
/-- The caller's names behind the call. -/
def bigE (os : List SO) (ks : List Nat) (E Es : Env) : Env := fun k => match posOf ks k with
  | some i => match Es i with
    | some (.blk b) => some (.blk b)
    | some (.slc ver v us) => some (.slc (verO (os.getD i .dead) + ver) v us)
    | none => none
  | none => E k
theorem bigE_blk {os ks E Es k i b} (h : posOf ks k = some i) (he : Es i = some (.blk b)) : bigE os ks E Es k = some (.blk b) := by simp only [bigE, h, he]
theorem bigE_slc {os ks E Es k i ver v us} (h : posOf ks k = some i) (he : Es i = some (.slc ver v us)) : bigE os ks E Es k = some (.slc (verO (os.getD i .dead) + ver) v us) := by simp only [bigE, h, he]
theorem bigE_out {os ks E Es k} (h : posOf ks k = none) : bigE os ks E Es k = E k := by simp only [bigE, h]
theorem bigE_inv {os ks E Es k e} (h : bigE os ks E Es k = some e) : (posOf ks k = none ∧ E k = some e) ∨ ∃ i, posOf ks k = some i ∧ ((∃ b, Es i = some (.blk b) ∧ e = .blk b) ∨ ∃ ver v us, Es i = some (.slc ver v us) ∧ e = .slc (verO (os.getD i .dead) + ver) v us) := by
  simp only [bigE] at h
  split at h
  · rename_i i hi
    split at h
    · rename_i b hb; cases h; exact .inr ⟨i, hi, .inl ⟨b, hb, rfl⟩⟩
    · rename_i ver v us hv; cases h; exact .inr ⟨i, hi, .inr ⟨ver, v, us, hv, rfl⟩⟩
    · cases h
  · rename_i hi; exact .inl ⟨hi, h⟩
theorem holds_big {os ks v0} (so : SO) : (∀ b, holds (.blk b) (bigO os ks v0 so) = holds (.blk b) so) ∧ ∀ v us ver ver', holds (.slc ver' v us) (bigO os ks v0 so) = holds (.slc ver v us) so := by
  constructor
  · intro b; cases so <;> rfl
  · intro v us ver ver'
    cases so <;> first | rfl | skip
    · funext b
      simp only [bigO, holds, hoAt_map_none]
    · funext b
      simp only [bigO, holds, hoI_map_none]
theorem Env.le_of {E E' : Env} (h1 : ∀ k b, E k = some (.blk b) → E' k = some (.blk b)) (h2 : ∀ k ver v us, E k = some (.slc ver v us) → ∃ ver' v' us', E' k = some (.slc ver' v' us') ∧ ver ≤ ver' ∧ (ver = ver' → v = v')) : E.le E' := ⟨h1, h2⟩
/-- Out of the function. -/
theorem Goes.of_sml {w0 X0 H E w nm} (h : Rep w0 X0 H E w) {ks : List Nat} (hn : nodupB ks = true) (hkn : ∀ k ∈ ks, E k ≠ none) (ha : (objsAt H ks).all aliveB = true) {post : List SO} {Es : Env} {w' : World}
    (hs : Rep w (smlF X0 H E ks) post Es w') {res : SV} {v : Value} (hr : R w' (Xo (smlF X0 H E ks) Es post) Es res v) :
    Goes w0 X0 H E w nm (.sets (setsOf (objsAt H ks) ks post ks 0)) (big (objsAt H ks) ks res) v w' := by
  have hkl : ∀ k ∈ ks, k < H.length := fun k hk => by
    cases he : E k with
    | none => exact absurd he (hkn k hk)
    | some e => exact h.dom k e he
  have hv := h.verOK ha
  obtain ⟨hlen, hget⟩ := applyS_sets (os := objsAt H ks) (ks := ks) (post := post) ks 0 H hn hkl
  have getIn : ∀ {k i}, posOf ks k = some i → (applyS H (setsOf (objsAt H ks) ks post ks 0)).getD k .dead = bigO (objsAt H ks) ks (verO ((objsAt H ks).getD i .dead)) (post.getD i .dead) := fun hp => by rw [hget, hp]; simp only [Nat.zero_add]
  have getOut : ∀ {k}, posOf ks k = none → (applyS H (setsOf (objsAt H ks) ks post ks 0)).getD k .dead = H.getD k .dead := fun hp => by rw [hget, hp]
  -- the names
  have le : E.le (bigE (objsAt H ks) ks E Es) := by
    refine Env.le_of (fun k b he => ?_) fun k ver v us he => ?_
    · cases hp : posOf ks k with
      | none => rw [bigE_out hp]; exact he
      | some i => exact bigE_blk hp (hs.nm i _ (smlE_blk hp he))
    · cases hp : posOf ks k with
      | none => exact ⟨ver, v, us, by rw [bigE_out hp]; exact he, Nat.le_refl _, fun _ => rfl⟩
      | some i =>
        obtain ⟨ver', v', us', h3, h4⟩ := hs.nm i _ (smlE_slc hp he)
        have hvk := hv i k (posOf_get hp) ver v us he
        exact ⟨_, v', us', bigE_slc hp h3, by omega, fun hc => (h4 (by omega)).symm⟩
  have held : ∀ {i k e b}, posOf ks k = some i → bigE (objsAt H ks) ks E Es k = some e → holds e ((applyS H (setsOf (objsAt H ks) ks post ks 0)).getD k .dead) b → ∃ e0, Es i = some e0 ∧ holds e0 (post.getD i .dead) b := by
    intro i k e b hp he hb
    rw [getIn hp] at hb
    rcases bigE_inv he with ⟨hno, _⟩ | ⟨i', hp', h2⟩
    · rw [hp] at hno; cases hno
    · rw [hp] at hp'
      cases hp'
      rcases h2 with ⟨b0, he0, rfl⟩ | ⟨ver, v, us, he0, rfl⟩
      · exact ⟨_, he0, by rw [(holds_big _).1] at hb; exact hb⟩
      · exact ⟨_, he0, by rw [(holds_big _).2 v us ver] at hb; exact hb⟩
  have out : ∀ {k e b}, posOf ks k = none → E k = some e → holds e (H.getD k .dead) b → ¬ HeldBy H E ks b := by
    rintro k e b hp he hb ⟨k', hk', e', he', hb'⟩
    have := h.inj k k' e e' b he he' hb hb'
    subst this
    exact posOf_none hp hk'
  have x0d : ∀ {b}, X0.x b → ¬ HeldBy H E ks b := by
    rintro b hb ⟨k', hk', e', he', hb'⟩
    have h1 := h.x0 b hb
    rcases h.low k' e' b he' hb' with h2 | h2
    · omega
    · exact h1.2 h2
  have keep : ∀ b, b < w.heap.size → ¬ HeldBy H E ks b → w'.heap[b]? = w.heap[b]? := fun b hlt hd => hs.below.block b hlt hd
  have lowS : ∀ {i e b}, Es i = some e → holds e (post.getD i .dead) b → w.heap.size ≤ b ∨ HeldBy H E ks b := fun he hb => hs.low _ _ _ he hb
  have hx : ∀ b, Xo X0 (bigE (objsAt H ks) ks E Es) (applyS H (setsOf (objsAt H ks) ks post ks 0)) b → Xo (smlF X0 H E ks) Es post b := by
    rintro b (hb | ⟨k, e, he, hb⟩)
    · exact .inl ⟨.inl hb, x0d hb⟩
    · cases hp : posOf ks k with
      | none =>
        rw [bigE_out hp] at he
        rw [getOut hp] at hb
        exact .inl ⟨.inr ⟨k, e, he, hb⟩, out hp he hb⟩
      | some i =>
        obtain ⟨e0, h1, h2⟩ := held hp he hb
        exact .inr ⟨i, e0, h1, h2⟩
  have hke : Keeps (Xo X0 E H) w w' := fun b hlt hX => keep b hlt fun ⟨k, _, e, he, hb⟩ => hX (.inr ⟨k, e, he, hb⟩)
  have hwi : Within (Xo X0 E H) (Xo X0 (bigE (objsAt H ks) ks E Es) (applyS H (setsOf (objsAt H ks) ks post ks 0))) w := by
    rintro b hlt (hb | ⟨k, e, he, hb⟩)
    · exact .inl hb
    · cases hp : posOf ks k with
      | none =>
        rw [bigE_out hp] at he
        rw [getOut hp] at hb
        exact .inr ⟨k, e, he, hb⟩
      | some i =>
        obtain ⟨e0, h1, h2⟩ := held hp he hb
        rcases lowS h1 h2 with h3 | ⟨k', _, e', he', hb'⟩
        · omega
        · exact .inr ⟨k', e', he', hb'⟩
  have hbig : ∀ {s : SV} {u : Value}, R w' (Xo (smlF X0 H E ks) Es post) Es s u → R w' (Xo X0 (bigE (objsAt H ks) ks E Es) (applyS H (setsOf (objsAt H ks) ks post ks 0))) (bigE (objsAt H ks) ks E Es) (big (objsAt H ks) ks s) u := fun hr =>
    R_big hx (fun i k b hk he => bigE_blk (posOf_of hn hk) he) (fun i k ver v us hk he => bigE_slc (posOf_of hn hk) he) hr
  have weak : ∀ {s : SV} {u : Value}, R w' (Xo (smlF X0 H E ks) Es post) E0 s u → R w' (Xo X0 (bigE (objsAt H ks) ks E Es) (applyS H (setsOf (objsAt H ks) ks post ks 0))) E0 s u := fun hr => hr.mono (fun _ _ _ => rfl) (fun b _ hb => hx b hb) (Env.le_refl _)
  refine ⟨bigE (objsAt H ks) ks E Es, le, hke, hwi, ⟨?_, h.x0, fun k e hk => (h.nm k e hk).le le, fun k e he => ?_, fun k e he => ?_, fun k e b he hb => ?_, fun k k' e e' b he he' hb hb' => ?_⟩, hbig hr, fun k hk => .inl fun hc => hk ?_⟩
  · refine ⟨hs.below.os.trans h.below.os, hs.below.tape.trans h.below.tape, hs.below.output.trans h.below.output, Nat.le_trans h.below.size hs.below.size, fun b hlt hd => ?_⟩
    refine (keep b (Nat.lt_of_lt_of_le hlt h.below.size) fun ⟨k, _, e, he, hb⟩ => ?_).trans (h.below.block b hlt hd)
    rcases h.low k e b he hb with h2 | h2
    · omega
    · exact hd h2
  · show k < (applyS H (setsOf (objsAt H ks) ks post ks 0)).length
    rw [hlen]
    cases hp : posOf ks k with
    | none => rw [bigE_out hp] at he; exact h.dom k e he
    | some i => exact hkl k (posOf_mem hp)
  · show EIok w' _ _ e ((applyS H (setsOf (objsAt H ks) ks post ks 0)).getD k .dead)
    rcases bigE_inv he with ⟨hp, he0⟩ | ⟨i, hp, h2⟩
    · rw [getOut hp]
      exact (h.ok k e he0).mono hke hwi le fun b hb => keep b (holds_lt (h.ok k e he0) hb) (out hp he0 hb)
    · rw [getIn hp]
      rcases h2 with ⟨b0, he0, rfl⟩ | ⟨ver, v, us, he0, rfl⟩
      · have hok := hs.ok i _ he0
        generalize post.getD i .dead = so at hok
        cases so with
        | dead => trivial
        | cells n g T =>
          obtain ⟨vs, h1, h2, h3⟩ := hok
          exact ⟨vs, h1, h2, fun j hj => ⟨(h3 j hj).1, hbig (h3 j hj).2⟩⟩
        | scells n g =>
          obtain ⟨vs, T, fr, h1, h2, h3, h4⟩ := hok
          exact ⟨vs, T, fr, h1, fun hc => h2 (hx _ hc), h3, fun j hj => ⟨(h4 j hj).1, weak (h4 j hj).2⟩⟩
        | row => exact hok
        | srow => exact hok
        | deep => exact hok
        | mpi => exact hok
        | mps => exact hok
      · have hok := hs.ok i _ he0
        have hverm : ∀ b0, ver = 0 → v = .map (some b0) → verO ((objsAt H ks).getD i .dead) + ver = 0 := fun b0 hz hvm => by
          subst hz
          subst hvm
          have hki := posOf_get hp
          cases hEk : E k with
          | none => exact absurd hEk (hkn k (posOf_mem hp))
          | some e0 =>
            have halk : aliveB (H.getD k .dead) = true := List.all_eq_true.1 ha _ (List.mem_map.2 ⟨k, posOf_mem hp, rfl⟩)
            cases e0 with
            | blk b1 =>
              have := hs.nm i _ (smlE_blk hp hEk)
              rw [he0] at this
              cases this
            | slc ver1 v1 us1 =>
              obtain ⟨ver2, v2, us2, g1, g2⟩ := hs.nm i _ (smlE_slc hp hEk)
              rw [he0] at g1
              cases g1
              have hv1 := g2 rfl
              subst hv1
              have hz1 := EIok_mapver (h.ok k _ hEk) halk
              have := h.verOK ha i k hki _ _ _ hEk
              omega
        generalize post.getD i .dead = so at hok
        cases so with
        | dead => trivial
        | cells => exact hok
        | scells => exact hok
        | mpi kk tot has val =>
          obtain ⟨hz, b1, es, clock, h1, h2, h3⟩ := hok
          exact ⟨hverm b1 hz h1, b1, es, clock, h1, h2, h3.over hx⟩
        | mps kd has c m p T' ho =>
          obtain ⟨hz, b1, es, clock, h1, h2, d⟩ := hok
          exact ⟨hverm b1 hz h1, b1, es, clock, h1, h2, d.over hx _ fun s u hu => hbig hu⟩
        | row ver' len n g T =>
          obtain ⟨rfl, xs, h2, h3⟩ := hok
          exact ⟨rfl, xs, h2, fun i j hi hj => ⟨(h3 i j hi hj).1, weak (h3 i j hi hj).2⟩⟩
        | srow ver' len n g =>
          obtain ⟨rfl, h2⟩ := hok
          exact ⟨rfl, weak h2⟩
        | deep ver' len n c m p g T T' ho =>
          obtain ⟨rfl, xs, d⟩ := hok
          refine ⟨rfl, xs, d.map hx (fun i hi => by rwa [hoAt_map_none] at hi) (fun i sv' hi => ?_)⟩
          rw [hoAt_map] at hi
          cases hh : hoAt ho i with
          | none => rw [hh] at hi; cases hi
          | some sv =>
            rw [hh] at hi
            cases hi
            exact ⟨sv, rfl, fun u hu => hbig hu⟩
  · have hb' : holds e ((applyS H (setsOf (objsAt H ks) ks post ks 0)).getD k .dead) b := hb
    cases hp : posOf ks k with
    | none =>
      rw [bigE_out hp] at he
      rw [getOut hp] at hb'
      exact h.low k e b he hb'
    | some i =>
      obtain ⟨e0, h1, h2⟩ := held hp he hb'
      rcases lowS h1 h2 with h3 | ⟨k', _, e', he', hb''⟩
      · exact .inl (Nat.le_trans h.below.size h3)
      · exact h.low k' e' b he' hb''
  · have hb1 : holds e ((applyS H (setsOf (objsAt H ks) ks post ks 0)).getD k .dead) b := hb
    have hb2 : holds e' ((applyS H (setsOf (objsAt H ks) ks post ks 0)).getD k' .dead) b := hb'
    have mixed : ∀ {k k' e e' i}, posOf ks k = none → E k = some e → holds e (H.getD k .dead) b → posOf ks k' = some i → bigE (objsAt H ks) ks E Es k' = some e' → holds e' ((applyS H (setsOf (objsAt H ks) ks post ks 0)).getD k' .dead) b → False := by
      intro k k' e e' i hp he hb hp' he' hb'
      obtain ⟨e0, h1, h2⟩ := held hp' he' hb'
      rcases lowS h1 h2 with h3 | h3
      · have := holds_lt (h.ok k e he) hb
        omega
      · exact out hp he hb h3
    cases hp : posOf ks k with
    | none =>
      rw [bigE_out hp] at he
      rw [getOut hp] at hb1
      cases hp' : posOf ks k' with
      | none =>
        rw [bigE_out hp'] at he'
        rw [getOut hp'] at hb2
        exact h.inj k k' e e' b he he' hb1 hb2
      | some i' => exact (mixed hp he hb1 hp' he' hb2).elim
    | some i =>
      cases hp' : posOf ks k' with
      | none =>
        rw [bigE_out hp'] at he'
        rw [getOut hp'] at hb2
        exact (mixed hp' he' hb2 hp he hb1).elim
      | some i' =>
        obtain ⟨e0, h1, h2⟩ := held hp he hb1
        obtain ⟨e1, h3, h4⟩ := held hp' he' hb2
        have := hs.inj i i' e0 e1 b h1 h3 h2 h4
        subst this
        exact posOf_inj hp hp'
  · cases hp : posOf ks k with
    | none => rw [bigE_out hp]; exact hc
    | some i => exact absurd hc (hkn k (posOf_mem hp))
/-- What a call finds. -/
def argLe (l : List SV) (os : List SO) (a : List SV) (o : List SO) : Prop := match Nat.beq l.length a.length with
  | true => withNm os.length os o (StLe ⟨argsT 0 l, os⟩ ⟨argsT 0 a, o⟩)
  | false => False
/-- A function that writes into objects that come with the call: paths says where their names stand; post: what becomes of them. -/
def mkSpecM (f : FuncId) (paths : List NP) {γ : Type} (dec : List SV → List SO → Option γ) (args : γ → List SV) (objs : γ → List SO) (pre : γ → Prop) (res : γ → SV) (post : γ → List SO) : FSpec :=
  ⟨f, true, fun l H _ => match namesOf H l paths [] with
    | some ks => match nodupB ks && (objsAt H ks).all aliveB with
      | true => match dec (l.map (sml (objsAt H ks) ks)) ((objsAt H ks).map (smlO (objsAt H ks) ks)) with
        | some g => some ⟨withHoles (objsAt H ks) paths (argLe (l.map (sml (objsAt H ks) ks)) ((objsAt H ks).map (smlO (objsAt H ks) ks)) (args g) (objs g) ∧ Ask (pre g)), big (objsAt H ks) ks (res g), .sets (setsOf (objsAt H ks) ks (post g) ks 0)⟩
        | none => none
      | false => none
    | none => none⟩
def vcResM (P : Program) (fn : Func) (m : Nat) (own : Bool) (res : SV) (post : List SO) (s : St) : Prop :=
  match resS P fn.ntmps s fn.results.toList with
  | some (p, l) => p ∧ match own with
    | true => withNm m s.H post (StLe ⟨[(0, oneOf l)], s.H⟩ ⟨[(0, res)], post⟩)
    | false => match frzAll s.H (needs s.H 6 (oneOf l)) with
      | some fl => forceH (applyS s.H fl) fun H => match pur H 6 (oneOf l) with
        | some v => withNm m H post (StLe ⟨[(0, v)], H⟩ ⟨[(0, res)], post⟩)
        | none => False
      | none => False
  | none => False
def retM (P : Program) (fn : Func) (m : Nat) (own : Bool) (res : SV) (post : List SO) : SK
  | .exit _, _ => False
  | _, s => vcResM P fn m own res post s
theorem resM_sound {P : Program} {fn : Func} {m : Nat} {own : Bool} {res : SV} {post : List SO} {s : St} {w0 X0 a w} (hk : vcResM P fn m own res post s) (hnm : ∀ k, X0.nm k ≠ none → k < m) (hs : StR w0 X0 fn.ntmps s a w) :
    ∃ v Es, (results fn a.tmps).run P w = .ok v w ∧ Rep w0 X0 post Es w ∧ R w (Xo X0 Es post) Es res v := by
  obtain ⟨E, hrep, htr⟩ := hs
  unfold vcResM at hk
  split at hk
  case h_2 => exact hk.elim
  rename_i p l hres
  obtain ⟨hp, hk⟩ := hk
  obtain ⟨v, hv1, hv2⟩ := results_sound rfl hrep htr hres hp
  have fin : ∀ {H : List SO} {sv : SV}, Rep w0 X0 H E w → R w (Xo X0 E H) E sv v → withNm m H post (StLe ⟨[(0, sv)], H⟩ ⟨[(0, res)], post⟩) → ∃ v Es, (results fn a.tmps).run P w = .ok v w ∧ Rep w0 X0 post Es w ∧ R w (Xo X0 Es post) Es res v := by
    intro H sv hrep hr hle
    obtain ⟨h1, h2⟩ := hle.get
    obtain ⟨h3, h4⟩ := hrep.le h2.2 hnm h1
    have := SVle_sound h4 (fun k ver v us he ver' hr => EIok_ver (hrep.ok k _ he) hr) (tmpLe_get h2.1 0) hr
    exact ⟨v, _, hv1, h3, this⟩
  split at hk
  · exact fin hrep hv2 hk
  · split at hk
    case h_2 => exact hk.elim
    rename_i fl hfl
    rw [forceH_eq] at hk
    split at hk
    case h_2 => exact hk.elim
    rename_i sv hsv
    obtain ⟨g1, g2⟩ := frzAll_sound _ _ _ hrep hfl
    exact fin g1 (up (pur_sound g1 6 _ _ _ hsv (hv2.mono (fun _ _ _ => rfl) g2 (Env.le_refl _)))) hk
theorem spec_soundMG {Γ : World → Fr → Prop} (hG : ∀ {w0 X0 H E w ks}, Γ w0 X0 → Rep w0 X0 H E w → Γ w (smlF X0 H E ks)) {P : Program} {specs : List FSpec} (hspecs : ∀ s ∈ specs, SpecG Γ P s) {eqs : List (TypeId × List CK)} (heqs : ∀ t n, (t, n) ∈ eqs → EqOK P t n) (hm : P.follows .mixedOrders = true)
    {f : FuncId} {fn : Func} {body : Code} (hf : P.funcs[f]? = some fn) (hb : fn.body = some body) (_ : codeB (effS specs) body = true) (hN : (∀ w0 X0, Γ w0 X0) ∨ noRF body = true) (hent : ∀ args w, (callFunc f args).run P w = .ok (.enter f args) w)
    {paths : List NP} {γ : Type} {dec : List SV → List SO → Option γ} {args : γ → List SV} {objs : γ → List SO} {pre : γ → Prop} {res : γ → SV} {post : γ → List SO} (A : γ → Ann) (own : Bool) (hlen : ∀ g, (args g).length ≤ fn.ntmps)
    (h : ∀ g, pre g → vc P specs eqs fn.ntmps paths.length false (A g) body (retM P fn paths.length own (res g) (post g)) ⟨argsT 0 (args g), objs g⟩) : SpecG Γ P (mkSpecM f paths dec args objs pre res post) := by
  refine fun w0 X0 hΓ => ⟨hent, fun l H HF nm y he _ hrun => ?_, fun l H nm y hrun hask E w hrep hfree vals ha => ?_⟩
  · simp only [mkSpecM] at hrun ⊢
    split at hrun
    case h_2 => cases hrun
    rename_i ks hks
    rw [namesOf_ext he paths [] ks hks]
    split at hrun
    case h_2 => cases hrun
    rename_i hc
    simp only
    rw [objsAt_ext he (Bool.and_eq_true _ _ ▸ hc).2, hc]
    exact hrun
  · simp only [mkSpecM] at hrun
    split at hrun
    case h_2 => cases hrun
    rename_i ks hks
    split at hrun
    case h_2 => cases hrun
    rename_i hc
    rw [Bool.and_eq_true] at hc
    obtain ⟨hn, hal⟩ := hc
    split at hrun
    case h_2 => cases hrun
    rename_i g hdec
    cases hrun
    obtain ⟨⟨hle, ⟨hpre⟩⟩, hholes⟩ := withHoles_get hask
    obtain ⟨hkn, hkl⟩ := namesOf_known hrep ha paths [] ks (fun k hk => by cases hk) (holesP_of hholes) hks
    have hkl' : ks.length = paths.length := by simpa using hkl
    unfold argLe at hle
    split at hle
    case h_2 => exact hle.elim
    rename_i hll
    have hll' := Nat.eq_of_beq_eq_true hll
    rw [List.length_map] at hll'
    obtain ⟨hs, hxs⟩ := hrep.sml hn hal
    have hv := hrep.verOK hal
    have hnm : ∀ k, (smlF X0 H E ks).nm k ≠ none → k < paths.length := fun k hk => by
      cases he : smlE E ks k with
      | none => exact absurd he hk
      | some e =>
        obtain ⟨k', hk', _⟩ := smlE_inv he
        have := (List.getElem?_eq_some_iff.1 hk').1
        omega
    have hT := argsT_look fn.ntmps vals (l.map (sml (objsAt H ks) ks)) w (Xo (smlF X0 H E ks) (smlE E ks) ((objsAt H ks).map (smlO (objsAt H ks) ks))) (smlE E ks) (by rw [ha.1, List.length_map]) (by rw [List.length_map, hll']; exact hlen g) (fun i hi => by
      rw [List.length_map] at hi
      have e1 : (l.map (sml (objsAt H ks) ks)).getD i .any = sml (objsAt H ks) ks (l.getD i .any) := by
        rw [List.getD_eq_getElem?_getD, List.getElem?_map, List.getD_eq_getElem?_getD, List.getElem?_eq_getElem hi]; rfl
      rw [e1]
      exact R_sml hxs hv (ha.2 i hi))
    have hst : StR w (smlF X0 H E ks) fn.ntmps ⟨argsT 0 (l.map (sml (objsAt H ks) ks)), (objsAt H ks).map (smlO (objsAt H ks) ks)⟩ ⟨vals ++ Array.replicate (fn.ntmps - vals.size) undef, []⟩ w := ⟨smlE E ks, hs, hT.1, DefOK.nil _ _ _, hT.2⟩
    have hst2 := hst.le (m := ((objsAt H ks).map (smlO (objsAt H ks) ks)).length) (fun k hk => by rw [List.length_map, objsAt, List.length_map, hkl']; exact hnm k hk) hle.get.1 hle.get.2
    refine calls_of_vc (w0 := w) (X0 := smlF X0 H E ks) (G := vcResM P fn paths.length own (res g) (post g)) hf hb (vc_soundG (Γ := Γ) (w0 := w) (X0 := smlF X0 H E ks) (fun w0 X0 h s hs => hspecs s hs w0 X0 h) heqs hm body hN (hG hΓ hrep) (.inl rfl) (fun _ => rfl) hnm _ _ _ _ (h g hpre) (fun e s a w' hk hs => ?_) _ w hst2) (fun s a w' hk _ hs => ?_)
    · cases e with
      | normal => exact ⟨s, hk, hs⟩
      | ret => exact ⟨s, hk, hs⟩
      | exit id => exact hk.elim
    · obtain ⟨v, Es, h2, h3, h4⟩ := resM_sound hk hnm hs
      exact ⟨v, h2, v, rfl, Goes.of_sml hrep hn hkn hal h3 h4⟩
theorem spec_soundM {P : Program} {specs : List FSpec} (hspecs : ∀ s ∈ specs, SpecOK P s) {eqs : List (TypeId × List CK)} (heqs : ∀ t n, (t, n) ∈ eqs → EqOK P t n) (hm : P.follows .mixedOrders = true)
    {f : FuncId} {fn : Func} {body : Code} (hf : P.funcs[f]? = some fn) (hb : fn.body = some body) (hc : codeB (effS specs) body = true) (hent : ∀ args w, (callFunc f args).run P w = .ok (.enter f args) w)
    {paths : List NP} {γ : Type} {dec : List SV → List SO → Option γ} {args : γ → List SV} {objs : γ → List SO} {pre : γ → Prop} {res : γ → SV} {post : γ → List SO} (A : γ → Ann) (own : Bool) (hlen : ∀ g, (args g).length ≤ fn.ntmps)
    (h : ∀ g, pre g → vc P specs eqs fn.ntmps paths.length false (A g) body (retM P fn paths.length own (res g) (post g)) ⟨argsT 0 (args g), objs g⟩) : SpecOK P (mkSpecM f paths dec args objs pre res post) :=
  specOK_of_at fun w0 X0 => spec_soundMG (Γ := topG) (fun _ _ => trivial) (fun s hs => (hspecs s hs).g) heqs hm hf hb hc (.inl fun _ _ => trivial) hent A own hlen h w0 X0 trivial
/-! A function that hands out something new: a slice or a variable of its own. -/
theorem Rep.pick {w0 : World} {X : Nat → Prop} {H E w} (h : Rep w0 (Fr.of X) H E w) {ks : List Nat} (hn : nodupB ks = true) (ha : (objsAt H ks).all aliveB = true) :
    Rep w0 (Fr.of X) ((objsAt H ks).map (smlO (objsAt H ks) ks)) (smlE E ks) w ∧ ∀ b, Xo (Fr.of X) (smlE E ks) ((objsAt H ks).map (smlO (objsAt H ks) ks)) b → Xo (Fr.of X) E H b := by
  have hv := h.verOK ha
  have hx : ∀ b, Xo (Fr.of X) (smlE E ks) ((objsAt H ks).map (smlO (objsAt H ks) ks)) b → Xo (Fr.of X) E H b := by
    rintro b (hb | ⟨i, e, he, hh⟩)
    · exact .inl hb
    · obtain ⟨k, e0, hk, he0, hh0⟩ := smlE_holds he hh
      exact .inr ⟨k, e0, he0, hh0⟩
  refine ⟨⟨h.below, h.x0, fun i e he => (nomatch he), fun i e he => ?_, fun i e he => ?_, fun i e b he hb => ?_, fun i i' e e' b he he' hb hb' => ?_⟩, hx⟩
  · obtain ⟨k, hk, _⟩ := smlE_inv he
    rw [List.length_map, objsAt, List.length_map]
    exact (List.getElem?_eq_some_iff.1 hk).1
  · obtain ⟨k, hk, h2⟩ := smlE_inv he
    have hget : (List.map (smlO (objsAt H ks) ks) (objsAt H ks)).getD i .dead = smlO (objsAt H ks) ks (H.getD k .dead) := by
      rw [List.getD_eq_getElem?_getD, List.getElem?_map, objsAt, List.getElem?_map, hk]; rfl
    rw [hget]
    rcases h2 with ⟨b, hb, rfl⟩ | ⟨ver, v, us, hb, rfl⟩
    · exact (EIok_sml hx hv).1 (h.ok k _ hb)
    · exact (EIok_sml hx hv).2 (h.ok k _ hb)
  · obtain ⟨k, e0, hk, he0, hh0⟩ := smlE_holds he hb
    exact h.low k e0 b he0 hh0
  · obtain ⟨k, e0, hk, he0, hh0⟩ := smlE_holds he hb
    obtain ⟨k', e1, hk', he1, hh1⟩ := smlE_holds he' hb'
    have := h.inj k k' e0 e1 b he0 he1 hh0 hh1
    subst this
    have h1 := posOf_of hn hk
    rw [posOf_of hn hk'] at h1
    exact (Option.some.inj h1).symm
theorem Goes.of_new {w0 X0 H E w nm} (h : Rep w0 X0 H E w) {row : SO} (hf : Free H E nm (.new (bigO [.dead] [nm] 0 row))) {Es : Env} {w' : World} (hs : Rep w (Fr.of (Xo X0 E H)) [row] Es w') {res : SV} {v : Value}
    (hr : R w' (Xo (Fr.of (Xo X0 E H)) Es [row]) Es res v) : Goes w0 X0 H E w nm (.new (bigO [.dead] [nm] 0 row)) (big [.dead] [nm] res) v w' := by
  have hb := hs.below.all
  obtain ⟨f1, f2, f3⟩ := hf _ rfl
  cases he : Es 0 with
  | none =>
    refine ⟨E, Env.le_refl _, Rep.keeps hb, Within.refl _ _, h.world hb, R_big (fun b hb => .inl hb) (fun i k b hk he' => ?_) (fun i k ver v us hk he' => ?_) hr, fun k hk => .inl hk⟩
    · cases i with
      | zero => rw [he] at he'; cases he'
      | succ i => cases hk
    · cases i with
      | zero => rw [he] at he'; cases he'
      | succ i => cases hk
  | some e =>
    have hhold : ∀ b, holds e (bigO [.dead] [nm] 0 row) b → holds e row b := by
      intro b hb
      cases e with
      | blk b0 => rw [(holds_big _).1] at hb; exact hb
      | slc ver v us => rw [(holds_big _).2 v us ver ver] at hb; exact hb
    have hok := hs.ok 0 e he
    have hrow : [row].getD 0 SO.dead = row := rfl
    rw [hrow] at hok
    have hx : ∀ b, Xo X0 (E.put nm e) H b → Xo (Fr.of (Xo X0 E H)) Es [row] b := by
      rintro b (hb | ⟨k, e', hk, hh⟩)
      · exact .inl (.inl hb)
      · by_cases hkn : k = nm
        · subst hkn
          rw [Env.put_same] at hk
          cases hk
          rw [f3] at hh
          exact .inr ⟨0, e, he, hhold b hh⟩
        · rw [Env.put_ne hkn] at hk
          exact .inl (.inr ⟨k, e', hk, hh⟩)
    have n1 : ∀ i k b, ([nm] : List Nat)[i]? = some k → Es i = some (.blk b) → (E.put nm e) k = some (.blk b) := by
      intro i k b hk he'
      cases i with
      | zero => cases hk; rw [he] at he'; cases he'; exact Env.put_same _ _ _
      | succ i => cases hk
    have n2 : ∀ i k ver v us, ([nm] : List Nat)[i]? = some k → Es i = some (.slc ver v us) → (E.put nm e) k = some (.slc (verO (([.dead] : List SO).getD i .dead) + ver) v us) := by
      intro i k ver v us hk he'
      cases i with
      | zero =>
        cases hk
        rw [he] at he'
        cases he'
        rw [Env.put_same]
        show some (EI.slc ver v us) = some (EI.slc (0 + ver) v us)
        rw [Nat.zero_add]
      | succ i => cases hk
    have hokn : EIok w' (Xo X0 (E.put nm e) H) (E.put nm e) e (bigO [.dead] [nm] 0 row) := by
      have weak : ∀ {s : SV} {u : Value}, R w' (Xo (Fr.of (Xo X0 E H)) Es [row]) E0 s u → R w' (Xo X0 (E.put nm e) H) E0 s u := fun hr => hr.mono (fun _ _ _ => rfl) (fun b _ hb => hx b hb) (Env.le_refl _)
      cases e with
      | blk b0 =>
        cases row with
        | dead => trivial
        | cells n g T =>
          obtain ⟨vs, h1, h2, h3⟩ := hok
          exact ⟨vs, h1, h2, fun j hj => ⟨(h3 j hj).1, R_big hx n1 n2 (h3 j hj).2⟩⟩
        | scells n g =>
          obtain ⟨vs, T, fr, h1, h2, h3, h4⟩ := hok
          exact ⟨vs, T, fr, h1, fun hc => h2 (hx _ hc), h3, fun j hj => ⟨(h4 j hj).1, weak (h4 j hj).2⟩⟩
        | row => exact hok
        | srow => exact hok
        | deep => exact hok
        | mpi => exact hok
        | mps => exact hok
      | slc ver v us =>
        cases row with
        | dead => trivial
        | cells => exact hok
        | scells => exact hok
        | mpi kk tot has val =>
          obtain ⟨hz, b1, es, clock, h1, h2, h3⟩ := hok
          exact ⟨hz, b1, es, clock, h1, h2, h3.over hx⟩
        | mps kd has c m p T' ho =>
          obtain ⟨hz, b1, es, clock, h1, h2, d⟩ := hok
          exact ⟨hz, b1, es, clock, h1, h2, d.over hx _ fun s u hu => R_big hx n1 n2 hu⟩
        | row ver' len n g T =>
          obtain ⟨rfl, xs, h2, h3⟩ := hok
          exact ⟨(Nat.zero_add _).symm, xs, h2, fun i j hi hj => ⟨(h3 i j hi hj).1, weak (h3 i j hi hj).2⟩⟩
        | srow ver' len n g =>
          obtain ⟨rfl, h2⟩ := hok
          exact ⟨(Nat.zero_add _).symm, weak h2⟩
        | deep ver' len n c m p g T T' ho =>
          obtain ⟨rfl, xs, d⟩ := hok
          refine ⟨(Nat.zero_add _).symm, xs, d.map hx (fun i hi => by rwa [hoAt_map_none] at hi) (fun i sv' hi => ?_)⟩
          rw [hoAt_map] at hi
          cases hh : hoAt ho i with
          | none => rw [hh] at hi; cases hi
          | some sv =>
            rw [hh] at hi
            cases hi
            exact ⟨sv, rfl, fun u hu => R_big hx n1 n2 hu⟩
    obtain ⟨g1, g2⟩ := h.new (e := e) f1 f2 hb (fun b hb' => by
      rw [f3] at hb'
      rcases hs.low 0 e b he (hhold b hb') with h4 | h4
      · exact h4
      · exact h4.elim) (by rw [f3]; exact hokn)
    refine ⟨E.put nm e, Env.le_put f1, Rep.keeps hb, g2, g1, R_big hx n1 n2 hr, fun k hk => ?_⟩
    by_cases hkn : k = nm
    · exact .inr ⟨hkn, _, rfl⟩
    · rw [Env.put_ne hkn] at hk; exact .inl hk
/-! A function that hands out several new objects. -/
def deads (n : Nat) : List SO := (List.range n).map fun _ => .dead
def namesFrom (d n : Nat) : List Nat := (List.range n).map fun i => d + i
theorem namesFrom_get {d n i k : Nat} (h : (namesFrom d n)[i]? = some k) : i < n ∧ k = d + i := by
  unfold namesFrom at h
  rw [List.getElem?_map] at h
  cases hr : (List.range n)[i]? with
  | none => rw [hr] at h; cases h
  | some j =>
    rw [hr] at h
    cases h
    have hi := (List.getElem?_eq_some_iff.1 hr).1
    rw [List.length_range] at hi
    rw [List.getElem?_range hi] at hr
    cases hr
    exact ⟨hi, rfl⟩
theorem deads_get (n i : Nat) : verO ((deads n).getD i .dead) = 0 := by
  have : (deads n).getD i .dead = .dead := by
    unfold deads
    rw [List.getD_eq_getElem?_getD, List.getElem?_map]
    cases (List.range n)[i]? <;> rfl
  rw [this]; rfl
theorem GoesL.of {w0 X0 H E w} (h : Rep w0 X0 H E w) {rows : List SO} {Es : Env} {w' : World} (hs : Rep w (Fr.of (Xo X0 E H)) rows Es w') {res : SV} {v : Value} (hr : R w' (Xo (Fr.of (Xo X0 E H)) Es rows) Es res v) :
    GoesL w0 X0 H E w (rows.map (bigO (deads rows.length) (namesFrom H.length rows.length) 0)) (big (deads rows.length) (namesFrom H.length rows.length) res) v w' := by
  have hb := hs.below.all
  generalize hE : (fun k => if k < H.length then E k else Es (k - H.length) : Env) = E'
  generalize hN : rows.map (bigO (deads rows.length) (namesFrom H.length rows.length) 0) = new
  have old : ∀ {k}, k < H.length → E' k = E k := fun hk => by rw [← hE]; exact if_pos hk
  have nw : ∀ i, E' (H.length + i) = Es i := fun i => by
    rw [← hE]
    show (if H.length + i < H.length then E (H.length + i) else Es (H.length + i - H.length)) = Es i
    rw [if_neg (by omega), Nat.add_sub_cancel_left]
  have split : ∀ k, k < H.length ∨ ∃ i, k = H.length + i := fun k => by
    by_cases hk : k < H.length
    · exact .inl hk
    · exact .inr ⟨k - H.length, by omega⟩
  have hlen : new.length = rows.length := by rw [← hN, List.length_map]
  have getOld : ∀ {k}, k < H.length → (H ++ new).getD k .dead = H.getD k .dead := fun hk => getD_append_left hk
  have getNew : ∀ {i}, i < rows.length → (H ++ new).getD (H.length + i) .dead = bigO (deads rows.length) (namesFrom H.length rows.length) 0 (rows.getD i .dead) := fun {i} hi => by
    rw [List.getD_eq_getElem?_getD, List.getElem?_append_right (by omega), Nat.add_sub_cancel_left, ← hN, List.getElem?_map, List.getD_eq_getElem?_getD, List.getElem?_eq_getElem hi]
    rfl
  have hhold : ∀ {e : EI} {row : SO} {b : Nat}, holds e (bigO (deads rows.length) (namesFrom H.length rows.length) 0 row) b → holds e row b := by
    intro e row b hb
    cases e with
    | blk b0 => rw [(holds_big _).1] at hb; exact hb
    | slc ver v us => rw [(holds_big _).2 v us ver ver] at hb; exact hb
  have hx : ∀ b, Xo X0 E' (H ++ new) b → Xo (Fr.of (Xo X0 E H)) Es rows b := by
    rintro b (hb | ⟨k, e, hk, hh⟩)
    · exact .inl (.inl hb)
    · rcases split k with hkl | ⟨i, rfl⟩
      · rw [old hkl] at hk
        rw [getOld hkl] at hh
        exact .inl (.inr ⟨k, e, hk, hh⟩)
      · rw [nw] at hk
        rw [getNew (hs.dom _ _ hk)] at hh
        exact .inr ⟨i, e, hk, hhold hh⟩
  have hw : Within (Xo X0 E H) (Xo X0 E' (H ++ new)) w := by
    intro b hlt hbx
    rcases hx b hbx with h1 | ⟨i, e, he, hh⟩
    · exact h1
    · rcases hs.low i e b he hh with h4 | h4
      · omega
      · exact h4.elim
  have le : E.le E' := ⟨fun k b hk => by rw [old (h.dom _ _ hk)]; exact hk, fun k ver v us hk => ⟨ver, v, us, by rw [old (h.dom _ _ hk)]; exact hk, Nat.le_refl _, fun _ => rfl⟩⟩
  have n1 : ∀ i k b, (namesFrom H.length rows.length)[i]? = some k → Es i = some (.blk b) → E' k = some (.blk b) := fun i k b hk he => by
    obtain ⟨_, rfl⟩ := namesFrom_get hk
    rw [nw]; exact he
  have n2 : ∀ i k ver v us, (namesFrom H.length rows.length)[i]? = some k → Es i = some (.slc ver v us) → E' k = some (.slc (verO ((deads rows.length).getD i .dead) + ver) v us) := fun i k ver v us hk he => by
    obtain ⟨_, rfl⟩ := namesFrom_get hk
    rw [nw, he, deads_get, Nat.zero_add]
  have okn : ∀ {e : EI} {row : SO}, EIok w' (Xo (Fr.of (Xo X0 E H)) Es rows) Es e row → EIok w' (Xo X0 E' (H ++ new)) E' e (bigO (deads rows.length) (namesFrom H.length rows.length) 0 row) := by
    intro e row hok
    have weak : ∀ {s : SV} {u : Value}, R w' (Xo (Fr.of (Xo X0 E H)) Es rows) E0 s u → R w' (Xo X0 E' (H ++ new)) E0 s u := fun hr => hr.mono (fun _ _ _ => rfl) (fun b _ hb => hx b hb) (Env.le_refl _)
    cases e with
    | blk b0 =>
      cases row with
      | dead => trivial
      | cells n g T =>
        obtain ⟨vs, h1, h2, h3⟩ := hok
        exact ⟨vs, h1, h2, fun j hj => ⟨(h3 j hj).1, R_big hx n1 n2 (h3 j hj).2⟩⟩
      | scells n g =>
        obtain ⟨vs, T, fr, h1, h2, h3, h4⟩ := hok
        exact ⟨vs, T, fr, h1, fun hc => h2 (hx _ hc), h3, fun j hj => ⟨(h4 j hj).1, weak (h4 j hj).2⟩⟩
      | row => exact hok
      | srow => exact hok
      | deep => exact hok
      | mpi => exact hok
      | mps => exact hok
    | slc ver v us =>
      cases row with
      | dead => trivial
      | cells => exact hok
      | scells => exact hok
      | mpi kk tot has val =>
        obtain ⟨hz, b1, es, clock, h1, h2, h3⟩ := hok
        exact ⟨hz, b1, es, clock, h1, h2, h3.over hx⟩
      | mps kd has c m p T' ho =>
        obtain ⟨hz, b1, es, clock, h1, h2, d⟩ := hok
        exact ⟨hz, b1, es, clock, h1, h2, d.over hx _ fun s u hu => R_big hx n1 n2 hu⟩
      | row ver' len n g T =>
        obtain ⟨rfl, xs, h2, h3⟩ := hok
        exact ⟨(Nat.zero_add _).symm, xs, h2, fun i j hi hj => ⟨(h3 i j hi hj).1, weak (h3 i j hi hj).2⟩⟩
      | srow ver' len n g =>
        obtain ⟨rfl, h2⟩ := hok
        exact ⟨(Nat.zero_add _).symm, weak h2⟩
      | deep ver' len n c m p g T T' ho =>
        obtain ⟨rfl, xs, d⟩ := hok
        refine ⟨(Nat.zero_add _).symm, xs, d.map hx (fun i hi => by rwa [hoAt_map_none] at hi) (fun i sv' hi => ?_)⟩
        rw [hoAt_map] at hi
        cases hh : hoAt ho i with
        | none => rw [hh] at hi; cases hi
        | some sv =>
          rw [hh] at hi
          cases hi
          exact ⟨sv, rfl, fun u hu => R_big hx n1 n2 hu⟩
  have newb : ∀ {i e b}, Es i = some e → holds e ((H ++ new).getD (H.length + i) .dead) b → w.heap.size ≤ b := fun {i e b} he hh => by
    rw [getNew (hs.dom _ _ he)] at hh
    rcases hs.low i e b he (hhold hh) with h4 | h4
    · exact h4
    · exact h4.elim
  have oldb : ∀ {k e b}, E k = some e → holds e (H.getD k .dead) b → b < w.heap.size := fun he hh => holds_lt (h.ok _ _ he) hh
  refine ⟨E', le, Rep.keeps hb, hw, ⟨h.below.below hb, h.x0, fun k e hk => (h.nm k e hk).le le, fun k e hk => ?_, fun k e hk => ?_, fun k e b hk hh => ?_, fun k k' e e' b hk hk' hh hh' => ?_⟩, R_big hx n1 n2 hr⟩
  · rw [List.length_append, hlen]
    rcases split k with hkl | ⟨i, rfl⟩
    · omega
    · rw [nw] at hk
      have := hs.dom _ _ hk
      omega
  · rcases split k with hkl | ⟨i, rfl⟩
    · rw [old hkl] at hk
      rw [getOld hkl]
      exact (h.ok k e hk).mono (Rep.keeps hb) hw le fun b hh' => hb.block b (oldb hk hh')
    · rw [nw] at hk
      rw [getNew (hs.dom _ _ hk)]
      exact okn (hs.ok i e hk)
  · rcases split k with hkl | ⟨i, rfl⟩
    · rw [old hkl] at hk
      rw [getOld hkl] at hh
      exact h.low k e b hk hh
    · rw [nw] at hk
      have := newb hk hh
      have := h.below.size
      exact .inl (by omega)
  · rcases split k with hkl | ⟨i, rfl⟩
    · rw [old hkl] at hk
      rw [getOld hkl] at hh
      rcases split k' with hkl' | ⟨i', rfl⟩
      · rw [old hkl'] at hk'
        rw [getOld hkl'] at hh'
        exact h.inj k k' e e' b hk hk' hh hh'
      · rw [nw] at hk'
        have := newb hk' hh'
        have := oldb hk hh
        omega
    · rw [nw] at hk
      rcases split k' with hkl' | ⟨i', rfl⟩
      · rw [old hkl'] at hk'
        rw [getOld hkl'] at hh'
        have := newb hk hh
        have := oldb hk' hh'
        omega
      · rw [nw] at hk'
        rw [getNew (hs.dom _ _ hk)] at hh
        rw [getNew (hs.dom _ _ hk')] at hh'
        rw [hs.inj i i' e e' b hk hk' (hhold hh) (hhold hh')]
/-- res, rows: the new objects' names are 0, 1, .. in them. -/
def mkNS (f : FuncId) {γ : Type} (dec : List SV → Option γ) (args : γ → List SV) (pre : γ → Prop) (res : γ → SV) (rows : γ → List SO) : NSpec :=
  ⟨f, fun l => match l.all (isPure 6) with
    | true => match dec l with
      | some g => some (mkSpec.leArgs l (args g) ∧ Ask (pre g), fun d => big (deads (rows g).length) (namesFrom d (rows g).length) (res g), fun d => (rows g).map (bigO (deads (rows g).length) (namesFrom d (rows g).length) 0))
      | none => none
    | false => none⟩
/-- ks: the new objects' names within the function. -/
def vcResK (P : Program) (fn : Func) (ks : List Nat) (res : SV) (rows : List SO) (s : St) : Prop :=
  match resS P fn.ntmps s fn.results.toList with
  | some (p, l) => p ∧ match nodupB ks && (objsAt s.H ks).all aliveB with
    | true => StLe ⟨[(0, sml (objsAt s.H ks) ks (oneOf l))], (objsAt s.H ks).map (smlO (objsAt s.H ks) ks)⟩ ⟨[(0, res)], rows⟩
    | false => False
  | none => False
def retKs (P : Program) (fn : Func) (ks : List Nat) (res : SV) (rows : List SO) : SK
  | .exit _, _ => False
  | _, s => vcResK P fn ks res rows s
/-- res, row: the new object's name is 0 in them. -/
def mkSpecN (f : FuncId) {γ : Type} (dec : List SV → Option γ) (args : γ → List SV) (pre : γ → Prop) (res : γ → SV) (row : γ → SO) : FSpec :=
  ⟨f, false, fun l _ nm => match l.all (isPure 6) with
    | true => match dec l with
      | some g => some ⟨mkSpec.leArgs l (args g) ∧ Ask (pre g), big [.dead] [nm] (res g), .new (bigO [.dead] [nm] 0 (row g))⟩
      | none => none
    | false => none⟩
/-- k: the new object's name within the function. -/
def vcResN (P : Program) (fn : Func) (k : Nat) (res : SV) (row : SO) (s : St) : Prop :=
  match resS P fn.ntmps s fn.results.toList with
  | some (p, l) => p ∧ match aliveB (s.H.getD k .dead) with
    | true => StLe ⟨[(0, sml (objsAt s.H [k]) [k] (oneOf l))], (objsAt s.H [k]).map (smlO (objsAt s.H [k]) [k])⟩ ⟨[(0, res)], [row]⟩
    | false => False
  | none => False
def retN (P : Program) (fn : Func) (k : Nat) (res : SV) (row : SO) : SK
  | .exit _, _ => False
  | _, s => vcResN P fn k res row s
theorem spec_soundN {P : Program} {specs : List FSpec} (hspecs : ∀ s ∈ specs, SpecOK P s) {eqs : List (TypeId × List CK)} (heqs : ∀ t n, (t, n) ∈ eqs → EqOK P t n) (hm : P.follows .mixedOrders = true)
    {f : FuncId} {fn : Func} {body : Code} (hf : P.funcs[f]? = some fn) (hb : fn.body = some body) (_ : codeB (effS specs) body = true) (hent : ∀ args w, (callFunc f args).run P w = .ok (.enter f args) w)
    {γ : Type} {dec : List SV → Option γ} {args : γ → List SV} {pre : γ → Prop} {res : γ → SV} {row : γ → SO} (A : γ → Ann) (k : γ → Nat) (hlen : ∀ g, (args g).length ≤ fn.ntmps)
    (h : ∀ g, pre g → vc P specs eqs fn.ntmps 0 false (A g) body (retN P fn (k g) (res g) (row g)) ⟨argsT 0 (args g), []⟩) : SpecOK P (mkSpecN f dec args pre res row) := by
  refine ⟨hent, fun args H HF nm y _ _ h => h, fun l H nm y hrun hp w0 X0 E w hrep hfree vals ha => ?_⟩
  simp only [mkSpecN] at hrun
  split at hrun
  case h_2 => cases hrun
  rename_i hpu
  split at hrun
  case h_2 => cases hrun
  rename_i g hdec
  cases hrun
  obtain ⟨hle, ⟨hpre⟩⟩ := hp
  obtain ⟨hll, hle⟩ := leArgs_get hle
  have hr := args_pure ha hpu
  have hsz := ha.1
  have hxo : Xo (Fr.of (Xo X0 E H)) E0 [] = Xo X0 E H := by
    funext b
    apply propext
    exact ⟨fun hb => hb.elim id (fun ⟨k, e, he, _⟩ => (nomatch he)), fun hb => Or.inl hb⟩
  have hT := argsT_look fn.ntmps vals (args g) w (Xo X0 E H) E0 (by omega) (hlen g) (fun i hi => pureR (fun _ hb => hb) (hle i hi) (hr i (by omega)))
  refine calls_of_vc (w0 := w) (X0 := Fr.of (Xo X0 E H)) (G := vcResN P fn (k g) (res g) (row g)) hf hb (vc_sound (w0 := w) (X0 := Fr.of (Xo X0 E H)) hspecs heqs hm body (.inl rfl) (fun _ => rfl) (fun k hk => absurd rfl hk) _ _ _ _ (h g hpre) (fun e s a w' hk hs => ?walk) _ w ?start) (fun s a w' hk _ hs => ?fin)
  case walk =>
    cases e with
    | normal => exact ⟨s, hk, hs⟩
    | ret => exact ⟨s, hk, hs⟩
    | exit id => exact hk.elim
  case fin =>
      obtain ⟨E1, hrep1, htr⟩ := hs
      unfold vcResN at hk
      split at hk
      case h_2 => exact hk.elim
      rename_i p l hres
      obtain ⟨hp, hk⟩ := hk
      obtain ⟨v, hv1, hv2⟩ := results_sound rfl hrep1 htr hres hp
      split at hk
      case h_2 => exact hk.elim
      rename_i hal
      have hal' : (objsAt s.H [k g]).all aliveB = true := by simp only [objsAt, List.map_cons, List.map_nil, List.all_cons, hal, List.all_nil, Bool.and_self]
      obtain ⟨p1, p2⟩ := hrep1.pick (ks := [k g]) rfl hal'
      obtain ⟨p3, p4⟩ := p1.le (m := 0) hk.2 (fun k hk => absurd rfl hk) (by simp [NmLe, Nat.ble_eq_true_of_le (Nat.zero_le _)])
      have hsv := SVle_sound p4 (fun k ver v us he ver' hr => EIok_ver (p1.ok k _ he) hr) (tmpLe_get hk.1 0) (R_sml p2 (hrep1.verOK hal') hv2)
      exact ⟨v, hv1, v, rfl, Goes.of_new hrep hfree p3 hsv⟩
  case start =>
    refine ⟨E0, ⟨Bel.refl _ _, fun b hb => ⟨hrep.xlt b hb, id⟩, fun k e he => (nomatch he), fun k e he => (nomatch he), fun k e he => (nomatch he), fun k e b he => (nomatch he), fun k k' e e' b he => (nomatch he)⟩, hT.1, DefOK.nil _ _ _, fun t ht => ?_⟩
    rw [hxo]
    exact hT.2 t ht
theorem spec_soundNS {P : Program} {specs : List FSpec} (hspecs : ∀ s ∈ specs, SpecOK P s) {eqs : List (TypeId × List CK)} (heqs : ∀ t n, (t, n) ∈ eqs → EqOK P t n) (hm : P.follows .mixedOrders = true)
    {f : FuncId} {fn : Func} {body : Code} (hf : P.funcs[f]? = some fn) (hb : fn.body = some body) (_ : codeB (effS specs) body = true) (hent : ∀ args w, (callFunc f args).run P w = .ok (.enter f args) w)
    {γ : Type} {dec : List SV → Option γ} {args : γ → List SV} {pre : γ → Prop} {res : γ → SV} {rows : γ → List SO} (A : γ → Ann) (ks : γ → List Nat) (hlen : ∀ g, (args g).length ≤ fn.ntmps)
    (h : ∀ g, pre g → vc P specs eqs fn.ntmps 0 false (A g) body (retKs P fn (ks g) (res g) (rows g)) ⟨argsT 0 (args g), []⟩) : NewsOK P (mkNS f dec args pre res rows) := by
  refine ⟨hent, fun l p rs new hrun hp w0 X0 H E w hrep vals ha => ?_⟩
  simp only [mkNS] at hrun
  split at hrun
  case h_2 => cases hrun
  rename_i hpu
  split at hrun
  case h_2 => cases hrun
  rename_i g hdec
  cases hrun
  obtain ⟨hle, ⟨hpre⟩⟩ := hp
  obtain ⟨hll, hle⟩ := leArgs_get hle
  have hr := args_pure ha hpu
  have hsz := ha.1
  have hxo : Xo (Fr.of (Xo X0 E H)) E0 [] = Xo X0 E H := by
    funext b
    apply propext
    exact ⟨fun hb => hb.elim id (fun ⟨k, e, he, _⟩ => (nomatch he)), fun hb => Or.inl hb⟩
  have hT := argsT_look fn.ntmps vals (args g) w (Xo X0 E H) E0 (by omega) (hlen g) (fun i hi => pureR (fun _ hb => hb) (hle i hi) (hr i (by omega)))
  refine calls_of_vc (w0 := w) (X0 := Fr.of (Xo X0 E H)) (G := vcResK P fn (ks g) (res g) (rows g)) hf hb (vc_sound (w0 := w) (X0 := Fr.of (Xo X0 E H)) hspecs heqs hm body (.inl rfl) (fun _ => rfl) (fun k hk => absurd rfl hk) _ _ _ _ (h g hpre) (fun e s a w' hk hs => ?walk) _ w ?start) (fun s a w' hk _ hs => ?fin)
  case walk =>
    cases e with
    | normal => exact ⟨s, hk, hs⟩
    | ret => exact ⟨s, hk, hs⟩
    | exit id => exact hk.elim
  case fin =>
      obtain ⟨E1, hrep1, htr⟩ := hs
      unfold vcResK at hk
      split at hk
      case h_2 => exact hk.elim
      rename_i p0 l0 hres
      obtain ⟨hp, hk⟩ := hk
      obtain ⟨v, hv1, hv2⟩ := results_sound rfl hrep1 htr hres hp
      split at hk
      case h_2 => exact hk.elim
      rename_i hal
      rw [Bool.and_eq_true] at hal
      obtain ⟨p1, p2⟩ := hrep1.pick (ks := ks g) hal.1 hal.2
      obtain ⟨p3, p4⟩ := p1.le (m := 0) hk.2 (fun k hk => absurd rfl hk) (by simp [NmLe, Nat.ble_eq_true_of_le (Nat.zero_le _)])
      have hsv := SVle_sound p4 (fun k ver v us he ver' hr => EIok_ver (p1.ok k _ he) hr) (tmpLe_get hk.1 0) (R_sml p2 (hrep1.verOK hal.2) hv2)
      exact ⟨v, hv1, v, rfl, GoesL.of hrep p3 hsv⟩
  case start =>
    refine ⟨E0, ⟨Bel.refl _ _, fun b hb => ⟨hrep.xlt b hb, id⟩, fun k e he => (nomatch he), fun k e he => (nomatch he), fun k e he => (nomatch he), fun k e b he => (nomatch he), fun k k' e e' b he => (nomatch he)⟩, hT.1, DefOK.nil _ _ _, fun t ht => ?_⟩
    rw [hxo]
    exact hT.2 t ht
/-! A call that is handed what is the caller's own: this is given away for reading. -/
def purAll (H : List SO) : List SV → Option (List SV)
  | [] => some []
  | s :: r => match pur H 6 s with
    | some s' => match purAll H r with
      | some r' => some (s' :: r')
      | none => none
    | none => none
def giv (s : FSpec) : FSpec := ⟨s.f, true, fun l H nm => match frzAll H (l.flatMap (needs H 6)) with
  | some fl => forceH (applyS H fl) fun H' => match purAll H' l with
    | some l' => match s.run l' H' nm with
      | some y => match y.eff with
        | .keep => some ⟨y.ask, y.val, .sets fl⟩
        | _ => none
      | none => none
    | none => none
  | none => none⟩
theorem purAll_sound {w0 X0 H E w} (h : Rep w0 X0 H E w) : ∀ {l l' : List SV}, purAll H l = some l' → l'.length = l.length ∧ ∀ i v, i < l.length → R w (Xo X0 E H) E (l.getD i .any) v → R w (Xo X0 E H) E (l'.getD i .any) v
  | [], l', hp => by cases hp; exact ⟨rfl, fun i v hi => absurd hi (Nat.not_lt_zero _)⟩
  | s :: r, l', hp => by
    simp only [purAll] at hp
    split at hp
    case h_2 => cases hp
    rename_i s' hs
    split at hp
    case h_2 => cases hp
    rename_i r' hr
    cases hp
    obtain ⟨h1, h2⟩ := purAll_sound h hr
    refine ⟨by simp [h1], fun i v hi hv => ?_⟩
    cases i with
    | zero => exact up (pur_sound h 6 _ _ _ hs hv)
    | succ i => exact h2 i v (by simpa using hi) hv
theorem giv_at {P : Program} {w0 : World} {X0 : Fr} {s : FSpec} (hs : SpecAt P w0 X0 s) : SpecAt P w0 X0 (giv s) := by
  refine ⟨hs.1, fun l H HF nm y _ hns hrun => ?_, fun l H nm y hrun hask E w hrep hfree vals ha => ?_⟩
  · exfalso
    simp only [giv] at hrun
    split at hrun
    case h_2 => cases hrun
    rw [forceH_eq] at hrun
    split at hrun
    case h_2 => cases hrun
    split at hrun
    case h_2 => cases hrun
    split at hrun
    case h_2 => cases hrun
    cases hrun
    exact hns _ rfl
  · simp only [giv] at hrun
    split at hrun
    case h_2 => cases hrun
    rename_i fl hfl
    rw [forceH_eq] at hrun
    split at hrun
    case h_2 => cases hrun
    rename_i l' hl'
    split at hrun
    case h_2 => cases hrun
    rename_i y' hy'
    split at hrun
    case h_2 => cases hrun
    rename_i hkeep
    cases hrun
    obtain ⟨g1, g2⟩ := frzAll_sound _ _ _ hrep hfl
    obtain ⟨p1, p2⟩ := purAll_sound g1 hl'
    refine (hs.2.2 l' (applyS H fl) nm y' hy' hask E w g1 (fun so hso => by rw [hkeep] at hso; cases hso) vals ⟨by rw [p1]; exact ha.1, fun i hi => ?_⟩).mono ?_
    · rw [p1] at hi
      exact p2 i _ hi ((ha.2 i hi).mono (fun _ _ _ => rfl) g2 (Env.le_refl _))
    · rintro e w' ⟨v, rfl, E', le, hk, hx, hr, hv, hE⟩
      rw [hkeep] at hx hr hv hE
      exact ⟨v, rfl, E', le, fun b hlt hb => hk b hlt fun hc => hb (g2 b hlt hc), g2.trans hx, hr, hv, fun k hk => (hE k hk).elim .inl fun ⟨_, so, hso⟩ => by cases hso⟩
theorem giv_ok {P : Program} {s : FSpec} (hs : SpecOK P s) : SpecOK P (giv s) := specOK_of_at fun w0 X0 => giv_at (hs.at w0 X0)
theorem giv_g {Γ : World → Fr → Prop} {P : Program} {s : FSpec} (hs : SpecG Γ P s) : SpecG Γ P (giv s) := fun w0 X0 h => giv_at (hs w0 X0 h)
/-! A call that is handed what is the caller's own, for reading alone: it stays the caller's, since the answer refers to nothing. -/
def scalB : Nat → SV → Bool
  | 0, _ => false
  | f + 1, sv => match sv with
    | .int .. => true
    | .bool _ => true
    | .lit _ => true
    | .str _ => true
    | .tup n g => (List.range n).all fun i => scalB f (g i)
    | _ => false
theorem scal_sound {w w' : World} {X X' : Nat → Prop} {E E' : Env} : ∀ (f : Nat) (sv : SV) (v : Value), scalB f sv = true → R w X E sv v → R w' X' E' sv v
  | 0, _, _, h, _ => by cases h
  | f + 1, sv, v, h, hr => by
    cases hr with
    | int => exact .int
    | bool => exact .bool
    | lit => exact .lit
    | str => exact .str
    | tup hs hr => exact .tup hs fun i hi => scal_sound f _ _ (all_range h hi) (hr i hi)
    | _ => simp [scalB] at h
/-- As data that names nothing of the call's own: read where it lies. -/
def peek (H : List SO) (sv : SV) : Option SV := match sv with
    | .own k off => match H.getD k .dead with
      | .scells n g => if off ≤ n then some (.ref (n - off) (fun j => g (off + j))) else none
      | .cells n g _ => if off ≤ n ∧ (List.range n).all (fun i => isPure 6 (g i)) = true then some (.ref (n - off) (fun j => g (off + j))) else none
      | _ => none
    | .osl k ver => match H.getD k .dead with
      | .srow ver' len n g => if ver = ver' then some (.sl len n g) else none
      | .row ver' len n g _ => if ver = ver' then some (.sl len n g) else none
      | .deep ver' len n c m p g _ _ ho => match ho with
        | none => if ver = ver' then some (.sl len n (deepG c m p g)) else none
        | some _ => none
      | _ => none
    | .ownAt .. => none
    | .win k ver n lo len => match H.getD k .dead with
      | .srow ver' _ n' g => if ver = ver' ∧ n = n' then some (.sl len n (fun i j => g (lo + i) j)) else none
      | .row ver' _ n' g _ => if ver = ver' ∧ n = n' then some (.sl len n (fun i j => g (lo + i) j)) else none
      | .deep ver' _ n' c m p g _ _ ho => match ho with
        | none => if ver = ver' ∧ n = n' then some (.sl len n (fun i j => deepG c m p g (lo + i) j)) else none
        | some _ => none
      | _ => none
    | s => match isPure 6 s with
      | true => some s
      | false => none
/-- What is read of a slice, where it lies. -/
theorem slc_sl {w0 X0 H E w} (h : Rep w0 X0 H E w) {k ver : Nat} {v : Value} {us : Nat → Option Nat} (he : E k = some (.slc ver v us)) {ver' len n : Nat} {G : Nat → Nat → SV}
    (hs : (∃ g T, H.getD k .dead = .row ver' len n g T ∧ G = g) ∨ (∃ g, H.getD k .dead = .srow ver' len n g ∧ G = g) ∨ ∃ c m p g T T', H.getD k .dead = .deep ver' len n c m p g T T' none ∧ G = deepG c m p g) :
    ver = ver' ∧ R w (fun _ => False) E0 (.sl len n G) v := by
  have hok := h.ok k _ he
  have weak : ∀ {s : SV} {v : Value}, R w (Xo X0 E H) E0 s v → R w (fun _ => False) E0 s v := fun h => h.mono (fun _ _ _ => rfl) (fun b _ hb => hb.elim) (Env.le_refl _)
  rcases hs with ⟨g, T, hk, rfl⟩ | ⟨g, hk, rfl⟩ | ⟨c, m, p, g, T, T', hk, rfl⟩ <;> rw [hk] at hok
  · obtain ⟨h1, xs, h2, h3⟩ := hok
    exact ⟨h1, h2.toSl (T := T) (fun b _ hb => hb) fun i j hi hj => ⟨(h3 i j hi hj).1, weak (h3 i j hi hj).2⟩⟩
  · exact ⟨hok.1, weak hok.2⟩
  · obtain ⟨h1, xs, d⟩ := hok
    refine ⟨h1, d.own.toSl (T := T) (fun b _ hb => hb) fun i j hi hj => ?_⟩
    cases j with
    | succ j => exact ⟨(d.rest i (j + 1) hi (Nat.succ_pos _) hj).1, weak (d.rest i (j + 1) hi (Nat.succ_pos _) hj).2⟩
    | zero =>
      obtain ⟨g1, ys, g2, g3⟩ := d.inn i hi rfl
      rw [Nat.add_zero]
      refine ⟨?_, g2.toSl (T := T') (fun b _ hb => hb) fun i' j' hi' hj' => ⟨(g3 i' j' hi' hj').1, weak (g3 i' j' hi' hj').2⟩⟩
      obtain ⟨a, a2, a3, e⟩ := g2.slice
      rw [e]; rfl
theorem peek_sound {w0 X0 H E w} (h : Rep w0 X0 H E w) (sv sv' : SV) (v : Value) (hp : peek H sv = some sv') (hr : R w (Xo X0 E H) E sv v) : R w (fun _ => False) E0 sv' v := by
    have weak : ∀ {s : SV} {v : Value}, R w (Xo X0 E H) E0 s v → R w (fun _ => False) E0 s v := fun h => h.mono (fun _ _ _ => rfl) (fun b _ hb => hb.elim) (Env.le_refl _)
    have pu : ∀ {s : SV} {v : Value}, R w (Xo X0 E H) E s v → (match isPure 6 s with
      | true => some s
      | false => none) = some sv' → R w (fun _ => False) E0 sv' v := fun hr hp => by
      split at hp
      · rename_i hb; cases hp; exact weak (isPure_sound 6 _ _ hb hr)
      · cases hp
    have old : ∀ {k ver ver' v' us}, E k = some (.slc ver' v' us) → ver < ver' → ∀ {G : Nat → Nat → SV} {len n : Nat}, ((∃ g T, H.getD k .dead = .row ver len n g T ∧ G = g) ∨ (∃ g, H.getD k .dead = .srow ver len n g ∧ G = g) ∨ ∃ c m p g T T', H.getD k .dead = .deep ver len n c m p g T T' none ∧ G = deepG c m p g) → False := fun he hl G len n hs => by
      have := (slc_sl h he hs).1
      omega
    have win : ∀ {k ver n lo len a a0 len0 cap0 us len1} {G : Nat → Nat → SV}, E k = some (.slc ver (.slice a0 len0 cap0) us) → lo + len ≤ len0 → (len ≠ 0 → a = a0.map (·.add (lo * n))) →
        ((∃ g T, H.getD k .dead = .row ver len1 n g T ∧ G = g) ∨ (∃ g, H.getD k .dead = .srow ver len1 n g ∧ G = g) ∨ ∃ c m p g T T', H.getD k .dead = .deep ver len1 n c m p g T T' none ∧ G = deepG c m p g) →
        R w (fun _ => False) E0 (.sl len n (fun i j => G (lo + i) j)) (.slice a len (cap0 - lo)) := by
      intro k ver n lo len a a0 len0 cap0 us len1 G he hl ha hs
      have hr2 := (slc_sl h he hs).2
      by_cases hz : len = 0
      · subst hz; exact .sl0
      · cases hr2 with
        | sl0 => omega
        | sl hb hX hc hlc ho hr =>
          rename_i b o c T fr
          rw [ha hz]
          have hle := Nat.mul_le_mul_right n hl
          rw [Nat.add_mul] at hle
          have hadd : (some (⟨b, o, none⟩ : Addr)).map (·.add (lo * n)) = some ⟨b, o + lo * n, none⟩ := by rw [Option.map_some]; exact congrArg some (Addr.add_lit b o _)
          rw [hadd]
          have e1 : ∀ i j, o + lo * n + i * n + j = o + (lo + i) * n + j := fun i j => by rw [Nat.add_mul]; omega
          refine .sl hb hX (by omega) (by omega) (fun i j hi hj => ?_) fun i j hi hj => ?_
          · rw [e1]; exact ho _ _ (by omega) hj
          · rw [e1]; exact hr _ _ (by omega) hj
    cases hr with
    | any => exact pu .any hp
    | int => exact pu .int hp
    | bool => exact pu .bool hp
    | lit => exact pu .lit hp
    | str => exact pu .str hp
    | nilfn => exact pu .nilfn hp
    | cap0 => exact pu .cap0 hp
    | fn hs hr => exact pu (.fn hs hr) hp
    | agg hs ho hr => exact pu (.agg hs ho hr) hp
    | tup hs hr => exact pu (.tup hs hr) hp
    | sl0 => exact pu .sl0 hp
    | sl hb hX hc hl ho hr => exact pu (.sl hb hX hc hl ho hr) hp
    | ref hb hX hc ho hr => exact pu (.ref hb hX hc ho hr) hp
    | own he =>
      rename_i k off b
      simp only [peek] at hp
      have hok := h.ok k _ he
      generalize H.getD k .dead = so at hp hok
      cases so <;> simp only [reduceCtorEq] at hp
      · rename_i n g T
        obtain ⟨⟨ha, hall⟩, rfl⟩ := ite_some hp
        obtain ⟨vs, h1, h2, h3⟩ := hok
        exact .ref h1 (fun hb => hb) (by omega) (fun j hj => (h3 (off + j) (by omega)).1) fun j hj => weak (isPure_sound 6 _ _ (all_range hall (by omega)) (h3 (off + j) (by omega)).2)
      · rename_i n g
        obtain ⟨ha, rfl⟩ := ite_some hp
        obtain ⟨vs, T, fr, h1, h2, h3, h4⟩ := hok
        exact .ref h1 (fun hb => hb) (by omega) (fun j hj => (h4 (off + j) (by omega)).1) fun j hj => weak (h4 (off + j) (by omega)).2
    | osl he hv =>
      rename_i k ver us
      simp only [peek] at hp
      generalize hk : H.getD k .dead = so at hp
      cases so <;> simp only [reduceCtorEq] at hp
      · obtain ⟨rfl, rfl⟩ := ite_some hp
        exact (slc_sl h he (.inl ⟨_, _, hk, rfl⟩)).2
      · obtain ⟨rfl, rfl⟩ := ite_some hp
        exact (slc_sl h he (.inr (.inl ⟨_, hk, rfl⟩))).2
      · split at hp
        case h_2 => cases hp
        obtain ⟨rfl, rfl⟩ := ite_some hp
        exact (slc_sl h he (.inr (.inr ⟨_, _, _, _, _, _, hk, rfl⟩))).2
    | oslOld he hlt hv =>
      rename_i k ver ver' v' us
      simp only [peek] at hp
      generalize hk : H.getD k .dead = so at hp
      cases so <;> simp only [reduceCtorEq] at hp
      · obtain ⟨rfl, rfl⟩ := ite_some hp
        exact (old he hlt (.inl ⟨_, _, hk, rfl⟩)).elim
      · obtain ⟨rfl, rfl⟩ := ite_some hp
        exact (old he hlt (.inr (.inl ⟨_, hk, rfl⟩))).elim
      · split at hp
        case h_2 => cases hp
        obtain ⟨rfl, rfl⟩ := ite_some hp
        exact (old he hlt (.inr (.inr ⟨_, _, _, _, _, _, hk, rfl⟩))).elim
    | ownAt => simp [peek] at hp
    | con => exact pu .con hp
    | slP => simp [peek, isPure] at hp
    | refP => simp [peek, isPure] at hp
    | ifc ho hr => exact pu (.ifc ho hr) hp
    | omap => simp [peek, isPure] at hp
    | omapOld => simp [peek, isPure] at hp
    | ownAtOld => simp [peek] at hp
    | win he hl ha h0 =>
      rename_i k ver n lo len a a0 len0 cap0 us
      simp only [peek] at hp
      generalize hk : H.getD k .dead = so at hp
      cases so <;> simp only [reduceCtorEq] at hp
      · obtain ⟨⟨rfl, rfl⟩, rfl⟩ := ite_some hp
        exact win he hl ha (.inl ⟨_, _, hk, rfl⟩)
      · obtain ⟨⟨rfl, rfl⟩, rfl⟩ := ite_some hp
        exact win he hl ha (.inr (.inl ⟨_, hk, rfl⟩))
      · split at hp
        case h_2 => cases hp
        obtain ⟨⟨rfl, rfl⟩, rfl⟩ := ite_some hp
        exact win he hl ha (.inr (.inr ⟨_, _, _, _, _, _, hk, rfl⟩))
    | nilsl => exact pu .nilsl hp
    | slN hr => exact pu (.slN hr) hp
    | winOld he hlt hv =>
      rename_i k ver ver' v' n lo len us
      simp only [peek] at hp
      generalize hk : H.getD k .dead = so at hp
      cases so <;> simp only [reduceCtorEq] at hp
      · obtain ⟨⟨rfl, rfl⟩, rfl⟩ := ite_some hp
        exact (old he hlt (.inl ⟨_, _, hk, rfl⟩)).elim
      · obtain ⟨⟨rfl, rfl⟩, rfl⟩ := ite_some hp
        exact (old he hlt (.inr (.inl ⟨_, hk, rfl⟩))).elim
      · split at hp
        case h_2 => cases hp
        obtain ⟨⟨rfl, rfl⟩, rfl⟩ := ite_some hp
        exact (old he hlt (.inr (.inr ⟨_, _, _, _, _, _, hk, rfl⟩))).elim
theorem peek_ext {H HF : List SO} (he : Ext H HF) {sv sv' : SV} (hp : peek H sv = some sv') : peek HF sv = some sv' := by
  cases sv <;> simp only [peek, reduceCtorEq] at hp ⊢
  case own k off =>
    generalize hk : H.getD k .dead = so at hp
    cases so <;> simp only [reduceCtorEq] at hp <;> rw [he k (by rw [hk]; simp), hk] <;> exact hp
  case osl k ver =>
    generalize hk : H.getD k .dead = so at hp
    cases so <;> simp only [reduceCtorEq] at hp <;> rw [he k (by rw [hk]; simp), hk] <;> exact hp
  case win k ver n lo len =>
    generalize hk : H.getD k .dead = so at hp
    cases so <;> simp only [reduceCtorEq] at hp <;> rw [he k (by rw [hk]; simp), hk] <;> exact hp
  all_goals exact hp
def peekAll (H : List SO) : List SV → Option (List SV)
  | [] => some []
  | s :: r => match peek H s with
    | some s' => match peekAll H r with
      | some r' => some (s' :: r')
      | none => none
    | none => none
def lend (s : FSpec) : FSpec := ⟨s.f, false, fun l H nm => match peekAll H l with
  | some l' => match s.run l' [] 0 with
    | some y => match y.eff with
      | .keep => match scalB 3 y.val with
        | true => some ⟨y.ask, y.val, .keep⟩
        | false => none
      | _ => none
    | none => none
  | none => none⟩
theorem peekAll_sound {w0 X0 H E w} (h : Rep w0 X0 H E w) : ∀ {l l' : List SV}, peekAll H l = some l' → l'.length = l.length ∧ ∀ i v, i < l.length → R w (Xo X0 E H) E (l.getD i .any) v → R w (fun _ => False) E0 (l'.getD i .any) v
  | [], l', hp => by cases hp; exact ⟨rfl, fun i v hi => absurd hi (Nat.not_lt_zero _)⟩
  | s :: r, l', hp => by
    simp only [peekAll] at hp
    split at hp
    case h_2 => cases hp
    rename_i s' hs
    split at hp
    case h_2 => cases hp
    rename_i r' hr
    cases hp
    obtain ⟨h1, h2⟩ := peekAll_sound h hr
    refine ⟨by simp [h1], fun i v hi hv => ?_⟩
    cases i with
    | zero => exact peek_sound h _ _ _ hs hv
    | succ i => exact h2 i v (by simpa using hi) hv
theorem peekAll_ext {H HF : List SO} (he : Ext H HF) : ∀ {l l' : List SV}, peekAll H l = some l' → peekAll HF l = some l'
  | [], l', hp => hp
  | s :: r, l', hp => by
    simp only [peekAll] at hp ⊢
    split at hp
    case h_2 => cases hp
    rename_i s' hs
    split at hp
    case h_2 => cases hp
    rename_i r' hr
    cases hp
    rw [peek_ext he hs, peekAll_ext he hr]
theorem lend_ok {P : Program} {s : FSpec} (hs : SpecOK P s) : SpecOK P (lend s) := by
  refine ⟨hs.1, fun l H HF nm y he hns hrun => ?_, fun l H nm y hrun hask w0 X0 E w hrep hfree vals ha => ?_⟩
  · simp only [lend] at hrun ⊢
    split at hrun
    case h_2 => cases hrun
    rename_i l' hl'
    rw [peekAll_ext he hl']
    exact hrun
  · simp only [lend] at hrun
    split at hrun
    case h_2 => cases hrun
    rename_i l' hl'
    split at hrun
    case h_2 => cases hrun
    rename_i y' hy'
    split at hrun
    case h_2 => cases hrun
    rename_i hkeep
    split at hrun
    case h_2 => cases hrun
    rename_i hsc
    cases hrun
    obtain ⟨p1, p2⟩ := peekAll_sound hrep hl'
    have hrep0 : Rep w (Fr.of fun _ => False) [] E0 w := ⟨Bel.refl _ _, fun b hb => hb.elim, fun k e he => (nomatch he), fun k e he => (nomatch he), fun k e he => (nomatch he), fun k e b he => (nomatch he), fun k k' e e' b he => (nomatch he)⟩
    have hno : ∀ b, ¬ Xo (Fr.of fun _ => False) E0 [] b := fun b hb => hb.elim id fun ⟨k, e, he, _⟩ => (nomatch he)
    refine (hs.2.2 l' [] 0 y' hy' hask w (Fr.of fun _ => False) E0 w hrep0 (fun so hso => by rw [hkeep] at hso; cases hso) vals ⟨by rw [p1]; exact ha.1, fun i hi => ?_⟩).mono ?_
    · rw [p1] at hi
      exact (p2 i _ hi (ha.2 i hi)).mono (fun _ _ _ => rfl) (fun b _ hb => (hno b hb).elim) (Env.le_refl _)
    · rintro e w' ⟨v, rfl, E', _, _, _, hr, hv, _⟩
      exact ⟨v, rfl, Goes.world hrep hr.below.all (scal_sound 3 _ _ hsc hv)⟩
end Go.Proofs.YthappngbapbkfaaDoor.Sx
