import Derived.Test.YtfjbjbmbdadmhaaSxu
import Derived.ChangeKeysEq
/- What is asked of a function's code; that it is enough for the function's specification. -/
namespace Go.Proofs.Ytfjbjbmbdadmhaa.Sx
open Go.RowKit
/-- Does a guard look at operation i? -/
def guards (ops : Array Oper) (i : Nat) : Bool := ops.toList.any fun o => match o.guard with
  | some (j, _) => j == i
  | none => false
/-- Both branches of a test, each under what it says; a test without unknowns is reckoned out. -/
def Br (b : Bool) (p q : Prop) : Prop := match b with
  | true => p
  | false => q
theorem Br.of {b p q} (h : Br b p q) : (b = true → p) ∧ (b = false → q) := by
  cases b with
  | true => exact ⟨fun _ => h, fun h' => by cases h'⟩
  | false => exact ⟨fun h' => (by cases h'), fun _ => h⟩
theorem br_iff {b p q} : Br b p q ↔ (b = true → p) ∧ (b = false → q) := by
  refine ⟨Br.of, fun h => ?_⟩
  cases b with
  | true => exact h.1 rfl
  | false => exact h.2 rfl
/-- An operation's outcome; a test that a guard looks at parts the way. -/
def vcDo (P : Program) (specs : List FSpec) (eqs : List (TypeId × List CK)) (N : Nat) (ops : Array Oper) (o : Oper) (i : Nat) (K : St → Prop) (s : St) : Prop :=
  match evOp P specs eqs N s.τ s.H s.H.length o with
  | some y => y.ask ∧ forceH (nextH s.H y.eff) fun H => force y.val fun v => match v with
    | .bool b => match guards ops i with
      | true => Br b (K ⟨putT o.dst (.lit true) s.τ, H⟩) (K ⟨putT o.dst (.lit false) s.τ, H⟩)
      | false => K ⟨putT o.dst (.bool b) s.τ, H⟩
    | v => K ⟨putT o.dst v s.τ, H⟩
  | none => False
def vcSkip (o : Oper) (K : St → Prop) (s : St) : Prop := K ⟨putT o.dst undefS s.τ, s.H⟩
/-- What is asked along a list of operations. -/
def vcOps (P : Program) (specs : List FSpec) (eqs : List (TypeId × List CK)) (N : Nat) (ops : Array Oper) : List Oper → Nat → (St → Prop) → St → Prop
  | [], _, K, s => K s
  | o :: r, i, K, s => match o.guard with
    | none => vcDo P specs eqs N ops o i (vcOps P specs eqs N ops r (i + 1) K) s
    | some (j, want) => match gsv N ops s.τ j with
      | .lit b => match b == want with
        | true => vcDo P specs eqs N ops o i (vcOps P specs eqs N ops r (i + 1) K) s
        | false => vcSkip o (vcOps P specs eqs N ops r (i + 1) K) s
      | .tup .. => vcSkip o (vcOps P specs eqs N ops r (i + 1) K) s
      | _ => False
theorem lit_of {w X E b c u} (h : b = c) (hr : R w X E (.bool b) u) : R w X E (.lit c) u := by
  subst h
  rw [bool_inv hr]
  exact .lit
theorem vcDo_step {P specs eqs N ops o i K s} (hw : Want N ops s.τ o true) (h : vcDo P specs eqs N ops o i K s) : ∃ s', Step P specs eqs N ops o s s' ∧ K s' := by
  unfold vcDo at h
  cases hy : evOp P specs eqs N s.τ s.H s.H.length o with
  | none => rw [hy] at h; exact h.elim
  | some y =>
    rw [hy] at h
    simp only [force_eq, forceH_eq] at h
    obtain ⟨ha, h⟩ := h
    have plain : ∀ v, y.val = v → K ⟨putT o.dst v s.τ, nextH s.H y.eff⟩ → ∃ s', Step P specs eqs N ops o s s' ∧ K s' := by
      rintro v rfl hk
      exact ⟨_, .run hw hy ha (fun _ _ _ _ hr => hr) (fun _ _ h => h) (fun _ _ h => h) (fun _ _ _ h => h), hk⟩
    split at h
    · rename_i b hb
      split at h
      · cases hbb : b with
        | true => exact ⟨_, .run (v := .lit true) hw hy ha (fun w X E u hr => lit_of hbb (hb ▸ hr)) (fun _ _ h => by rw [hb] at h; cases h) (fun _ _ h => by rw [hb] at h; cases h) (fun _ _ _ h => by rw [hb] at h; cases h), h.of.1 hbb⟩
        | false => exact ⟨_, .run (v := .lit false) hw hy ha (fun w X E u hr => lit_of hbb (hb ▸ hr)) (fun _ _ h => by rw [hb] at h; cases h) (fun _ _ h => by rw [hb] at h; cases h) (fun _ _ _ h => by rw [hb] at h; cases h), h.of.2 hbb⟩
      · exact plain _ hb h
    · exact plain _ rfl h
theorem vcOps_tr {P specs eqs N ops} : ∀ {l : List Oper} {i : Nat} {s : St} {K : St → Prop}, vcOps P specs eqs N ops l i K s → ∃ s', Tr P specs eqs N ops l s s' ∧ K s'
  | [], _, s, K, h => ⟨s, .nil, h⟩
  | o :: r, i, s, K, h => by
    have go : Want N ops s.τ o true → vcDo P specs eqs N ops o i (vcOps P specs eqs N ops r (i + 1) K) s → ∃ s', Tr P specs eqs N ops (o :: r) s s' ∧ K s' := by
      intro hw h
      obtain ⟨s1, h1, h2⟩ := vcDo_step hw h
      obtain ⟨s', h3, h4⟩ := vcOps_tr h2
      exact ⟨s', .cons h1 h3, h4⟩
    have skip : Want N ops s.τ o false → vcSkip o (vcOps P specs eqs N ops r (i + 1) K) s → ∃ s', Tr P specs eqs N ops (o :: r) s s' ∧ K s' := by
      intro hw h
      obtain ⟨s', h1, h2⟩ := vcOps_tr h
      exact ⟨s', .cons (.skip hw) h1, h2⟩
    simp only [vcOps] at h
    cases hg : o.guard with
    | none =>
      rw [hg] at h
      exact go (by unfold Want; rw [hg]) h
    | some jw =>
      obtain ⟨j, want⟩ := jw
      rw [hg] at h
      simp only at h
      split at h
      · rename_i b hb
        split at h
        · rename_i hbw
          exact go (by unfold Want; rw [hg]; exact .inl ⟨b, by rw [hb]; rfl, hbw.symm⟩) h
        · rename_i hbw
          exact skip (by unfold Want; rw [hg]; exact .inl ⟨b, by rw [hb]; rfl, hbw.symm⟩) h
      · rename_i n g hb
        exact skip (by unfold Want; rw [hg]; exact .inr ⟨n, g, hb, rfl⟩) h
      · exact h.elim
inductive SExit : Type
  | normal
  | exit (id : Nat)
  | ret
def SExit.lift : SExit → Exit
  | .normal => .normal
  | .exit id => .exit id
  | .ret => .ret
abbrev SK := SExit → St → Prop
def thenK (k : St → Prop) (K : SK) : SK
  | .normal, s => k s
  | e, s => K e s
def blockK (id : Nat) (K : SK) : SK
  | .exit i, s => if i = id then K .normal s else K (.exit i) s
  | e, s => K e s
/-- A loop: its invariant (a description that bears data), or how often it goes round; nest: what is said of the loops within may speak of the data. -/
structure Inv : Type 1 where
  γ : Type
  pre : γ → Prop
  st : γ → St
  meas : γ → Nat
inductive LoopA : Type 1
  | inv (I : Inv)
  | rounds (n : Nat)
  | cut (I : Inv)
  | nest (I : Inv) (sub : I.γ → List (Nat × LoopA))
  | steps (n : Nat) (I : Nat → St) (sub : Nat → List (Nat × LoopA))
structure Ann : Type 1 where
  loops : List (Nat × LoopA)
  preps : List (Nat × List PrepA)
/-- What is said of the loop whose first region is i. -/
def findL : List (Nat × LoopA) → Nat → Option LoopA
  | [], _ => none
  | (k, x) :: r, i => match x with
    | .cut _ => findL r i
    | x => if k = i then some x else findL r i
/-- Whether all ways meet ahead of region i, and what is known there. -/
def findC : List (Nat × LoopA) → Nat → Option Inv
  | [], _ => none
  | (k, x) :: r, i => match x with
    | .cut I => if k = i then some I else findC r i
    | _ => findC r i
def findP : List (Nat × List PrepA) → Nat → List PrepA
  | [], _ => []
  | (k, x) :: r, i => if k = i then x else findP r i
/-- The first region within. -/
def firstReg : Code → Option Nat
  | .region id _ _ => some id
  | .seq a b => match firstReg a with
    | some i => some i
    | none => firstReg b
  | .cond _ a b => match firstReg a with
    | some i => some i
    | none => firstReg b
  | .block _ c => firstReg c
  | .loop c => firstReg c
  | _ => none
def rounds (f : SK → St → Prop) (K : SK) : Nat → St → Prop
  | 0, _ => False
  | n + 1, s => f (thenK (rounds f K n) K) s
/-- A loop whose states ahead of the rounds 0, 1, .. are known. -/
def stepsK (W : Nat → St → Prop) (f : Nat → SK → Prop) (K : SK) : Nat → Nat → St → Prop
  | 0, _, _ => False
  | n + 1, k, s => W k s ∧ f k (thenK (stepsK W f K n (k + 1)) K)
/-- A region's operations; where their order is drawn, that is looked over first. -/
def vcGo (P : Program) (specs : List FSpec) (eqs : List (TypeId × List CK)) (N : Nat) (ops : Array Oper) (d : Bool) (k : St → Prop) (s : St) : Prop :=
  match d with
  | true => vcOps P specs eqs N ops ops.toList 0 (fun s' => match regB P (effS specs) N s.τ s'.τ ops with
    | true => k s'
    | false => False) s
  | false => vcOps P specs eqs N ops ops.toList 0 k s
/-- What is done to the description behind region i stands under 1000000 + i. -/
def vcPost (m N : Nat) (k : St → Prop) (s : St) : List PrepA → Prop
  | [] => k s
  | p :: r => match doPreps m N s (p :: r) with
    | some s' => k s'
    | none => False
def vcReg (P : Program) (specs : List FSpec) (eqs : List (TypeId × List CK)) (N m : Nat) (A : Ann) (id : Nat) (ops : Array Oper) (d : Bool) (k : St → Prop) (s : St) : Prop :=
  match findP A.preps id with
  | .nilc t :: r => match nilAlt N s t with
    | some q => (q.1 = 0 → match doPreps m N q.2.1 r with
      | some s' => vcGo P specs eqs N ops d (fun s => vcPost m N k s (findP A.preps (1000000 + id))) s'
      | none => False) ∧ match doPreps m N q.2.2 r with
      | some s' => vcGo P specs eqs N ops d (fun s => vcPost m N k s (findP A.preps (1000000 + id))) s'
      | none => False
    | none => False
  | l => match doPreps m N s l with
    | some s' => vcGo P specs eqs N ops d (fun s => vcPost m N k s (findP A.preps (1000000 + id))) s'
    | none => False
/-- The description I.st g, for some g, tells of the state s. -/
def meets (m : Nat) (I : Inv) (s : St) : Prop := ∃ g, Ask (I.pre g) ∧ withNm m s.H (I.st g).H (StLe s (I.st g))
def cutOf (A : Ann) (b : Code) : Option Inv := match firstReg b with
  | some i => findC A.loops i
  | none => none
/-- m: how many objects came with the call. -/
def vc (P : Program) (specs : List FSpec) (eqs : List (TypeId × List CK)) (N m : Nat) : Ann → Code → SK → St → Prop
  | _, .skip, K, s => K .normal s
  | _, .label _, K, s => K .normal s
  | A, .region id ops d, K, s => vcReg P specs eqs N m A id ops d (K .normal) s
  | A, .seq a b, K, s => match cutOf A b with
    | none => vc P specs eqs N m A a (thenK (vc P specs eqs N m A b K) K) s
    | some I => vc P specs eqs N m A a (thenK (meets m I) K) s ∧ ∀ g, I.pre g → vc P specs eqs N m A b K (I.st g)
  | A, .cond c x y, K, s => match evO N s.τ c with
    | .bool b => Br b (vc P specs eqs N m A x K s) (vc P specs eqs N m A y K s)
    | .lit b => match b with
      | true => vc P specs eqs N m A x K s
      | false => vc P specs eqs N m A y K s
    | _ => False
  | A, .block id c, K, s => vc P specs eqs N m A c (blockK id K) s
  | A, .loop c, K, s => match firstReg c with
    | some i => match findL A.loops i with
      | some (.inv I) => (∃ g, Ask (I.pre g) ∧ withNm m s.H (I.st g).H (StLe s (I.st g))) ∧ ∀ g, I.pre g → vc P specs eqs N m A c (thenK (fun s' => ∃ g', Ask (I.pre g') ∧ withNm m s'.H (I.st g').H (StLe s' (I.st g') ∧ Ask (I.meas g' < I.meas g))) K) (I.st g)
      | some (.nest I sub) => (∃ g, Ask (I.pre g) ∧ withNm m s.H (I.st g).H (StLe s (I.st g))) ∧ ∀ g, I.pre g → vc P specs eqs N m ⟨sub g ++ A.loops, A.preps⟩ c (thenK (fun s' => ∃ g', Ask (I.pre g') ∧ withNm m s'.H (I.st g').H (StLe s' (I.st g') ∧ Ask (I.meas g' < I.meas g))) K) (I.st g)
      | some (.rounds n) => rounds (vc P specs eqs N m A c) K n s
      | some (.steps n I sub) => stepsK (fun k s => withNm m s.H (I k).H (StLe s (I k))) (fun k K => vc P specs eqs N m ⟨sub k ++ A.loops, A.preps⟩ c K (I k)) K n 0 s
      | _ => False
    | none => False
  | _, .exit id, K, s => K (.exit id) s
  | _, .ret, K, s => K .ret s
  | _, _, _, _ => False
/-- (Asked of old; vc asks it of the regions that it comes to.) -/
def codeB (_ : Option FuncId → Bool) (_ : Code) : Bool := true
section
variable {P : Program} {w0 : World} {X0 : Fr} {specs : List FSpec} {eqs : List (TypeId × List CK)} {N m : Nat}
/-- From what holds of the data to what holds of the run. -/
def Lifts (w0 : World) (X0 : Fr) (N : Nat) (K : SK) (Q : Exit → Act → World → Prop) : Prop := ∀ e s a w, K e s → StR w0 X0 N s a w → Q e.lift a w
theorem meets_sound {I : Inv} {s : St} (hnm : ∀ k, X0.nm k ≠ none → k < m) (h : meets m I s) {a : Act} {w : World} (hs : StR w0 X0 N s a w) : ∃ g, I.pre g ∧ StR w0 X0 N (I.st g) a w := by
  obtain ⟨g, ⟨hp⟩, hl⟩ := h
  exact ⟨g, hp, hs.le hnm hl.get.1 hl.get.2⟩
theorem vc_sound (hspecs : ∀ s ∈ specs, SpecOK P s) (heqs : ∀ t n, (t, n) ∈ eqs → EqOK P t n) (hm : P.follows .mixedOrders = true) (hnm : ∀ k, X0.nm k ≠ none → k < m) :
    ∀ (c : Code) (A : Ann) (K : SK) (Q : Exit → Act → World → Prop) (s : St), vc P specs eqs N m A c K s → Lifts w0 X0 N K Q → ∀ a w, StR w0 X0 N s a w → c.wp P Q a w := by
  intro c
  induction c with
  | skip => intro _ K Q s h hl a w hs; exact wp_skip (hl .normal s a w h hs)
  | label l => intro _ K Q s h hl a w hs; exact wp_label (hl .normal s a w h hs)
  | region id ops d =>
    intro A K Q s h hl a w hs
    simp only [vc] at h
    have post : ∀ {a' : Act} {w' : World} {s' : St}, vcPost m N (K .normal) s' (findP A.preps (1000000 + id)) → StR w0 X0 N s' a' w' → Q .normal a' w' := by
      intro a' w' s' hK hs'
      revert hK
      cases findP A.preps (1000000 + id) with
      | nil => exact fun hK => hl .normal s' a' w' hK hs'
      | cons p r =>
        intro hK
        simp only [vcPost] at hK
        split at hK
        case h_2 => exact hK.elim
        rename_i s2 hp
        exact hl .normal s2 a' w' hK (doPreps_sound hnm hp hs')
    have go : ∀ {l : List PrepA} {s : St}, (match doPreps m N s l with
        | some s' => vcGo P specs eqs N ops d (fun s => vcPost m N (K .normal) s (findP A.preps (1000000 + id))) s'
        | none => False) → StR w0 X0 N s a w → (Code.region id ops d).wp P Q a w := by
      intro l s h hs
      split at h
      case h_2 => exact h.elim
      rename_i s1 hp
      unfold vcGo at h
      split at h
      · obtain ⟨s', ht, hK⟩ := vcOps_tr h
        split at hK
        case h_2 => exact hK.elim
        rename_i hR
        exact region_sound hspecs heqs hm ht (fun _ => hR) (fun a' w' hs' => post hK hs') (doPreps_sound hnm hp hs)
      · obtain ⟨s', ht, hK⟩ := vcOps_tr h
        exact region_sound hspecs heqs hm ht (fun hd => by cases hd) (fun a' w' hs' => post hK hs') (doPreps_sound hnm hp hs)
    simp only [vcReg] at h
    split at h
    · split at h
      case h_2 => exact h.elim
      rename_i q hq
      rcases nilAlt_sound hq hs with ⟨h0, hs1⟩ | hs2
      · exact go (h.1 h0) hs1
      · exact go h.2 hs2
    · exact go h hs
  | seq x y ihx ihy =>
    intro A K Q s h hl a w hs
    simp only [vc] at h
    split at h
    · refine wp_seq (ihx A _ _ s h (fun e s' a' w' hk hs' => ?_) a w hs)
      cases e with
      | normal => exact ihy A K Q s' hk hl a' w' hs'
      | exit id => exact hl _ s' a' w' hk hs'
      | ret => exact hl _ s' a' w' hk hs'
    · rename_i I hI
      refine wp_seq (ihx A _ _ s h.1 (fun e s' a' w' hk hs' => ?_) a w hs)
      cases e with
      | normal =>
        obtain ⟨g, hg, hs2⟩ := meets_sound hnm hk hs'
        exact ihy A K Q _ (h.2 g hg) hl a' w' hs2
      | exit id => exact hl _ s' a' w' hk hs'
      | ret => exact hl _ s' a' w' hk hs'
  | cond c x y ihx ihy =>
    intro A K Q s h hl a w hs
    simp only [vc] at h
    obtain ⟨E, hrep, htr⟩ := id hs
    split at h
    · rename_i b hb
      have hv := bool_inv (hb ▸ evO_sound htr c)
      cases b with
      | true => exact wp_cond_true hv (ihx A K Q s h hl a w hs)
      | false => exact wp_cond_false hv (ihy A K Q s h hl a w hs)
    · rename_i b hb
      have hv := lit_inv (hb ▸ evO_sound htr c)
      cases b with
      | true => exact wp_cond_true hv (ihx A K Q s h hl a w hs)
      | false => exact wp_cond_false hv (ihy A K Q s h hl a w hs)
    · exact h.elim
  | block id c ih =>
    intro A K Q s h hl a w hs
    refine wp_block (ih A _ _ s h (fun e s' a' w' hk hs' => ?_) a w hs)
    cases e with
    | normal => exact hl _ s' a' w' hk hs'
    | exit i =>
      simp only [blockK] at hk
      simp only [SExit.lift, Exit.inBlock]
      split
      · rename_i hi; rw [if_pos hi] at hk; exact hl .normal s' a' w' hk hs'
      · rename_i hi; rw [if_neg hi] at hk; exact hl (.exit i) s' a' w' hk hs'
    | ret => exact hl _ s' a' w' hk hs'
  | loop c ih =>
    intro A K Q s h hl a w hs
    simp only [vc] at h
    split at h
    case h_2 => exact h.elim
    split at h
    case h_5 => exact h.elim
    · rename_i I hI
      obtain ⟨⟨g0, ⟨hp0⟩, hs0⟩, hround⟩ := h
      refine wp_loop_ghost (fun n a w => ∃ g, I.pre g ∧ I.meas g = n ∧ StR w0 X0 N (I.st g) a w) (I.meas g0) ⟨g0, hp0, rfl, hs.le hnm hs0.get.1 hs0.get.2⟩ ?_
      rintro n a w ⟨g, hp, rfl, hsg⟩
      refine ih A _ _ (I.st g) (hround g hp) (fun e s' a' w' hk hs' => ?_) a w hsg
      cases e with
      | normal =>
        obtain ⟨g', ⟨hp'⟩, hle⟩ := hk
        obtain ⟨hle1, hle2, ⟨hlt⟩⟩ := hle.get
        exact ⟨_, hlt, g', hp', rfl, hs'.le hnm hle1 hle2⟩
      | exit id => exact hl _ s' a' w' hk hs'
      | ret => exact hl _ s' a' w' hk hs'
    · rename_i I sub hI
      obtain ⟨⟨g0, ⟨hp0⟩, hs0⟩, hround⟩ := h
      refine wp_loop_ghost (fun n a w => ∃ g, I.pre g ∧ I.meas g = n ∧ StR w0 X0 N (I.st g) a w) (I.meas g0) ⟨g0, hp0, rfl, hs.le hnm hs0.get.1 hs0.get.2⟩ ?_
      rintro n a w ⟨g, hp, rfl, hsg⟩
      refine ih _ _ _ (I.st g) (hround g hp) (fun e s' a' w' hk hs' => ?_) a w hsg
      cases e with
      | normal =>
        obtain ⟨g', ⟨hp'⟩, hle⟩ := hk
        obtain ⟨hle1, hle2, ⟨hlt⟩⟩ := hle.get
        exact ⟨_, hlt, g', hp', rfl, hs'.le hnm hle1 hle2⟩
      | exit id => exact hl _ s' a' w' hk hs'
      | ret => exact hl _ s' a' w' hk hs'
    · rename_i n hn
      refine wp_loop_rounds n ?_
      clear hn
      induction n generalizing s a w with
      | zero => exact h.elim
      | succ n ihn =>
        rw [rounds_succ]
        refine ih A _ _ s h (fun e s' a' w' hk hs' => ?_) a w hs
        cases e with
        | normal => exact ihn s' a' w' hs' hk
        | exit id => exact hl _ s' a' w' hk hs'
        | ret => exact hl _ s' a' w' hk hs'
    · rename_i n I sub hn
      refine wp_loop_rounds n ?_
      clear hn
      generalize 0 = k at h
      induction n generalizing s a w k with
      | zero => exact h.elim
      | succ n ihn =>
        rw [rounds_succ]
        obtain ⟨hW, h⟩ := h
        refine ih _ _ _ (I k) h (fun e s' a' w' hk hs' => ?_) a w (hs.le hnm hW.get.1 hW.get.2)
        cases e with
        | normal => exact ihn s' a' w' hs' (k + 1) hk
        | exit id => exact hl _ s' a' w' hk hs'
        | ret => exact hl _ s' a' w' hk hs'
  | exit id => intro _ K Q s h hl a w hs; exact wp_exit (hl (.exit id) s a w h hs)
  | ret => intro _ K Q s h hl a w hs; exact wp_ret (hl .ret s a w h hs)
  | _ => intro _ K Q s h; exact h.elim
end
/-! Functions. -/
/-- The results, and what is asked for them to be read. -/
def resS (P : Program) (N : Nat) (s : St) : List ResultVar → Option (Prop × List SV)
  | [] => some (True, [])
  | .tmp t :: r => match resS P N s r with
    | some (p, l) => some (p, evO N s.τ (.tmp t) :: l)
    | none => none
  | .cell a T :: r => match tinf P T with
    | some ti => match evLoad ti s.H (evO N s.τ (.tmp a)) with
      | some y => match resS P N s r with
        | some (p, l) => some (y.ask ∧ p, y.val :: l)
        | none => none
      | none => none
    | none => none
def oneOf : List SV → SV
  | [s] => s
  | l => .tup l.length (fun i => l.getD i .any)
/-- The function may return: what it returns is res. -/
def vcRes (P : Program) (fn : Func) (res : SV) (s : St) : Prop :=
  match resS P fn.ntmps s fn.results.toList with
  | some (p, l) => p ∧ match frzAll s.H (needs s.H 6 (oneOf l)) with
    | some fl => match pur (applyS s.H fl) 6 (oneOf l) with
      | some v => SVle [] [] v res
      | none => False
    | none => False
  | none => False
def retK (P : Program) (fn : Func) (res : SV) : SK
  | .exit _, _ => False
  | _, s => vcRes P fn res s
def argsT : Nat → List SV → Tmps
  | _, [] => []
  | i, s :: r => (i, s) :: argsT (i + 1) r
theorem lookT_args : ∀ (l : List SV) (i t : Nat), i ≤ t → lookT (argsT i l) t = l.getD (t - i) .any
  | [], i, t, _ => by simp [argsT, lookT]
  | s :: r, i, t, h => by
    simp only [argsT, lookT]
    split
    · rename_i he; subst he; simp
    · rw [lookT_args r (i + 1) t (by omega), show t - i = (t - (i + 1)) + 1 by omega, List.getD_cons_succ]
def resSem (tmps : Array Value) : ResultVar → Sem Value
  | .tmp t => pure (tmps.getD t undef)
  | .cell c t => do loadVar t (← asAddr (tmps.getD c undef))
theorem results_eq (fn : Func) (tmps : Array Value) : results fn tmps = (fn.results.mapM (resSem tmps) >>= fun vs => pure (if h : vs.size = 1 then vs[0] else .tuple vs)) := by
  unfold results
  congr 1
theorem resS_sound {P : Program} {w0 X0 H E w N τ a} (h : Rep w0 X0 H E w) (ht : TR w (Xo X0 E H) E N τ a) : ∀ (rs : List ResultVar) (p : Prop) (l : List SV), resS P N ⟨τ, H⟩ rs = some (p, l) → p →
    ∃ vs : List Value, (rs.mapM (resSem a.tmps)).run P w = .ok vs w ∧ vs.length = l.length ∧ ∀ i, i < l.length → R w (Xo X0 E H) E (l.getD i .any) (vs.getD i undef)
  | [], p, l, hr, _ => by
    simp only [resS, Option.some.injEq, Prod.mk.injEq] at hr
    obtain ⟨rfl, rfl⟩ := hr
    exact ⟨[], by simp, rfl, fun i hi => absurd hi (Nat.not_lt_zero _)⟩
  | .tmp t :: r, p, l, hr, hp => by
    simp only [resS] at hr
    split at hr
    case h_2 => cases hr
    rename_i p' l' hr'
    simp only [Option.some.injEq, Prod.mk.injEq] at hr
    obtain ⟨rfl, rfl⟩ := hr
    obtain ⟨vs, h1, h2, h3⟩ := resS_sound h ht r p' l' hr' hp
    refine ⟨a.tmps.getD t undef :: vs, by simp only [List.mapM_cons, resSem, Sem.run_bind, Sem.run_pure, Result.andThen_ok, h1], by simp [h2], fun i hi => ?_⟩
    cases i with
    | zero => exact evO_sound ht (.tmp t)
    | succ i => exact h3 i (by simpa using hi)
  | .cell c T :: r, p, l, hr, hp => by
    simp only [resS] at hr
    split at hr
    case h_2 => cases hr
    rename_i ti hti
    split at hr
    case h_2 => cases hr
    rename_i y hy
    split at hr
    case h_2 => cases hr
    rename_i p' l' hr'
    simp only [Option.some.injEq, Prod.mk.injEq] at hr
    obtain ⟨rfl, rfl⟩ := hr
    obtain ⟨vs, h1, h2, h3⟩ := resS_sound h ht r p' l' hr' hp.2
    obtain ⟨ad, u, g1, g2, g3, g4⟩ := evLoad_run (P := P) h hti (evO_sound ht (.tmp c)) hy hp.1
    have g1' : a.tmps.getD c undef = .pointer (some ad) := g1
    refine ⟨u :: vs, by simp only [List.mapM_cons, resSem, g1', asAddr, Sem.run_bind, Sem.run_pure, Result.andThen_ok, g2, h1], by simp [h2], fun i hi => ?_⟩
    cases i with
    | zero => exact g4
    | succ i => exact h3 i (by simpa using hi)
/-- A specification by typed data: dec reads them off the arguments, which name nothing of the caller's. -/
def mkSpec (f : FuncId) {γ : Type} (dec : List SV → Option γ) (args : γ → List SV) (pre : γ → Prop) (res : γ → SV) : FSpec :=
  ⟨f, false, fun l _ _ => match l.all (isPure 6) with
    | true => match dec l with
      | some g => some ⟨leArgs l (args g) ∧ Ask (pre g), res g, .keep⟩
      | none => none
    | false => none⟩
where leArgs : List SV → List SV → Prop
  | [], [] => True
  | s :: l, t :: r => SVle [] [] s t ∧ leArgs l r
  | _, _ => False
theorem leArgs_get : ∀ {l r : List SV}, mkSpec.leArgs l r → l.length = r.length ∧ ∀ i, i < r.length → SVle [] [] (l.getD i .any) (r.getD i .any)
  | [], [], _ => ⟨rfl, fun i hi => absurd hi (Nat.not_lt_zero _)⟩
  | [], _ :: _, h => h.elim
  | _ :: _, [], h => h.elim
  | s :: l, t :: r, h => by
    obtain ⟨h1, h2⟩ := h
    obtain ⟨h3, h4⟩ := leArgs_get h2
    refine ⟨by simp [h3], fun i hi => ?_⟩
    cases i with
    | zero => exact h1
    | succ i => exact h4 i (by simpa using hi)
theorem pureR {w : World} {X X' : Nat → Prop} (hx : ∀ b, X' b → X b) {s t : SV} {v : Value} (hl : SVle [] [] s t) (hr : R w X E0 s v) : R w X' E0 t v := by
  have := SVle_sound (H := []) (H' := []) hx (E := E0) (fun k ver v us h => by cases h) hl hr
  rwa [E0_cut] at this
theorem args_pure {w X E} {ss : List SV} {vs : Array Value} (h : ArgsR w X E ss vs) (hp : ss.all (isPure 6) = true) : ∀ i, i < ss.length → R w X E0 (ss.getD i .any) (vs.getD i undef) := fun i hi => by
  refine isPure_sound 6 _ _ ?_ (h.2 i hi)
  rw [List.getD_eq_getElem?_getD, List.getElem?_eq_getElem hi]
  exact List.all_eq_true.1 hp _ (List.getElem_mem hi)
/-- A contract out of a proof of another kind. -/
theorem specOK_of {P : Program} {f : FuncId} {γ : Type} {dec : List SV → Option γ} {args : γ → List SV} {pre : γ → Prop} {res : γ → SV} (hent : ∀ args w, (callFunc f args).run P w = .ok (.enter f args) w)
    (h : ∀ g, pre g → ∀ (vals : Array Value) (w : World) (X : Nat → Prop), vals.size = (args g).length → (∀ i, i < (args g).length → R w X E0 ((args g).getD i .any) (vals.getD i undef)) → (∀ b, X b → b < w.heap.size) →
      Calls P f vals w fun e w' => ∃ v, e = .returned v ∧ R w' X E0 (res g) v ∧ Below w.heap.size w w') : SpecOK P (mkSpec f dec args pre res) := by
  refine ⟨hent, fun args H HF nm y _ _ h => h, fun l H nm y hrun hp w0 X0 E w hrep hf vals ha => ?_⟩
  simp only [mkSpec] at hrun
  split at hrun
  case h_2 => cases hrun
  rename_i hpu
  split at hrun
  case h_2 => cases hrun
  rename_i g hdec
  cases hrun
  obtain ⟨hle, ⟨hpre⟩⟩ := hp
  obtain ⟨hll, hle⟩ := leArgs_get hle
  have hr := args_pure ha hpu
  have hsz := ha.1
  refine (h g hpre vals w (Xo X0 E H) (by omega) (fun i hi => pureR (fun _ hb => hb) (hle i hi) (hr i (by omega))) hrep.xlt).mono ?_
  rintro e w' ⟨v, rfl, h1, h2⟩
  exact ⟨v, rfl, Goes.world hrep h2 (up h1)⟩
theorem argsT_look (N : Nat) (vals : Array Value) (l : List SV) (w : World) (X : Nat → Prop) (E : Env) (hsz : vals.size = l.length) (hlen : l.length ≤ N) (hr : ∀ i, i < l.length → R w X E (l.getD i .any) (vals.getD i undef)) :
    (vals ++ Array.replicate (N - vals.size) undef).size = N ∧ ∀ t, t < N → R w X E (lookT (argsT 0 l) t) ((vals ++ Array.replicate (N - vals.size) undef).getD t undef) := by
  refine ⟨by simp only [Array.size_append, Array.size_replicate]; omega, fun t ht => ?_⟩
  rw [lookT_args _ _ _ (Nat.zero_le _), Nat.sub_zero]
  by_cases hlt : t < l.length
  · have e1 : (vals ++ Array.replicate (N - vals.size) undef).getD t undef = vals.getD t undef := by
      rw [Array.getD_eq_getD_getElem?, Array.getElem?_append_left (by omega), Array.getD_eq_getD_getElem?]
    rw [e1]
    exact hr t hlt
  · rw [List.getD_eq_getElem?_getD, List.getElem?_eq_none (Nat.not_lt.1 hlt)]
    exact .any
/-- What a function's results are, as they are read at its end. -/
theorem results_sound {P : Program} {w0 X0 H E w N τ a} {fn : Func} (hN : N = fn.ntmps) (hrep : Rep w0 X0 H E w) (htr : TR w (Xo X0 E H) E N τ a) {p : Prop} {l : List SV} (hres : resS P fn.ntmps ⟨τ, H⟩ fn.results.toList = some (p, l)) (hp : p) :
    ∃ v, (results fn a.tmps).run P w = .ok v w ∧ R w (Xo X0 E H) E (oneOf l) v := by
  subst hN
  obtain ⟨vs, h1, h2, h3⟩ := resS_sound (P := P) hrep htr _ _ _ hres hp
  have hrun : (results fn a.tmps).run P w = .ok (if hh : vs.toArray.size = 1 then vs.toArray[0] else .tuple vs.toArray) w := by
    rw [results_eq, Array.mapM_eq_mapM_toList (m := Sem)]
    simp only [bind_map_left, Sem.run_bind, h1, Result.andThen_ok, Sem.run_pure]
  refine ⟨_, hrun, ?_⟩
  match l, vs, h2, h3 with
  | [s1], [v1], _, h3 => exact h3 0 (by simp)
  | [], [], _, h3 => exact .tup rfl fun i hi => absurd hi (Nat.not_lt_zero _)
  | s1 :: s2 :: l, v1 :: v2 :: vs, h2, h3 =>
    rw [dif_neg (by simp)]
    refine .tup (by simpa using h2) fun i hi => ?_
    have := h3 i hi
    simpa [Array.getD_eq_getD_getElem?, List.getD_eq_getElem?_getD] using this
/-- A function keeps its specification if what is asked of its code holds. -/
theorem spec_sound {P : Program} {specs : List FSpec} (hspecs : ∀ s ∈ specs, SpecOK P s) {eqs : List (TypeId × List CK)} (heqs : ∀ t n, (t, n) ∈ eqs → EqOK P t n) (hm : P.follows .mixedOrders = true)
    {f : FuncId} {fn : Func} {body : Code} (hf : P.funcs[f]? = some fn) (hb : fn.body = some body) (_ : codeB (effS specs) body = true) (hent : ∀ args w, (callFunc f args).run P w = .ok (.enter f args) w)
    {γ : Type} {dec : List SV → Option γ} {args : γ → List SV} {pre : γ → Prop} {res : γ → SV} (A : γ → Ann) (hlen : ∀ g, (args g).length ≤ fn.ntmps)
    (h : ∀ g, pre g → vc P specs eqs fn.ntmps 0 (A g) body (retK P fn (res g)) ⟨argsT 0 (args g), []⟩) : SpecOK P (mkSpec f dec args pre res) := by
  refine specOK_of hent fun g hpre vals w X hsz hr hX => ?_
  have hvc := h g hpre
  refine calls_of_wp hf hb (vc_sound (w0 := w) (X0 := Fr.of X) hspecs heqs hm (fun k hk => absurd rfl hk) body _ _ _ _ hvc (fun e s a w' hk hs => ?_) _ w ?_)
  · have fin : vcRes P fn (res g) s → a.defers = [] ∧ ∃ v, (results fn a.tmps).run P w' = .ok v w' ∧ ∃ v', Ending.returned v = .returned v' ∧ R w' X E0 (res g) v' ∧ Below w.heap.size w w' := by
      intro hk
      obtain ⟨E, hrep, htr⟩ := hs
      unfold vcRes at hk
      split at hk
      case h_2 => exact hk.elim
      rename_i p l hres
      obtain ⟨hp, hk⟩ := hk
      obtain ⟨v, hv1, hv2⟩ := results_sound rfl hrep htr hres hp
      split at hk
      case h_2 => exact hk.elim
      rename_i fl hfl
      split at hk
      case h_2 => exact hk.elim
      rename_i sv hsv
      obtain ⟨g1, g2⟩ := frzAll_sound _ _ _ hrep hfl
      have hpure := pur_sound g1 6 _ _ _ hsv (hv2.mono (fun _ _ _ => rfl) g2 (Env.le_refl _))
      exact ⟨htr.2.1, v, hv1, v, rfl, pureR (fun b hb => .inl hb) hk hpure, hrep.below.all⟩
    cases e with
    | normal => exact fin hk
    | ret => exact fin hk
    | exit id => exact hk.elim
  · have hxo : Xo (Fr.of X) E0 [] = X := by
      funext b
      apply propext
      exact ⟨fun hb => hb.elim id (fun ⟨k, e, he, _⟩ => (nomatch he)), fun hb => Or.inl hb⟩
    have hT := argsT_look fn.ntmps vals (args g) w X E0 hsz (hlen g) hr
    refine ⟨E0, ⟨Bel.refl _ _, fun b hb => ⟨hX b hb, id⟩, fun k e he => (nomatch he), fun k e he => (nomatch he), fun k e he => (nomatch he), fun k e b he => (nomatch he), fun k k' e e' b he => (nomatch he)⟩, hT.1, rfl, fun t ht => ?_⟩
    rw [hxo]
    exact hT.2 t ht
end Go.Proofs.Ytfjbjbmbdadmhaa.Sx
/- Equality of flat aggregates; small words for the use of the evaluation. -/
namespace Go.Proofs.Ytfjbjbmbdadmhaa.Sx
open Go.RowKit
def flatFs (P : Program) (rec : TypeId → Option (List CK)) : List Field → Nat → Option (List CK)
  | [], _ => some []
  | f :: fs, off => if f.name ≠ "_" ∧ f.offset = off then match rec f.type with
      | some ks => match tinf P f.type with
        | some (m, _) => if m = ks.length ∧ 0 < m then match flatFs P rec fs (off + m) with
            | some r => some (ks ++ r)
            | none => none
          else none
        | none => none
      | none => none
    else none
def rep (ks : List CK) : Nat → List CK
  | 0 => []
  | n + 1 => ks ++ rep ks n
/-- The kinds of the cells of a type made of integers, bools and strings alone. -/
def flatT (P : Program) : Nat → TypeId → Option (List CK)
  | 0, _ => none
  | d + 1, t => match P.underlying t with
    | some .bool => some [.bool]
    | some (.int _) => some [.int]
    | some .string => some [.str]
    | some (.array len e) => match flatT P d e with
      | some ks => match tinf P e with
        | some (m, _) => if m = ks.length ∧ 0 < m then some (rep ks len) else none
        | none => none
      | none => none
    | some (.struct fs) => if P.stoodInHeld t = true then none else flatFs P (flatT P d) fs.toList 0
    | _ => none
theorem eqCells_append {g f : Nat → SV} : ∀ {l r : List CK} {i : Nat} {b : Bool}, eqCells g f (l ++ r) i = some b → ∃ c t, eqCells g f l i = some c ∧ eqCells g f r (i + l.length) = some t ∧ b = (c && t)
  | [], r, i, b, h => ⟨true, b, rfl, by simpa using h, by simp⟩
  | k :: l, r, i, b, h => by
    simp only [List.cons_append, eqCells] at h ⊢
    cases h1 : eqC k (g i) (f i) with
    | none => rw [h1] at h; cases h
    | some c =>
      cases h2 : eqCells g f (l ++ r) (i + 1) with
      | none => rw [h1, h2] at h; cases h
      | some t =>
        rw [h1, h2] at h
        cases h
        obtain ⟨c', t', h3, h4, rfl⟩ := eqCells_append h2
        rw [h3]
        exact ⟨_, t', rfl, by rw [List.length_cons, show i + (l.length + 1) = i + 1 + l.length by omega]; exact h4, by simp [Bool.and_assoc]⟩
theorem eqCells_shift {g f : Nat → SV} : ∀ {l : List CK} {i off : Nat}, eqCells g f l (off + i) = eqCells (fun j => g (off + j)) (fun j => f (off + j)) l i
  | [], _, _ => rfl
  | k :: l, i, off => by simp only [eqCells]; rw [show off + i + 1 = off + (i + 1) by omega, eqCells_shift]
def KindOK (P : Program) (t : TypeId) : CK → Prop
  | .int => ∃ k, P.underlying t = some (.int k)
  | .bool => P.underlying t = some .bool
  | .str => P.underlying t = some .string
theorem eqC_sound {P : Program} {w X E} {t : TypeId} {k : CK} {s r : SV} {x y : Value} {c : Bool} (hs : R w X E s x) (hr : R w X E r y) (he : eqC k s r = some c) (D : Nat)
    (hu : KindOK P t k) : (Op.equalIn (D + 1) t x y).run P w = .ok c w := by
  cases k with
  | int =>
    simp only [eqC] at he
    split at he
    · rename_i k a k' b
      obtain ⟨hk, rfl⟩ := ite_some he
      subst hk
      obtain ⟨k0, h0⟩ := hu
      rw [int_inv hs, int_inv hr, run_equalIn_int w D t k k0 a b h0, beq_eq_decide]
    · cases he
  | bool =>
    simp only [eqC] at he
    split at he
    · rename_i a b ha hb
      cases he
      rw [asB_inv ha hs, asB_inv hb hr]
      exact run_equalIn_bool' w D t a b hu
    · cases he
  | str =>
    simp only [eqC] at he
    split at he
    · rename_i a b
      cases he
      cases hs
      cases hr
      exact run_equalIn_string w D t a b hu
    · cases he
/-- Two values of a flat type, by their cells. -/
def Cmp (w : World) (X : Nat → Prop) (E : Env) (n : Nat) (agg : Bool) (g f : Nat → SV) (x y : Value) : Prop :=
  if agg = true then ∃ xs ys, x = .agg xs ∧ y = .agg ys ∧ xs.size = n ∧ ys.size = n ∧ (∀ i, i < n → R w X E (g i) (xs.getD i undef)) ∧ (∀ i, i < n → R w X E (f i) (ys.getD i undef))
  else R w X E (g 0) x ∧ R w X E (f 0) y
theorem part_cmp {P : Program} {w X E} {t : TypeId} {m : Nat} {ag : Bool} (ht : tinf P t = some (m, ag)) {n off : Nat} {g : Nat → SV} {cs : Array Value} (hs : cs.size = n) (hm : 0 < m) (hle : off + m ≤ n)
    (h : ∀ i, i < n → R w X E (g i) (cs.getD i undef)) :
    ∃ v, (Go.part t cs off).run P w = .ok v w ∧ (if ag = true then ∃ vs, v = .agg vs ∧ vs.size = m ∧ ∀ i, i < m → R w X E (g (off + i)) (vs.getD i undef) else R w X E (g off) v) := by
  obtain ⟨h1, h2⟩ := tinf_spec ht w
  cases ag with
  | true =>
    have hg : ∀ i, i < m → (cs.extract off (off + m)).getD i undef = cs.getD (off + i) undef := fun i hi => by
      rw [Array.getD_eq_getD_getElem?, Array.getElem?_extract, if_pos (by omega), Array.getD_eq_getD_getElem?]
    refine ⟨.agg (cs.extract off (off + m)), by simp [Go.part, h1, h2], ?_⟩
    rw [if_pos rfl]
    exact ⟨_, rfl, by rw [Array.size_extract]; omega, fun i hi => by rw [hg i hi]; exact h _ (by omega)⟩
  | false =>
    have : cs[off]? = some (cs.getD off undef) := by rw [Array.getD_eq_getD_getElem?, Array.getElem?_eq_getElem (by omega)]; rfl
    refine ⟨cs.getD off undef, by simp only [Go.part, Sem.run_bind, h1, Result.andThen_ok, this, Bool.false_eq_true, if_false, Sem.run_pure], ?_⟩
    rw [if_neg (by simp)]
    exact h _ (by omega)
theorem tinf_of {P : Program} {t : TypeId} {m : Nat} {a : Bool} (h : tinf P t = some (m, a)) : ∃ i d, P.info? t = some i ∧ P.underlying t = some d ∧ i.size = m ∧ a = (match d with | .struct _ | .array _ _ => true | _ => false) := by
  unfold tinf at h
  cases hi : P.info? t with
  | none => simp [hi] at h
  | some i =>
    cases hd : P.underlying t with
    | none => simp [hi, hd] at h
    | some d =>
      simp only [hi, hd, Option.some.injEq, Prod.mk.injEq] at h
      exact ⟨i, d, rfl, rfl, h.1, h.2.symm⟩
theorem flat_eq {P : Program} {w : World} {X : Nat → Prop} {E : Env} : ∀ (d : Nat) (t : TypeId) (ks : List CK), flatT P d t = some ks → ∀ (m : Nat) (ag : Bool), tinf P t = some (m, ag) → m = ks.length → 0 < m → ∀ (D : Nat), d ≤ D → ∀ (g f : Nat → SV) (x y : Value) (b : Bool),
    Cmp w X E m ag g f x y → eqCells g f ks 0 = some b → (Op.equalIn D t x y).run P w = .ok b w := by
  intro d
  induction d with
  | zero => intro t ks h; simp [flatT] at h
  | succ d ih =>
    intro t ks h m ag hti hm hpos D hD g f x y b hc he
    obtain ⟨D, rfl⟩ : ∃ D', D = D' + 1 := ⟨D - 1, by omega⟩
    obtain ⟨i, dd, hi, hd, hsz, hag⟩ := tinf_of hti
    -- a part
    have sub : ∀ (t' : TypeId) (ks' : List CK) (m' : Nat) (ag' : Bool), flatT P d t' = some ks' → tinf P t' = some (m', ag') → m' = ks'.length → 0 < m' → ∀ (n off : Nat) (xs ys : Array Value) (c : Bool), xs.size = n → ys.size = n → off + m' ≤ n →
        (∀ i, i < n → R w X E (g i) (xs.getD i undef)) → (∀ i, i < n → R w X E (f i) (ys.getD i undef)) → eqCells g f ks' off = some c →
        ∃ u v, (Go.part t' xs off).run P w = .ok u w ∧ (Go.part t' ys off).run P w = .ok v w ∧ (Op.equalIn D t' u v).run P w = .ok c w := by
      intro t' ks' m' ag' hf' hti' hm' hpos' n off xs ys c hxs hys hle hx hy hcc
      obtain ⟨u, hu, hu2⟩ := part_cmp (P := P) hti' hxs hpos' hle hx
      obtain ⟨v, hv, hv2⟩ := part_cmp (P := P) hti' hys hpos' hle hy
      refine ⟨u, v, hu, hv, ih t' ks' hf' m' ag' hti' hm' hpos' D (by omega) (fun j => g (off + j)) (fun j => f (off + j)) u v c ?_ ?_⟩
      · unfold Cmp
        cases ag' with
        | true =>
          simp only [if_true] at hu2 hv2 ⊢
          obtain ⟨us, rfl, h1, h2⟩ := hu2
          obtain ⟨vs, rfl, h3, h4⟩ := hv2
          exact ⟨us, vs, rfl, rfl, h1, h3, h2, h4⟩
        | false =>
          simp only [Bool.false_eq_true, if_false] at hu2 hv2 ⊢
          exact ⟨hu2, hv2⟩
      · rw [← eqCells_shift]; exact hcc
    simp only [flatT, hd] at h
    have scal : ∀ (k : CK), KindOK P t k → ks = [k] → ag = false → (Op.equalIn (D + 1) t x y).run P w = .ok b w := by
      intro k hk hks ha
      subst hks
      subst ha
      unfold Cmp at hc
      rw [if_neg (by simp)] at hc
      simp only [eqCells] at he
      cases hq : eqC k (g 0) (f 0) with
      | none => rw [hq] at he; cases he
      | some c =>
        rw [hq] at he
        simp only [Option.some.injEq, Bool.and_true] at he
        subst he
        exact eqC_sound hc.1 hc.2 hq D hk
    cases dd with
    | bool => cases h; exact scal .bool hd rfl hag
    | int k => cases h; exact scal .int ⟨k, hd⟩ rfl hag
    | string => cases h; exact scal .str hd rfl hag
    | array len e =>
      subst hag
      unfold Cmp at hc
      rw [if_pos rfl] at hc
      obtain ⟨xs, ys, rfl, rfl, hxs, hys, hx, hy⟩ := hc
      simp only at h
      cases hf' : flatT P d e with
      | none => rw [hf'] at h; cases h
      | some ks' =>
        rw [hf'] at h
        cases hti' : tinf P e with
        | none => rw [hti'] at h; cases h
        | some q =>
          obtain ⟨m', ag'⟩ := q
          rw [hti'] at h
          simp only at h
          obtain ⟨⟨hm', hpos'⟩, rfl⟩ := ite_some h
          obtain ⟨i', dd', hi', _, hsz', _⟩ := tinf_of hti'
          have hcell : P.cellsOf e = m' := by unfold Program.cellsOf; rw [hi']; exact hsz'
          rw [run_equalIn_array w D xs ys hd hi', hcell]
          have hlen : ∀ n, (rep ks' n).length = n * m' := by
            intro n
            induction n with
            | zero => simp [rep]
            | succ n ihn => simp only [rep, List.length_append, ihn, ← hm']; rw [Nat.add_mul]; omega
          have key : ∀ (k j : Nat) (c : Bool), (j + k) * m' ≤ m → eqCells g f (rep ks' k) (j * m') = some c → (Op.eqItems D e m' xs ys (List.range' j k)).run P w = .ok c w := by
            intro k
            induction k with
            | zero => intro j c _ hc; simp only [rep, eqCells, Option.some.injEq] at hc; subst hc; simp [Op.eqItems]
            | succ k ihk =>
              intro j c hle hc
              obtain ⟨c1, c2, e1, e2, rfl⟩ := eqCells_append hc
              have hle2 : j * m' + m' ≤ m := by
                have : (j + 1) * m' ≤ (j + (k + 1)) * m' := Nat.mul_le_mul_right _ (by omega)
                rw [Nat.add_mul] at this
                omega
              obtain ⟨u, v, p1, p2, p3⟩ := sub e ks' m' ag' hf' hti' hm' hpos' m (j * m') xs ys c1 hxs hys hle2 hx hy e1
              have ih2 := ihk (j + 1) c2 (by rw [show j + 1 + k = j + (k + 1) by omega]; exact hle) (by rw [Nat.add_mul, Nat.one_mul, hm']; rw [hm'] at e2; exact e2)
              rw [List.range'_succ]
              simp only [Op.eqItems, Sem.run_bind, p1, p2, p3, Result.andThen_ok, Sem.run_ite, ih2, Sem.run_pure]
              cases c1 <;> simp
          rw [List.range_eq_range']
          exact key len 0 b (by rw [Nat.zero_add, hm, hlen]; exact Nat.le_refl _) (by rw [Nat.zero_mul]; exact he)
    | struct fs =>
      subst hag
      unfold Cmp at hc
      rw [if_pos rfl] at hc
      obtain ⟨xs, ys, rfl, rfl, hxs, hys, hx, hy⟩ := hc
      simp only at h
      split at h
      · cases h
      · rename_i hst
        have hfo : P.fieldsOf t = fs := by unfold Program.fieldsOf; rw [hd]
        rw [run_equalIn_struct w D t xs ys (by rw [hfo]; exact hd) (by simpa using hst), hfo]
        have key : ∀ (l : List Field) (off : Nat) (ks : List CK) (c : Bool), flatFs P (flatT P d) l off = some ks → off + ks.length ≤ m → eqCells g f ks off = some c → (Op.eqFields D xs ys l).run P w = .ok c w := by
          intro l
          induction l with
          | nil => intro off ks c hfl _ hc; simp only [flatFs, Option.some.injEq] at hfl; subst hfl; simp only [eqCells, Option.some.injEq] at hc; subst hc; simp [Op.eqFields]
          | cons fd l ihl =>
            intro off ks c hfl hle hc
            simp only [flatFs] at hfl
            split at hfl
            case isFalse => cases hfl
            rename_i hcond
            obtain ⟨hname, hoff⟩ := hcond
            cases hf' : flatT P d fd.type with
            | none => rw [hf'] at hfl; cases hfl
            | some ks' =>
              rw [hf'] at hfl
              cases hti' : tinf P fd.type with
              | none => rw [hti'] at hfl; cases hfl
              | some q =>
                obtain ⟨m', ag'⟩ := q
                rw [hti'] at hfl
                simp only at hfl
                split at hfl
                case isFalse => cases hfl
                rename_i hmm
                obtain ⟨hm', h0⟩ := hmm
                cases hr : flatFs P (flatT P d) l (off + m') with
                | none => rw [hr] at hfl; cases hfl
                | some r =>
                  rw [hr] at hfl
                  cases hfl
                  obtain ⟨c1, c2, e1, e2, rfl⟩ := eqCells_append hc
                  rw [List.length_append] at hle
                  · obtain ⟨u, v, p1, p2, p3⟩ := sub fd.type ks' m' ag' hf' hti' hm' h0 m off xs ys c1 hxs hys (by omega) hx hy e1
                    have ih2 := ihl (off + m') r c2 hr (by omega) (by rw [hm']; exact e2)
                    rw [← hoff] at p1 p2
                    simp only [Op.eqFields, ne_eq, hname, not_false_eq_true, if_true, Sem.run_bind, p1, p2, p3, Result.andThen_ok, Sem.run_ite, ih2, Sem.run_pure]
                    cases c1 <;> simp
        exact key fs.toList 0 ks b h (by rw [Nat.zero_add, hm]; exact Nat.le_refl _) he
    | _ => simp at h
/-- A flat type's aggregates compare cell by cell. -/
theorem eqOK_of {P : Program} {t : TypeId} {ks : List CK} (h : flatT P 8 t = some ks) {m : Nat} (ht : tinf P t = some (m, true)) (hm : m = ks.length) (hpos : 0 < m) (hg : P.eqGuardType P.depth t = false) : EqOK P t ks := by
  intro w X E g f xs ys b hx hy he hrx hry x y
  refine ⟨run_eqGuard_agg w .eql t x y xs ys hg, run_eqGuard_agg w .neq t x y xs ys hg, ?_⟩
  refine flat_eq (X := X) (E := E) 8 t ks h m true ht hm hpos 10000 (by omega) g f _ _ b ?_ he
  unfold Cmp
  rw [if_pos rfl]
  exact ⟨xs, ys, rfl, rfl, by omega, by omega, fun i hi => hrx i (by omega), fun i hi => hry i (by omega)⟩
/-- A goal said in the form to which it is reckoned. -/
theorem vc_of {A B : Prop} (h : A = B) (hb : B) : A := h ▸ hb
def AllOK (P : Program) : List FSpec → Prop
  | [] => True
  | s :: r => SpecOK P s ∧ AllOK P r
theorem all_ok {P : Program} : ∀ {l : List FSpec}, AllOK P l → ∀ s ∈ l, SpecOK P s
  | [], _, s, hs => (List.not_mem_nil hs).elim
  | t :: r, h, s, hs => by
    rcases List.mem_cons.1 hs with rfl | hs
    · exact h.1
    · exact all_ok h.2 s hs
def AllEq (P : Program) : List (TypeId × List CK) → Prop
  | [] => True
  | e :: r => EqOK P e.1 e.2 ∧ AllEq P r
theorem all_eq {P : Program} : ∀ {l : List (TypeId × List CK)}, AllEq P l → ∀ t n, (t, n) ∈ l → EqOK P t n
  | [], _, t, n, hs => (List.not_mem_nil hs).elim
  | e :: r, h, t, n, hs => by
    rcases List.mem_cons.1 hs with he | hs
    · have := h.1; rw [← he] at this; exact this
    · exact all_eq h.2 t n hs
/-- A literal row of values. -/
def lst (l : List SV) (i : Nat) : SV := l.getD i .any
def intOf : SV → Int
  | .int _ n => n
  | _ => 0
def boolOf : SV → Bool
  | .bool b => b
  | .lit b => b
  | _ => false
def A0 : Ann := ⟨[], []⟩
end Go.Proofs.Ytfjbjbmbdadmhaa.Sx
/- A law's function, called with the values of its parameters. -/
namespace Go.Proofs.Ytfjbjbmbdadmhaa.Sx
open Go.RowKit
/-- A value that stands for nothing of the call's own. -/
def noOwn : SV → Prop
  | .fn _ _ g => ∀ i, noOwn (g i)
  | .agg _ g => ∀ i, noOwn (g i)
  | .tup _ g => ∀ i, noOwn (g i)
  | .sl _ _ g => ∀ i j, noOwn (g i j)
  | .slN .. => False
  | .ref _ g => ∀ i, noOwn (g i)
  | .own .. => False
  | .osl .. => False
  | .ownAt .. => False
  | .win .. => False
  | _ => True
theorem allN_of {p : Nat → Prop} (h : ∀ i, p i) : ∀ n, allN n p
  | 0 => trivial
  | n + 1 => ⟨allN_of h n, h n⟩
theorem SVle.refl : ∀ {s : SV} (H H' : List SO), noOwn s → SVle H H' s s := by
  intro s
  induction s with
  | any => intro H H' _; exact trivial
  | int k n => intro H H' _; exact ⟨⟨rfl⟩, ⟨rfl⟩⟩
  | bool b => intro H H' _; exact ⟨rfl⟩
  | lit b => intro H H' _; exact ⟨rfl⟩
  | str b => intro H H' _; exact ⟨rfl⟩
  | nilfn => intro H H' _; exact trivial
  | cap0 => intro H H' _; exact trivial
  | fn f n g ih => intro H H' h; simp only [SVle, if_true]; exact ⟨⟨trivial⟩, allN_of (fun i => ih i H H' (h i)) n⟩
  | agg n g ih => intro H H' h; simp only [SVle, if_true]; exact allN_of (fun i => ih i H H' (h i)) n
  | tup n g ih => intro H H' h; simp only [SVle, if_true]; exact allN_of (fun i => ih i H H' (h i)) n
  | sl len n g ih => intro H H' h; simp only [SVle, if_true]; exact ⟨⟨trivial⟩, fun i _ => allN_of (fun j => ih i j [] [] (h i j)) n⟩
  | ref n g ih => intro H H' h; simp only [SVle, Nat.le_refl, if_true]; exact allN_of (fun i => ih i [] [] (h i)) n
  | own k off => intro H H' h; exact h.elim
  | osl k ver => intro H H' h; exact h.elim
  | ownAt k ver i n off => intro H H' h; exact h.elim
  | win k ver n lo len => intro H H' h; exact h.elim
  | nilsl => intro H H' _; exact trivial
  | slN => intro H H' h; exact h.elim
def noOwns : List SV → Prop
  | [] => True
  | s :: l => noOwn s ∧ noOwns l
theorem leArgs_refl : ∀ {l : List SV}, noOwns l → mkSpec.leArgs l l
  | [], _ => trivial
  | _ :: _, h => ⟨SVle.refl [] [] h.1, leArgs_refl h.2⟩
theorem noOwn_lst : ∀ {l : List SV}, noOwns l → ∀ i, noOwn (lst l i)
  | [], _, _ => trivial
  | _ :: _, h, 0 => h.1
  | _ :: _, h, i + 1 => noOwn_lst h.2 i
/-- Values one by one. -/
def RL (w : World) (X : Nat → Prop) : List SV → List Value → Prop
  | [], [] => True
  | s :: l, v :: r => R w X E0 s v ∧ RL w X l r
  | _, _ => False
theorem RL.len {w X} : ∀ {l : List SV} {r : List Value}, RL w X l r → r.length = l.length
  | [], [], _ => rfl
  | _ :: _, _ :: _, h => congrArg Nat.succ (RL.len h.2)
  | [], _ :: _, h => h.elim
  | _ :: _, [], h => h.elim
theorem RL.get {w X} : ∀ {l : List SV} {r : List Value}, RL w X l r → ∀ i, i < l.length → R w X E0 (l.getD i .any) (r.getD i undef)
  | [], [], _, _, hi => absurd hi (Nat.not_lt_zero _)
  | _ :: _, _ :: _, h, 0, _ => h.1
  | _ :: _, _ :: _, h, i + 1, hi => RL.get h.2 i (Nat.lt_of_succ_lt_succ hi)
  | [], _ :: _, h, _, _ => h.elim
  | _ :: _, [], h, _, _ => h.elim
/-- An aggregate whose cells are integers and the like. -/
theorem R_agg {w X} {l : List SV} {r : List Value} {n : Nat} (h : RL w X l r) (hn : r.length = n) (ho : ∀ v ∈ r, oneCell v) : R w X E0 (.agg n (lst l)) (.agg r.toArray) := by
  have hl := h.len
  subst hn
  refine .agg (by simp) (fun i hi => ?_) (fun i hi => ?_)
  · rw [Array.getD_eq_getD_getElem?, List.getElem?_toArray, List.getElem?_eq_getElem hi]
    exact ho _ (List.getElem_mem hi)
  · have := h.get i (by omega)
    rw [Array.getD_eq_getD_getElem?, List.getElem?_toArray, ← List.getD_eq_getElem?_getD]
    exact this
/-- A law's function returns true, at all that its parameters' types allow. -/
theorem law_ok {P : Program} {f : FuncId} {γ : Type} {dec : List SV → Option γ} {args : γ → List SV} {pre : γ → Prop} (h : SpecOK P (mkSpec f dec args pre fun _ => .bool true)) (g : γ) (hd : dec (args g) = some g) (hn : noOwns (args g)) (hp : pre g)
    {vals : List Value} {w : World} (hR : RL w (fun _ => False) (args g) vals) (hpu : (args g).all (isPure 6) = true := by rfl) : Calls P f vals.toArray w fun e w' => e = .returned (.bool true) ∧ Below w.heap.size w w' := by
  have hrep : Rep w (Fr.of fun _ => False) [] E0 w := ⟨Bel.refl _ _, fun b hb => hb.elim, fun k e he => (nomatch he), fun k e he => (nomatch he), fun k e he => (nomatch he), fun k e b he => (nomatch he), fun k k' e e' b he => (nomatch he)⟩
  refine (h.2.2 (args g) [] 0 ⟨mkSpec.leArgs (args g) (args g) ∧ Ask (pre g), .bool true, .keep⟩ ?_ ⟨leArgs_refl hn, ⟨hp⟩⟩ w (Fr.of fun _ => False) E0 w hrep (fun so hso => by cases hso) vals.toArray ?_).mono ?_
  · simp only [mkSpec]
    rw [hd, hpu]
  · refine ⟨by rw [← hR.len]; simp, fun i hi => ?_⟩
    have := (hR.get i hi).mono (X' := Xo (Fr.of fun _ => False) E0 []) (fun _ _ _ => rfl) (fun b _ hb => hb.elim id fun ⟨k, e, he, _⟩ => (nomatch he)) (Env.le_refl _)
    rw [Array.getD_eq_getD_getElem?, List.getElem?_toArray, ← List.getD_eq_getElem?_getD]
    exact this
  · rintro e w' ⟨v, rfl, E', _, _, _, hr, hv, _⟩
    rw [bool_inv hv]
    exact ⟨rfl, hr.below.all⟩
/-- All of a list. -/
def AllP (p : Int → Prop) : List Int → Prop
  | [] => True
  | x :: r => p x ∧ AllP p r
theorem AllP.mem {p : Int → Prop} : ∀ {l : List Int}, AllP p l → ∀ x ∈ l, p x
  | [], _, x, hx => (List.not_mem_nil hx).elim
  | y :: r, h, x, hx => by
    rcases List.mem_cons.1 hx with rfl | hx
    · exact h.1
    · exact h.2.mem x hx
/-- A slice's length; cell j of its elements. -/
def slLen : SV → Nat
  | .sl n _ _ => n
  | .slN n _ _ => n
  | _ => 0
end Go.Proofs.Ytfjbjbmbdadmhaa.Sx
