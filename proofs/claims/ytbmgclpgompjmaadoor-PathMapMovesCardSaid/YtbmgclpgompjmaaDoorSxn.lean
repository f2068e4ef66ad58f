/- The evaluation of a region whose order is the text's. -/
import Derived.Test.YtbmgclpgompjmaaDoorSxm
namespace Go.Proofs.YtbmgclpgompjmaaDoor.Sx
open Go.RowKit
theorem Ext.app (H l : List SO) : Ext H (H ++ l) := by
  intro k hk
  refine getD_append_left (Nat.not_le.1 fun hc => hk ?_)
  rw [List.getD_eq_getElem?_getD, List.getElem?_eq_none hc]
  rfl
theorem evLoad_ext {ti H HF x y} (he : Ext H HF) (h : evLoad ti H x = some y) : evLoad ti HF x = some y := by
  cases x <;> simp only [evLoad, reduceCtorEq] at h ⊢
  case own k off =>
    generalize hk : H.getD k .dead = so at h
    cases so <;> simp only [reduceCtorEq] at h <;> rw [he k (by rw [hk]; simp), hk] <;> exact h
  case ownAt k ver i m off =>
    generalize hk : H.getD k .dead = so at h
    cases so <;> simp only [reduceCtorEq] at h <;> rw [he k (by rw [hk]; simp), hk] <;> exact h
  all_goals exact h
theorem evStore_ext {ti H HF x z y} (he : Ext H HF) (h : evStore ti H x z = some y) : evStore ti HF x z = some y := by
  unfold evStore at h ⊢
  cases hc : cellsOf z with
  | none => simp [hc] at h
  | some mf =>
    simp only [hc] at h ⊢
    split at h
    case isFalse => cases h
    rename_i hm
    rw [if_pos hm]
    cases x <;> simp only [reduceCtorEq] at h ⊢
    case own k off =>
      generalize hk : H.getD k .dead = so at h
      cases so <;> (try (simp only [reduceCtorEq] at h; done)) <;> rw [he k (by rw [hk]; simp), hk] <;> exact h
    case ownAt k ver i m off =>
      generalize hk : H.getD k .dead = so at h
      cases so <;> simp only [reduceCtorEq] at h <;> rw [he k (by rw [hk]; simp), hk] <;> exact h
theorem evIndexAddrS_ext {es H HF i x y} (he : Ext H HF) (h : evIndexAddrS es H i x = some y) : evIndexAddrS es HF i x = some y := by
  cases x <;> simp only [evIndexAddrS, reduceCtorEq] at h ⊢
  case osl k ver =>
    generalize hk : H.getD k .dead = so at h
    cases so <;> simp only [reduceCtorEq] at h <;> rw [he k (by rw [hk]; simp), hk] <;> exact h
  case win k ver n lo len =>
    generalize hk : H.getD k .dead = so at h
    cases so <;> simp only [reduceCtorEq] at h <;> rw [he k (by rw [hk]; simp), hk] <;> exact h
  all_goals exact h
theorem evSlice_ext {es H HF lo hi mx x y} (he : Ext H HF) (h : evSlice es H lo hi mx x = some y) : evSlice es HF lo hi mx x = some y := by
  cases x <;> simp only [evSlice, reduceCtorEq] at h ⊢
  case osl k ver =>
    generalize hk : H.getD k .dead = so at h
    cases so <;> simp only [reduceCtorEq] at h <;> rw [he k (by rw [hk]; simp), hk] <;> exact h
  case win k ver n lo0 len =>
    generalize hk : H.getD k .dead = so at h
    cases so <;> simp only [reduceCtorEq] at h <;> rw [he k (by rw [hk]; simp), hk] <;> exact h
  all_goals exact h
theorem srcOf_ext {H HF x y} (he : Ext H HF) (h : srcOf H x = some y) : srcOf HF x = some y := by
  cases x <;> simp only [srcOf, reduceCtorEq] at h ⊢
  case osl k ver =>
    generalize hk : H.getD k .dead = so at h
    cases so <;> simp only [reduceCtorEq] at h <;> rw [he k (by rw [hk]; simp), hk] <;> exact h
  case win k ver n lo len =>
    generalize hk : H.getD k .dead = so at h
    cases so <;> simp only [reduceCtorEq] at h <;> rw [he k (by rw [hk]; simp), hk] <;> exact h
  all_goals exact h
theorem lenOf_ext {H HF x y} (he : Ext H HF) (h : lenOf H x = some y) : lenOf HF x = some y := by
  have viaSrc : (srcOf H x).map (·.1) = some y → (srcOf HF x).map (·.1) = some y := by
    intro h
    cases hs : srcOf H x with
    | none => simp [hs] at h
    | some q => rw [srcOf_ext he hs]; rw [hs] at h; exact h
  cases x <;> first | exact h | exact viaSrc h
theorem evAppend_ext {te H HF nm s x y} (he : Ext H HF) (h : evAppend te H nm s x = some y) : evAppend te HF nm s x = some y := by
  unfold evAppend at h ⊢
  cases hs : srcOf H x with
  | none => simp [hs] at h
  | some q =>
    rw [srcOf_ext he hs]
    simp only [hs] at h ⊢
    split at h
    case isFalse => cases h
    rename_i hc
    rw [if_pos hc]
    cases s <;> simp only [reduceCtorEq] at h ⊢
    case osl k ver =>
      generalize hk : H.getD k .dead = so at h
      cases so <;> simp only [reduceCtorEq] at h <;> rw [he k (by rw [hk]; simp), hk] <;> exact h
    exact h
theorem evCopy_ext {te H HF s x y} (he : Ext H HF) (h : evCopy te H s x = some y) : evCopy te HF s x = some y := by
  unfold evCopy at h ⊢
  cases hs : srcOf H x with
  | none => simp [hs] at h
  | some q =>
    rw [srcOf_ext he hs]
    simp only [hs] at h ⊢
    cases s <;> simp only [reduceCtorEq] at h ⊢
    case osl k ver =>
      generalize hk : H.getD k .dead = so at h
      cases so <;> simp only [reduceCtorEq] at h <;> rw [he k (by rw [hk]; simp), hk] <;> exact h
    case win k ver n lo len =>
      generalize hk : H.getD k .dead = so at h
      cases so <;> simp only [reduceCtorEq] at h <;> rw [he k (by rw [hk]; simp), hk] <;> exact h
theorem evBuiltin_ext {P H HF nm b ats ss y} (he : Ext H HF) (h : evBuiltin P H nm b ats ss = some y) : evBuiltin P HF nm b ats ss = some y := by
  unfold evBuiltin at h ⊢
  split at h
  · split at h
    case h_2 => cases h
    split at h
    case isFalse => cases h
    rename_i htt
    subst htt
    simp only [if_true]
    split at h
    case h_2 => cases h
    split at h
    case h_2 => cases h
    exact evAppend_ext he h
  · split at h
    case h_2 => cases h
    split at h
    · split at h
      · cases h
      · split at h
        case h_2 => cases h
        rename_i n hn
        rw [lenOf_ext he hn]
        exact h
    · exact h
  · split at h
    case h_2 => cases h
    split at h
    case h_2 => cases h
    exact evCopy_ext he h
  · exact h
  · exact h
  · cases h
theorem evOp_ext {P : Program} {specs eqs N τ H HF nm o y} (hspecs : ∀ s ∈ specs, SpecOK P s) (he : Ext H HF) (hns : ∀ l, y.eff ≠ .sets l) (h : evOp P specs eqs N τ H nm o = some y) : evOp P specs eqs N τ HF nm o = some y := by
  unfold evOp at h ⊢
  split at h
  case h_8 =>
    rename_i T x ho
    cases hti : tinf P T with
    | none => simp [hti] at h
    | some ti => simp only [hti] at h ⊢; exact evLoad_ext he h
  case h_9 =>
    rename_i T x z ho
    cases hti : tinf P T with
    | none => simp [hti] at h
    | some ti => simp only [hti] at h ⊢; exact evStore_ext he h
  case h_16 =>
    rename_i T x lo hi mx ho
    cases hte : tsl P T with
    | none => simp [hte] at h
    | some te =>
      simp only [hte] at h ⊢
      split at h
      case h_2 => cases h
      split at h
      · split at h
        · rename_i hc
          rw [if_pos hc]
          exact h
        · rename_i hc
          rw [if_neg hc]
          exact evSlice_ext he h
      · exact evSlice_ext he h
  case h_19 =>
    rename_i T x i ho
    split at h
    case h_2 => cases h
    cases hte : tsl P T with
    | none => simp only [hte] at h ⊢; exact h
    | some te => simp only [hte] at h ⊢; exact evIndexAddrS_ext he h
  case h_22 =>
    rename_i c ho
    split at h
    · exact evBuiltin_ext he h
    · split at h
      · exact evCall_ext hspecs he hns h
      · cases h
    · cases h
  all_goals exact h
/-! Regions. -/
def undefS : SV := .tup 0 (fun _ => .any)
theorem undefS_sound {w X E} : R w X E undefS undef := .tup rfl fun _ hi => absurd hi (Nat.not_lt_zero _)
def putT (dst : Option Tmp) (s : SV) (τ : Tmps) : Tmps := match dst with
  | some d => (d, s) :: τ
  | none => τ
def nextH (H : List SO) : Eff → List SO
  | .keep => H
  | .new so => H ++ [so]
  | .sets l => applyS H l
/-- What a guard sees. -/
def gsv (N : Nat) (ops : Array Oper) (τ : Tmps) (j : Nat) : SV :=
  match (ops[j]?).bind (·.dst) with
  | some d => if d < N then lookT τ d else .any
  | none => .any
theorem TR.put {w X E N τ a dst s v} (h : TR w X E N τ a) (hr : R w X E s v) : TR w X E N (putT dst s τ) (a.put dst v) := by
  cases dst with
  | none => exact h
  | some d =>
    refine ⟨by simp [Act.put, h.1], h.2.1, fun t ht => ?_⟩
    simp only [Act.put, putT, lookT]
    by_cases hd : d = t
    · subst hd
      rw [if_pos rfl, Array.getD_eq_getD_getElem?, Array.getElem?_setIfInBounds_self_of_lt (by rw [h.1]; exact ht)]
      exact hr
    · rw [if_neg hd, Array.getD_eq_getD_getElem?, Array.getElem?_setIfInBounds_ne hd, ← Array.getD_eq_getD_getElem?]
      exact h.2.2 t ht
theorem TR.mono {w w' X X' E E' N τ a} (h : TR w X E N τ a) (hk : Keeps X w w') (hx : Within X X' w) (le : E.le E') : TR w' X' E' N τ a :=
  ⟨h.1, h.2.1, fun t ht => (h.2.2 t ht).mono hk hx le⟩
/-- A state of the evaluation, and a frame and a memory that it describes. -/
structure St : Type where
  τ : Tmps
  H : List SO
def StR (w0 : World) (X0 : Fr) (N : Nat) (s : St) (a : Act) (w : World) : Prop := ∃ E, Rep w0 X0 s.H E w ∧ TR w (Xo X0 E s.H) E N s.τ a
theorem yielded_sound {w X E N τ a ops} (h : TR w X E N τ a) (j : Nat) : (∀ b, asB (gsv N ops τ j) = some b → yielded ops a.tmps j = some b) ∧ (∀ n g, gsv N ops τ j = .tup n g → yielded ops a.tmps j = none) := by
  unfold gsv yielded
  cases hd : (ops[j]?).bind (·.dst) with
  | none => exact ⟨fun b hb => (nomatch hb), fun n g hb => (nomatch hb)⟩
  | some d =>
    simp only [Option.bind_some]
    by_cases hlt : d < N
    · rw [if_pos hlt]
      have hr := h.2.2 d hlt
      have hget : a.tmps[d]? = some (a.tmps.getD d undef) := by
        rw [Array.getD_eq_getD_getElem?, Array.getElem?_eq_getElem (by rw [h.1]; exact hlt)]; rfl
      rw [hget]
      refine ⟨fun b hb => ?_, fun n g hb => ?_⟩
      · rw [asB_inv hb hr]
      · rw [hb] at hr
        generalize a.tmps.getD d undef = v at hr
        cases hr with
        | tup => rfl
    · rw [if_neg hlt]
      exact ⟨fun b hb => (nomatch hb), fun n g hb => (nomatch hb)⟩
/-- Whether the guard lets the operation by. -/
def Want (N : Nat) (ops : Array Oper) (τ : Tmps) (o : Oper) (yes : Bool) : Prop :=
  match o.guard with
  | none => yes = true
  | some (j, want) => (∃ b, asB (gsv N ops τ j) = some b ∧ yes = (b == want)) ∨ (∃ n g, gsv N ops τ j = .tup n g ∧ yes = false)
theorem Want.wanted {w X E N τ a ops o yes} (h : TR w X E N τ a) (hw : Want N ops τ o yes) : Region.wanted o (yielded ops a.tmps) = yes := by
  unfold Want at hw
  unfold Region.wanted
  cases hg : o.guard with
  | none => rw [hg] at hw; exact hw.symm
  | some jw =>
    obtain ⟨j, want⟩ := jw
    rw [hg] at hw
    simp only at hw ⊢
    rcases hw with ⟨b, h1, rfl⟩ | ⟨n, g, h1, rfl⟩
    · rw [(yielded_sound h j).1 b h1]
      cases b <;> cases want <;> rfl
    · rw [(yielded_sound h j).2 n g h1]
      rfl
/-- One operation of the evaluation. -/
inductive Step (P : Program) (specs : List FSpec) (eqs : List (TypeId × List CK)) (N : Nat) (ops : Array Oper) (o : Oper) (s : St) : St → Prop
  | run {y v} (hw : Want N ops s.τ o true) (hy : evOp P specs eqs N s.τ s.H s.H.length o = some y) (hask : y.ask) (hv : ∀ w X E u, R w X E y.val u → R w X E v u) (hv2 : ∀ k o, y.val = .own k o → v = .own k o) (hv3 : ∀ n g, y.val = .ref n g → v = .ref n g) (hv4 : ∀ n m g, y.val = .sl n m g → v = .sl n m g) : Step P specs eqs N ops o s ⟨putT o.dst v s.τ, nextH s.H y.eff⟩
  | skip (hw : Want N ops s.τ o false) : Step P specs eqs N ops o s ⟨putT o.dst undefS s.τ, s.H⟩
theorem nextH_app {H : List SO} {y : Eff} {so : SO} (h : y = .new so) : nextH H y = H ++ [so] := by subst h; rfl
/-- The operation itself does what the evaluation says. -/
theorem run_sound {P : Program} {w0 X0 N} {specs : List FSpec} (hspecs : ∀ s ∈ specs, SpecOK P s) {eqs : List (TypeId × List CK)} (heqs : ∀ t n, (t, n) ∈ eqs → EqOK P t n) {s : St} {a : Act} {w : World}
    (h : StR w0 X0 N s a w) {o : Oper} {y : Yd} {sv : SV} (hy : evOp P specs eqs N s.τ s.H s.H.length o = some y) (hask : y.ask) (hsv : ∀ w X E u, R w X E y.val u → R w X E sv u) :
    OpOK P o a w (fun v w' => StR w0 X0 N ⟨putT o.dst sv s.τ, nextH s.H y.eff⟩ (a.put o.dst v) w') := by
  obtain ⟨E, hrep, htr⟩ := h
  have fin : ∀ {HF : List SO}, (appE HF y.eff = nextH s.H y.eff) → TR w (Xo X0 E HF) E N s.τ a → ∀ v w', Goes w0 X0 HF E w s.H.length y.eff y.val v w' → StR w0 X0 N ⟨putT o.dst sv s.τ, nextH s.H y.eff⟩ (a.put o.dst v) w' := by
    intro HF he htr v w' ⟨E', le, hk, hx, hr, hv, _⟩
    rw [he] at hx hr hv
    exact ⟨E', hr, (htr.mono hk hx le).put (hsv _ _ _ _ hv)⟩
  intro next Q hn
  cases he : y.eff with
  | keep =>
    exact evOp_sound hrep hspecs heqs htr hy hask (fun so hso => by rw [he] at hso; cases hso) next Q fun v w' hg => hn v w' (fin (by rw [he]; rfl) htr v w' hg)
  | sets l =>
    exact evOp_sound hrep hspecs heqs htr hy hask (fun so hso => by rw [he] at hso; cases hso) next Q fun v w' hg => hn v w' (fin (by rw [he]; rfl) htr v w' hg)
  | new so =>
    have hn0 : E s.H.length = none := by
      cases hc : E s.H.length with
      | none => rfl
      | some e => have := hrep.dom _ _ hc; omega
    have hext : ∀ k, k < s.H.length → (s.H ++ [so]).getD k .dead = s.H.getD k .dead := fun k hk => getD_append_left hk
    have hxo : Xo X0 E (s.H ++ [so]) = Xo X0 E s.H := Xo_ext fun k e hke => hext k (hrep.dom k e hke)
    refine evOp_sound (hrep.ext (by simp) hext) hspecs heqs (by rw [hxo]; exact htr) (evOp_ext hspecs (Ext.app _ _) (fun l hc => by rw [he] at hc; cases hc) hy) hask (fun so' hso => ?_) next Q fun v w' hg => hn v w' (fin (by rw [he]; rfl) (by rw [hxo]; exact htr) v w' hg)
    rw [he] at hso
    cases hso
    refine ⟨hn0, by simp, ?_⟩
    rw [List.getD_eq_getElem?_getD, List.getElem?_append_right (Nat.le_refl _)]
    simp
theorem skip_sound {w0 X0 N} {s : St} {a : Act} {w : World} (h : StR w0 X0 N s a w) (dst : Option Tmp) : StR w0 X0 N ⟨putT dst undefS s.τ, s.H⟩ (a.put dst undef) w := by
  obtain ⟨E, hrep, htr⟩ := h
  exact ⟨E, hrep, htr.put undefS_sound⟩
/-- A run through a list of operations. -/
inductive Tr (P : Program) (specs : List FSpec) (eqs : List (TypeId × List CK)) (N : Nat) (ops : Array Oper) : List Oper → St → St → Prop
  | nil {s} : Tr P specs eqs N ops [] s s
  | cons {o l s s1 s2} (h : Step P specs eqs N ops o s s1) (r : Tr P specs eqs N ops l s1 s2) : Tr P specs eqs N ops (o :: l) s s2
theorem tr_seq {P : Program} {w0 X0 N} {specs : List FSpec} (hspecs : ∀ s ∈ specs, SpecOK P s) {eqs : List (TypeId × List CK)} (heqs : ∀ t n, (t, n) ∈ eqs → EqOK P t n) {ops : Array Oper} {Q : Exit → Act → World → Prop} :
    ∀ {l : List Oper} {s s' : St}, Tr P specs eqs N ops l s s' → (∀ a w, StR w0 X0 N s' a w → Q .normal a w) → ∀ a w, StR w0 X0 N s a w → wpList P ops Q l a w := by
  intro l s s' ht hq
  induction ht with
  | nil => exact fun a w h => hq a w h
  | cons hs _ ih =>
    intro a w h
    obtain ⟨E, hrep, htr⟩ := id h
    simp only [wpList]
    cases hs with
    | run hw hy hask hv hv2 hv3 hv4 =>
      rw [if_pos (hw.wanted htr)]
      exact .inl (run_sound hspecs heqs h hy hask hv _ _ fun v w' hg => ih hq _ _ hg)
    | skip hw =>
      rw [if_neg (by rw [hw.wanted htr]; simp)]
      exact ih hq _ _ (skip_sound h _)
end Go.Proofs.YtbmgclpgompjmaaDoor.Sx
