/- The evaluation tells the truth: calls of functions by their specifications. -/
import Derived.Test.YtbmgclpgompjmaaDoorSxj
namespace Go.Proofs.YtbmgclpgompjmaaDoor.Sx
open Go.RowKit
/-- HF knows what H knows. -/
def Ext (H HF : List SO) : Prop := ∀ k, H.getD k .dead ≠ .dead → HF.getD k .dead = H.getD k .dead
/-- The arguments' values. -/
def ArgsR (w : World) (X : Nat → Prop) (E : Env) (ss : List SV) (vs : Array Value) : Prop := vs.size = ss.length ∧ ∀ i, i < ss.length → R w X E (ss.getD i .any) (vs.getD i undef)
/-- The function answers as its specification says, whatever lies in memory besides. -/
def SpecOK (P : Program) (s : FSpec) : Prop :=
  (∀ args w, (callFunc s.f args).run P w = .ok (.enter s.f args) w) ∧
  (∀ args H HF nm y, Ext H HF → (∀ l, y.eff ≠ .sets l) → s.run args H nm = some y → s.run args HF nm = some y) ∧
  ∀ (args : List SV) (H : List SO) (nm : Nat) (y : Yd), s.run args H nm = some y → y.ask → ∀ (w0 : World) (X0 : Fr) (E : Env) (w : World), Rep w0 X0 H E w → Free H E nm y.eff → ∀ (vals : Array Value), ArgsR w (Xo X0 E H) E args vals →
    Calls P s.f vals w fun e w' => ∃ v, e = .returned v ∧ Goes w0 X0 H E w nm y.eff y.val v w'
theorem findS_mem {specs : List FSpec} {f : FuncId} {s : FSpec} (h : findS specs f = some s) : s ∈ specs ∧ s.f = f := by
  induction specs with
  | nil => simp [findS] at h
  | cons t r ih =>
    simp only [findS] at h
    split at h
    · rename_i hf
      cases h
      exact ⟨List.mem_cons_self, hf⟩
    · obtain ⟨h1, h2⟩ := ih h
      exact ⟨List.mem_cons_of_mem _ h1, h2⟩
theorem Rep.ext' {w0 X0 H H' E w} (h : Rep w0 X0 H E w) (hl : H.length ≤ H'.length) (hh' : ∀ k e, E k = some e → H'.getD k .dead = H.getD k .dead) : Rep w0 X0 H' E w := by
  refine ⟨h.below, h.x0, h.nm, fun k e he => Nat.lt_of_lt_of_le (h.dom k e he) hl, fun k e he => ?_, fun k e b he hb => ?_, fun k k' e e' b he he' hb hb' => ?_⟩
  · rw [Xo_ext hh', hh' k e he]; exact h.ok k e he
  · rw [hh' k e he] at hb; exact h.low k e b he hb
  · rw [hh' k e he] at hb; rw [hh' k' e' he'] at hb'; exact h.inj k k' e e' b he he' hb hb'
theorem frzO_frz {H : List SO} {k : Nat} {so : SO} (h : frzO H k = some so) : frz H k = some (H.set k so) := by
  unfold frzO at h
  unfold frz
  generalize H.getD k .dead = o at *
  cases o <;> simp only [reduceCtorEq] at h
  · obtain ⟨h1, rfl⟩ := ite_some h
    simp only
    rw [if_pos h1]
  · cases h; rfl
theorem frzO_sound {w0 X0 H E w} (h : Rep w0 X0 H E w) {k : Nat} {so : SO} (hf : frzO H k = some so) : Rep w0 X0 (H.set k so) E w ∧ Within (Xo X0 E H) (Xo X0 E (H.set k so)) w := by
  cases hk : E k with
  | some e => exact h.frz (frzO_frz hf) hk
  | none =>
    have hh : ∀ j e, E j = some e → (H.set k so).getD j .dead = H.getD j .dead := fun j e hj => getD_set_ne' (fun hc => by subst hc; rw [hk] at hj; cases hj)
    refine ⟨h.ext' (by simp) hh, ?_⟩
    rw [Xo_ext hh]
    exact Within.refl _ _
theorem Within.trans {X Y Z : Nat → Prop} {w : World} (h : Within X Y w) (k : Within Y Z w) : Within X Z w := fun b hb hz => h b hb (k b hb hz)
theorem frzAll_sound {w0 X0 E w} : ∀ (ks : List Nat) (H : List SO) (l : List (Nat × SO)), Rep w0 X0 H E w → frzAll H ks = some l → Rep w0 X0 (applyS H l) E w ∧ Within (Xo X0 E H) (Xo X0 E (applyS H l)) w
  | [], H, l, h, hl => by simp only [frzAll, Option.some.injEq] at hl; subst hl; exact ⟨h, Within.refl _ _⟩
  | k :: r, H, l, h, hl => by
    simp only [frzAll] at hl
    cases hf : frzO H k with
    | none => rw [hf] at hl; exact frzAll_sound r H l h hl
    | some so =>
      rw [hf] at hl
      simp only at hl
      cases hr : frzAll (H.set k so) r with
      | none => rw [hr] at hl; cases hl
      | some l' =>
        rw [hr] at hl
        simp only [Option.map_some, Option.some.injEq] at hl
        subst hl
        obtain ⟨h1, h2⟩ := frzO_sound h hf
        obtain ⟨h3, h4⟩ := frzAll_sound r _ l' h1 hr
        exact ⟨h3, h2.trans h4⟩
theorem evCall_spec {specs : List FSpec} {f : FuncId} {H : List SO} {nm : Nat} {ss : List SV} {y : Yd} (hy : evCall specs f H nm ss = some y) :
    ∃ s ∈ specs, s.f = f ∧ s.run ss H nm = some y ∧ (∀ l, y.eff = .sets l → s.eff = true) := by
  unfold evCall at hy
  cases hs : findS specs f with
  | none => simp [hs] at hy
  | some s =>
    obtain ⟨hmem, rfl⟩ := findS_mem hs
    simp only [hs] at hy
    cases hr : s.run ss H nm with
    | none => simp [hr] at hy
    | some y' =>
      simp only [hr] at hy
      split at hy
      · rename_i l hl
        split at hy
        · rename_i he; cases hy; exact ⟨s, hmem, rfl, hr, fun _ _ => he⟩
        · cases hy
      · rename_i hne; cases hy; exact ⟨s, hmem, rfl, hr, fun l hl => absurd hl (hne l)⟩
theorem evCall_ext {P : Program} {specs : List FSpec} (hspecs : ∀ s ∈ specs, SpecOK P s) {f : FuncId} {H HF : List SO} {nm : Nat} {ss : List SV} {y : Yd} (he : Ext H HF) (hns : ∀ l, y.eff ≠ .sets l) (hy : evCall specs f H nm ss = some y) : evCall specs f HF nm ss = some y := by
  unfold evCall at hy ⊢
  cases hs : findS specs f with
  | none => simp [hs] at hy
  | some s =>
    obtain ⟨hmem, rfl⟩ := findS_mem hs
    simp only [hs] at hy ⊢
    cases hr : s.run ss H nm with
    | none => simp [hr] at hy
    | some y' =>
      simp only [hr] at hy
      have hyy : y' = y := by
        split at hy
        · split at hy
          · exact Option.some.inj hy
          · cases hy
        · exact Option.some.inj hy
      subst hyy
      rw [(hspecs s hmem).2.1 ss H HF nm y' he hns hr]
      exact hy
/-- A call: what the specification answers. -/
theorem evCall_sound {P : Program} {w0 X0 H E w nm} (h : Rep w0 X0 H E w) {specs : List FSpec} (hspecs : ∀ s ∈ specs, SpecOK P s) {f : FuncId} {ss : List SV} {vs : Array Value} (ha : ArgsR w (Xo X0 E H) E ss vs) {y : Yd}
    (hy : evCall specs f H nm ss = some y) (hask : y.ask) (hf : Free H E nm y.eff) : (callFunc f vs).run P w = .ok (.enter f vs) w ∧ Calls P f vs w fun e w' => ∃ v, e = .returned v ∧ Goes w0 X0 H E w nm y.eff y.val v w' := by
  obtain ⟨s, hmem, rfl, hr, _⟩ := evCall_spec hy
  obtain ⟨hent, _, hok⟩ := hspecs s hmem
  exact ⟨hent vs w, hok ss H nm y hr hask w0 X0 E w h hf vs ha⟩
/-! The operations. -/
def mapArgs (N : Nat) (τ : Tmps) (xs : Array Operand) : List SV := xs.toList.map (evO N τ)
def optO (N : Nat) (τ : Tmps) : Option Operand → Option (Option (IntKind × Int))
  | none => some none
  | some x => match evO N τ x with
    | .int k n => some (some (k, n))
    | _ => none
def evBuiltin (P : Program) (H : List SO) (nm : Nat) (b : Builtin) (ats : Array TypeId) (ss : List SV) : Option Yd :=
  match b with
  | .append => match ats.toList, ss with
    | [t, t'], [s, x] => if t = t' then match tsl P t with
      | some te => match tzero P te.1 with
        | some _ => evAppend te H nm s x
        | none => none
      | none => none
      else none
    | _, _ => none
  | .len => match ats.toList, ss with
    | [t], [s] => match tsl P t with
      | some _ => match s with
        | .str _ => none
        | s => match lenOf H s with
          | some n => some ⟨True, .int .i64 (n : Int), .keep⟩
          | none => none
      | none => match tarr P t with
        | some ai => pureY (.int .i64 ai.1)
        | none => none
    | _, _ => none
  | .copy => match ats.toList, ss with
    | [t, _], [s, x] => match tsl P t with
      | some te => evCopy te H s x
      | none => none
    | _, _ => none
  | .min => evMin (fun a b => if b < a then b else a) ss
  | .max => evMin (fun a b => if b > a then b else a) ss
  | _ => none
def evOp (P : Program) (specs : List FSpec) (eqs : List (TypeId × List CK)) (N : Nat) (τ : Tmps) (H : List SO) (nm : Nat) (o : Oper) : Option Yd :=
  match o.op with
  | .move x => pureY (evO N τ x)
  | .assign x => pureY (evO N τ x)
  | .pick c a b => match evO N τ c with
    | .lit t => match t with
      | true => pureY (evO N τ a)
      | false => pureY (evO N τ b)
    | .bool t => match asB (evO N τ a), asB (evO N τ b) with
      | some p, some q => pureY (.bool (if t = true then p else q))
      | _, _ => none
    | _ => none
  | .alloc T => match tzero P T with
    | some z => some ⟨True, .own nm 0, .new (.cells z.length (zeroF z) T)⟩
    | none => none
  | .box T x => match cellsOf (evO N τ x) with
    | some (n, g) => some ⟨True, .own nm 0, .new (.cells n g T)⟩
    | none => none
  | .build T parts => match tzero P T with
    | some z => match tflds P T with
      | some fl => evBuildS z fl (parts.toList.map fun p => (p.1, evO N τ p.2))
      | none => match tarr P T with
        | some ai => evBuildA z ai.2.1 (parts.toList.map fun p => (p.1, evO N τ p.2))
        | none => none
    | none => none
  | .buildSlice T len parts => match tsl P T with
    | some te => match tzero P te.1 with
      | some z => evBuildSlice te z nm len (parts.toList.map fun p => (p.1, evO N τ p.2))
      | none => none
    | none => none
  | .load T x => match tinf P T with
    | some ti => evLoad ti H (evO N τ x)
    | none => none
  | .store T x z => match tinf P T with
    | some ti => evStore ti H (evO N τ x) (evO N τ z)
    | none => none
  | .nilCheck x => evNil (evO N τ x)
  | .binOp op T x y _ => match isNilO y with
    | true => match tsl P T with
      | some _ => evNilC op (evO N τ x)
      | none => none
    | false => ev2 op eqs (tbool P T) (tfunc P T) T (evO N τ x) (evO N τ y)
  | .unOp op _ x => ev1 op (evO N τ x)
  | .convert s d x => match tint P s, tint P d with
    | some _, some k => evConvert k (evO N τ x)
    | _, _ => none
  | .makeFunc (.func f) first caps => if first.size = 0 then pureY (.fn f caps.size (fun i => (mapArgs N τ caps).getD i .any)) else none
  | .makeSlice T l c => match tsl P T with
    | some te => match tzero P te.1 with
      | some z => match evO N τ l, evO N τ c with
        | .int _ l, .int _ c => evMakeSlice te z nm l c
        | _, _ => none
      | none => none
    | none => none
  | .slice T x lo hi mx => match tsl P T with
    | some te => match optO N τ lo, optO N τ hi, optO N τ mx with
      | some lo, some hi, some mx => match lo, hi, mx with
        | none, some (_, h), some (_, m) => if h = 0 ∧ m = 0 then evCut0 (evO N τ x) else evSlice te.2.1 H (optI lo) (optI hi) (optI mx) (evO N τ x)
        | _, _, _ => evSlice te.2.1 H (optI lo) (optI hi) (optI mx) (evO N τ x)
      | _, _, _ => none
    | none => none
  | .fieldAddr T x f => match tfld P T f with
    | some fd => evFieldAddr fd (evO N τ x)
    | none => none
  | .field T x f => match tfld P T f with
    | some fd => evField fd (evO N τ x)
    | none => none
  | .indexAddr T x i => match evO N τ i with
    | .int _ i => match tsl P T with
      | some te => evIndexAddrS te.2.1 H i (evO N τ x)
      | none => match tarr P T with
        | some ai => evIndexAddrA ai.1 ai.2.1 i (evO N τ x)
        | none => none
    | _ => none
  | .index T x i => match evO N τ i with
    | .int _ i => match tarr P T with
      | some ai => evIndex ai i (evO N τ x)
      | none => none
    | _ => none
  | .extract x i => evExtract i (evO N τ x)
  | .call c => match c.callee with
    | .builtin b => evBuiltin P H nm b c.argTypes (mapArgs N τ c.args)
    | .value f => match evO N τ f with
      | .fn F n g => evCall specs F H nm (mapArgs N τ c.args ++ (List.range n).map g)
      | _ => none
    | _ => none
  | _ => none
end Go.Proofs.YtbmgclpgompjmaaDoor.Sx
