/- printworkskeep1.paths: path.Rectangle, path.Text of the box, strconv.Itoa, strings.Join: by the evaluation and the shelf. -/
import Derived.Test.YtbmgclpgompjmaaDoorPrv
import Derived.Test.YtbmgclpgompjmaaDoorShelf
set_option linter.unusedSimpArgs false
set_option linter.unusedVariables false
namespace Go.Proofs.YtbmgclpgompjmaaDoor.Pte
open Go.RowKit Sx Num Aff Con Cop Coh Pth Pmp
set_option maxRecDepth 100000
/-! A call that is handed, at the places is, what is the caller's own: this is given away for reading; the rest as it is. -/
def pickAt (is : List Nat) : Nat → List SV → List SV
  | _, [] => []
  | k, s :: r => match is.contains k with
    | true => s :: pickAt is (k + 1) r
    | false => pickAt is (k + 1) r
def purAt (is : List Nat) (H : List SO) : Nat → List SV → Option (List SV)
  | _, [] => some []
  | k, s :: r => match is.contains k with
    | true => match pur H 6 s with
      | some s' => match purAt is H (k + 1) r with
        | some r' => some (s' :: r')
        | none => none
      | none => none
    | false => match purAt is H (k + 1) r with
      | some r' => some (s :: r')
      | none => none
theorem purAt_sound {w0 X0 H E w} (h : Rep w0 X0 H E w) {is : List Nat} : ∀ {l : List SV} {k : Nat} {l' : List SV}, purAt is H k l = some l' → l'.length = l.length ∧ ∀ i v, i < l.length → R w (Xo X0 E H) E (l.getD i .any) v → R w (Xo X0 E H) E (l'.getD i .any) v
  | [], k, l', hp => by cases hp; exact ⟨rfl, fun i v hi => absurd hi (Nat.not_lt_zero _)⟩
  | s :: r, k, l', hp => by
    simp only [purAt] at hp
    split at hp
    · split at hp
      case h_2 => cases hp
      rename_i s' hs
      split at hp
      case h_2 => cases hp
      rename_i r' hr
      cases hp
      obtain ⟨h1, h2⟩ := purAt_sound h hr
      refine ⟨by simp [h1], fun i v hi hv => ?_⟩
      cases i with
      | zero => exact up (pur_sound h 6 _ _ _ hs hv)
      | succ i => exact h2 i v (by simpa using hi) hv
    · split at hp
      case h_2 => cases hp
      rename_i r' hr
      cases hp
      obtain ⟨h1, h2⟩ := purAt_sound h hr
      refine ⟨by simp [h1], fun i v hi hv => ?_⟩
      cases i with
      | zero => exact hv
      | succ i => exact h2 i v (by simpa using hi) hv
def givA (is : List Nat) (s : FSpec) : FSpec := ⟨s.f, true, fun l H nm => match frzAll H ((pickAt is 0 l).flatMap (needs H 6)) with
  | some fl => forceH (applyS H fl) fun H' => match purAt is H' 0 l with
    | some l' => match s.run l' H' nm with
      | some y => match y.eff with
        | .keep => some ⟨y.ask, y.val, .sets fl⟩
        | .sets l2 => some ⟨y.ask, y.val, .sets (fl ++ l2)⟩
        | _ => none
      | none => none
    | none => none
  | none => none⟩
theorem givA_ok {P : Program} {is : List Nat} {s : FSpec} (hs : SpecOK P s) : SpecOK P (givA is s) := by
  refine ⟨hs.1, fun l H HF nm y _ hns hrun => ?_, fun l H nm y hrun hask w0 X0 E w hrep hfree vals ha => ?_⟩
  · exfalso
    simp only [givA] at hrun
    split at hrun
    case h_2 => cases hrun
    rw [forceH_eq] at hrun
    split at hrun
    case h_2 => cases hrun
    split at hrun
    case h_2 => cases hrun
    split at hrun
    · cases hrun; exact hns _ rfl
    · cases hrun; exact hns _ rfl
    · cases hrun
  · simp only [givA] at hrun
    split at hrun
    case h_2 => cases hrun
    rename_i fl hfl
    rw [forceH_eq] at hrun
    split at hrun
    case h_2 => cases hrun
    rename_i l' hl'
    split at hrun
    case h_2 => cases hrun
    rename_i y' hy'
    obtain ⟨g1, g2⟩ := frzAll_sound _ _ _ hrep hfl
    obtain ⟨p1, p2⟩ := purAt_sound g1 hl'
    have go : ∀ {l2 : List (Nat × SO)}, y = ⟨y'.ask, y'.val, .sets l2⟩ → appE (applyS H fl) y'.eff = applyS H l2 → (∀ so, y'.eff ≠ .new so) → Calls P (givA is s).f vals w fun e w' => ∃ v, e = .returned v ∧ Goes w0 X0 H E w nm y.eff y.val v w' := by
      intro l2 hy heff hnn
      subst hy
      refine (hs.2.2 l' (applyS H fl) nm y' hy' hask w0 X0 E w g1 (fun so hso => absurd hso (hnn so)) vals ⟨by rw [p1]; exact ha.1, fun i hi => ?_⟩).mono ?_
      · rw [p1] at hi
        exact p2 i _ hi ((ha.2 i hi).mono (fun _ _ _ => rfl) g2 (Env.le_refl _))
      · rintro e w' ⟨v, rfl, E', le, hk, hx, hr, hv, hE⟩
        rw [heff] at hx hr hv
        exact ⟨v, rfl, E', le, fun b hlt hb => hk b hlt fun hc => hb (g2 b hlt hc), g2.trans hx, hr, hv, fun k hk => (hE k hk).elim .inl fun ⟨_, so, hso⟩ => absurd hso (hnn so)⟩
    split at hrun
    · rename_i hkeep
      cases hrun
      exact go rfl (by rw [hkeep]; rfl) (fun so h => by rw [hkeep] at h; cases h)
    · rename_i l2 hsets
      cases hrun
      exact go rfl (by rw [hsets]; show applyS (applyS H fl) l2 = _; unfold applyS; rw [List.foldl_append]) (fun so h => by rw [hsets] at h; cases h)
    · cases hrun
/-! strconv.Itoa of a digit. -/
def dg (x : Nat) : ByteArray := ⟨#[UInt8.ofNat (48 + x)]⟩
def spItoa : FSpec := mkSpec 23 (γ := Nat) (fun | [.int _ x] => some x.toNat | _ => none) (fun x => [.int .i64 x]) (fun x => x < 10) (fun x => .str (dg x))
theorem ok_itoa : SpecOK Tryd.prog spItoa := by
  refine specOK_of (enters_of Tryd.func23 (by kernel_rfl) rfl) (fun x hx vals w X hsz hr _ => ?_)
  have h0 := hr 0 (by show 0 < 1; decide)
  obtain ⟨v0, rfl⟩ : ∃ v0, vals = #[v0] := by
    have hs : vals.size = 1 := hsz
    exact ⟨vals[0], by
      apply Array.ext
      · exact hs
      · intro i hi1 hi2
        have : i = 0 := by omega
        subst this; rfl⟩
  have h0 : R w X E0 (.int .i64 x) v0 := h0
  rw [int_inv h0]
  refine (Tryd.strconv_Itoa_small x (by omega) w).mono ?_
  rintro e w' ⟨rfl, rfl⟩
  have e : (⟨(Lib.decDigits x).toArray⟩ : ByteArray) = dg x := by rw [Lib.decDigits, dif_pos hx]; rfl
  rw [e]
  exact ⟨_, rfl, .str, Below.refl _ _⟩
/-! strings.Join. -/
structure JsG where
  n : Nat
  f : Nat → ByteArray
  s : ByteArray
def stD : SV → ByteArray
  | .str s => s
  | _ => ⟨#[]⟩
def sfD : SV → Nat → ByteArray
  | .sl _ _ f => fun i => stD (f i 0)
  | _ => fun _ => ⟨#[]⟩
def JsG.xs (g : JsG) : List ByteArray := (List.range g.n).map g.f
def JsG.j (g : JsG) : List UInt8 := Lib.join (g.xs.map (·.data.toList)) g.s.data.toList
def spJoinS : FSpec := mkSpec 24 (γ := JsG) (fun | [s, .str t] => some ⟨slLen s, sfD s, t⟩ | _ => none) (fun g => [.sl g.n 1 (fun i => lst [.str (g.f i)]), .str g.s]) (fun g => g.n ≤ 140737488355328 ∧ g.j.length ≤ 140737488355328) (fun g => .str ⟨g.j.toArray⟩)
theorem ok_joinS : SpecOK Tryd.prog spJoinS := by
  refine specOK_of (enters_of Tryd.func24 (by kernel_rfl) rfl) (fun g hg vals w X hsz hr _ => ?_)
  have h0 := hr 0 (by show 0 < 2; decide)
  have h1 := hr 1 (by show 1 < 2; decide)
  obtain ⟨v0, v1, rfl⟩ : ∃ v0 v1, vals = #[v0, v1] := by
    have hs : vals.size = 2 := hsz
    exact ⟨vals[0], vals[1], by
      apply Array.ext
      · exact hs
      · intro i hi1 hi2
        have : i = 0 ∨ i = 1 := by omega
        rcases this with rfl | rfl <;> rfl⟩
  have h0 : R w X E0 (.sl g.n 1 (fun i => lst [.str (g.f i)])) v0 := h0
  have h1 : R w X E0 (.str g.s) v1 := h1
  have e1 : v1 = .string g.s := by cases h1; rfl
  subst e1
  obtain ⟨n, f, s⟩ := g
  cases h0 with
  | sl0 =>
    refine (Tryd.strings_Join_none _ _ s w).mono ?_
    rintro e w' ⟨rfl, rfl⟩
    exact ⟨_, rfl, .str, Below.refl _ _⟩
  | sl hb hX hc hl ho h =>
    rename_i b o cap c T fr
    have hlen : (JsG.xs ⟨n, f, s⟩).length = n := by simp [JsG.xs]
    have hc : o + n * 1 ≤ c.size := hc
    have hcon := Tryd.strings_Join b o cap (JsG.xs ⟨n, f, s⟩) s w (fun j x hx => by
      have hj : j < n := by
        have := (List.getElem?_eq_some_iff.1 hx).1
        omega
      have hR := h j 0 hj (by decide)
      have ex : x = f j := by
        simp only [JsG.xs, List.getElem?_map, List.getElem?_range hj, Option.map_some, Option.some.injEq] at hx
        exact hx.symm
      have hlt : o + j * 1 + 0 < c.size := by omega
      have hv : c.getD (o + j * 1 + 0) undef = .string (f j) := by
        generalize c.getD (o + j * 1 + 0) undef = u at hR
        have hR : R w X E0 (.str (f j)) u := hR
        cases hR; rfl
      unfold World.cell?
      rw [hb]
      simp only [Array.getD, hlt, dite_true] at hv
      simp only [Option.isSome_none, Bool.false_eq_true, if_false]
      rw [show o + j = o + j * 1 + 0 by omega, Array.getElem?_eq_getElem hlt, ex]
      congr 1) (lt_of_block hb) (by rw [hlen]; exact hg.1) (by rw [hlen]; exact hl) hg.2
    rw [hlen] at hcon
    refine hcon.mono ?_
    rintro e w' ⟨rfl, hB⟩
    exact ⟨_, rfl, .str, hB⟩
/-! The closure that appends words. -/
structure SaG where
  n : Nat
  f : Nat → ByteArray
  w : ByteArray
  m : Nat
  x : Nat → Int
def SaG.o (g : SaG) (k i : Nat) : ByteArray := if i < g.n then g.f i else if i < g.n + 1 then g.w else dg (g.x (i - (g.n + 1))).toNat
def saD : List SV → List SO → Option SaG
  | [.str w, s, _], [_, .row _ n _ g _] => some ⟨n, fun i => stD (g i 0), w, slLen s, slCell 0 s⟩
  | _, _ => none
def strRow (v n : Nat) (f : Nat → ByteArray) : SO := .row v n 1 (fun i => lst [.str (f i)]) 9
def saCell (v : Nat) : SO := .cells 1 (lst [.osl 1 v]) 55
def saInv (g : SaG) : Inv := ⟨Nat, fun k => k ≤ g.m, fun k => ⟨[(2, .own 0 0), (11, .sl g.m 1 (fun j => lst [.int .i64 (g.x j)])), (12, .int .i64 g.m), (13, .int .i64 k)], [saCell 1, strRow 1 (g.n + 1 + k) (g.o k)]⟩, fun k => g.m - k⟩
def spSay : FSpec := mkSpecM 22 [.arg 2, .cell 0 0] saD (fun g => [.str g.w, .sl g.m 1 (fun j => lst [.int .i64 (g.x j)]), .own 0 0]) (fun g => [saCell 0, strRow 0 g.n g.f]) (fun g => (∀ j, j < g.m → 0 ≤ g.x j ∧ g.x j < 10) ∧ g.n ≤ 100 ∧ g.m ≤ 10) (fun _ => .tup 0 (lst []))
  (fun g => [saCell 1, strRow 1 (g.n + 1 + g.m) (g.o g.m)])
theorem ok_say : SpecOK Tryd.prog spSay := by
  refine spec_soundM (specs := [spItoa]) (all_ok (⟨ok_itoa, trivial⟩)) (eqs := []) (fun _ _ h => (List.not_mem_nil h).elim) Aff.mixed Tryd.func22 rfl (by kernel_rfl) (fun _ _ => by kernel_rfl) (fun g => (⟨[(2, .inv (saInv g))], []⟩ : Ann)) false (fun g => Nat.le_of_ble_eq_true (by kernel_rfl)) ?_
  rintro g ⟨hx, hn, hm⟩
  refine vc_of (B := True ∧ True ∧ True ∧ Sx.Ask (g.n + (1 : Nat) ≤ (9223372036854775807 : Nat) ∧ (g.n + (1 : Nat)) * (16 : Nat) ≤ (140737488355328 : Nat)) ∧ True ∧ True ∧ True ∧ True ∧ (∃ (g_1 : Nat), Sx.Ask ((saInv g).pre g_1) ∧ True ∧ (Sx.Ask ((0 : Nat) = (0 : Nat)) ∧ (Sx.Ask (g.m = g.m) ∧ ∀ (i : Nat), i < g.m → True ∧ Sx.Ask (IntKind.i64 = IntKind.i64) ∧ Sx.Ask (g.x i = g.x i)) ∧ (Sx.Ask (IntKind.i64 = IntKind.i64) ∧ Sx.Ask ((↑g.m : Int) = (↑g.m : Int))) ∧ (Sx.Ask (IntKind.i64 = IntKind.i64) ∧ Sx.Ask ((0 : Int) = (↑g_1 : Int))) ∧ True) ∧ (True ∧ True) ∧ (Sx.Ask (g.n + (1 : Nat) = g.n + (1 : Nat) + g_1) ∧ ∀ (i : Nat), i < g.n + (1 : Nat) + g_1 → True ∧ Sx.Ask ((bif decide (i < g.n) then g.f i else g.w) = g.o g_1 i)) ∧ True) ∧ ∀ (g_1 : Nat), (saInv g).pre g_1 → True ∧ Sx.Br (decide ((↑g_1 : Int) < (↑g.m : Int))) (Sx.Ask ((0 : Int) ≤ (↑g_1 : Int) ∧ (↑g_1 : Int) < (↑g.m : Int)) ∧ True ∧ True ∧ True ∧ True ∧ (((Sx.Ask (IntKind.i64 = IntKind.i64) ∧ Sx.Ask (g.x (↑g_1 : Int).toNat = (↑(g.x (↑g_1 : Int).toNat).toNat : Int))) ∧ True) ∧ Sx.Ask ((g.x (↑g_1 : Int).toNat).toNat < (10 : Nat))) ∧ True ∧ Sx.Ask (g.n + (1 : Nat) + g_1 + (1 : Nat) ≤ (9223372036854775807 : Nat) ∧ (g.n + (1 : Nat) + g_1 + (1 : Nat)) * (16 : Nat) ≤ (140737488355328 : Nat)) ∧ True ∧ Sx.Ask ((-9223372036854775808 : Int) ≤ (↑g_1 : Int) + (1 : Int) ∧ (↑g_1 : Int) + (1 : Int) ≤ (9223372036854775807 : Int)) ∧ True ∧ ∃ (g' : Nat), Sx.Ask ((saInv g).pre g') ∧ True ∧ ((Sx.Ask ((0 : Nat) = (0 : Nat)) ∧ (Sx.Ask (g.m = g.m) ∧ ∀ (i : Nat), i < g.m → True ∧ Sx.Ask (IntKind.i64 = IntKind.i64) ∧ Sx.Ask (g.x i = g.x i)) ∧ (Sx.Ask (IntKind.i64 = IntKind.i64) ∧ Sx.Ask ((↑g.m : Int) = (↑g.m : Int))) ∧ (Sx.Ask (IntKind.i64 = IntKind.i64) ∧ Sx.Ask ((↑g_1 : Int) + (1 : Int) = (↑g' : Int))) ∧ True) ∧ (True ∧ True) ∧ (Sx.Ask (g.n + (1 : Nat) + g_1 + (1 : Nat) = g.n + (1 : Nat) + g') ∧ ∀ (i : Nat), i < g.n + (1 : Nat) + g' → True ∧ Sx.Ask ((bif decide (i < g.n + (1 : Nat) + g_1) then g.o g_1 i else dg (g.x (↑g_1 : Int).toNat).toNat) = g.o g' i)) ∧ True) ∧ Sx.Ask ((saInv g).meas g' < (saInv g).meas g_1)) (True ∧ True ∧ (True ∧ True) ∧ (True ∧ True) ∧ (Sx.Ask (g.n + (1 : Nat) + g_1 = g.n + (1 : Nat) + g.m) ∧ ∀ (i : Nat), i < g.n + (1 : Nat) + g.m → True ∧ Sx.Ask (g.o g_1 i = g.o g.m i)) ∧ True)) (by kernel_rfl) ?_
  simp only [ask_iff, br_iff, eq_self, true_and, and_true, implies_true, forall_const, decide_eq_true_eq, decide_eq_false_iff_not, ne_eq, Nat.mul_one, Nat.add_zero, Nat.zero_add]
  have hb : ∀ j, j < g.m → g.x j = ((g.x j).toNat : Int) ∧ (g.x j).toNat < 10 := fun j hj => by have := hx j hj; omega
  refine ⟨by omega, ⟨0, Nat.zero_le _, rfl, rfl, fun i hi => ?_⟩, fun k hk => ⟨fun hlt => ?_, fun hge => ?_⟩⟩
  · unfold SaG.o
    by_cases h : i < g.n
    · rw [decide_eq_true h, if_pos h]; rfl
    · rw [decide_eq_false h, if_neg h, if_pos (by omega)]; rfl
  · have hk : k ≤ g.m := hk
    have z : ((k : Int)).toNat = k := rfl
    rw [z]
    refine ⟨by omega, hb k (by omega), by omega, by omega, k + 1, (by omega : k + 1 ≤ g.m), ⟨rfl, rfl, fun i hi => ?_⟩, ?_⟩
    · by_cases h : i < g.n + 1 + k
      · rw [decide_eq_true h]; rfl
      · rw [decide_eq_false h]
        unfold SaG.o
        rw [if_neg (by omega), if_neg (by omega), show i - (g.n + 1) = k by omega]
        rfl
    · show g.m - (k + 1) < g.m - k
      omega
  · have hk : k ≤ g.m := hk
    rw [show k = g.m by omega]
    exact ⟨rfl, fun _ _ => rfl⟩
/-! The box. -/
def boxL : List Seg := [⟨1, 0, 0, 0, 0, 0⟩, ⟨2, 4, 0, 0, 0, 0⟩, ⟨2, 4, 2, 0, 0, 0⟩, ⟨2, 0, 2, 0, 0, 0⟩, ⟨4, 0, 0, 0, 0, 0⟩]
def boxF (i : Nat) : Seg := boxL.getD i ⟨0, 0, 0, 0, 0, 0⟩
def boxP : Pth := ⟨5, boxF⟩
def lit : ByteArray := ⟨#[109, 32, 48, 32, 48, 32, 108, 32, 52, 32, 48, 32, 108, 32, 52, 32, 50, 32, 108, 32, 48, 32, 50, 32, 104]⟩
def wL : List ByteArray := [⟨#[109]⟩, ⟨#[48]⟩, ⟨#[48]⟩, ⟨#[108]⟩, ⟨#[52]⟩, ⟨#[48]⟩, ⟨#[108]⟩, ⟨#[52]⟩, ⟨#[50]⟩, ⟨#[108]⟩, ⟨#[48]⟩, ⟨#[50]⟩, ⟨#[104]⟩]
def wl (i : Nat) : ByteArray := wL.getD i ⟨#[]⟩
def tlen (k : Nat) : Nat := if k < 5 then 3 * k else 13
def txI (k : Nat) : St := ⟨[(5, .own 0 0), (6, .fn 22 1 (lst [.own 0 0])), (15, pthS boxP), (16, .int .i64 5), (17, .int .i64 k)], [saCell 0, strRow 0 (tlen k) wl]⟩
def spText : FSpec := mkSpec 13 (γ := Unit) (fun | [_] => some () | _ => none) (fun _ => [pthS boxP]) (fun _ => True) (fun _ => .tup 2 (lst [.str lit, .int .i64 0]))
theorem ok_text : SpecOK Tryd.prog spText := by
  refine spec_sound (specs := [spCheckPa, givA [1] spSay, giv spJoinS]) (all_ok (⟨ok_checkPa, givA_ok ok_say, giv_ok ok_joinS, trivial⟩)) (eqs := []) (fun _ _ h => (List.not_mem_nil h).elim) Aff.mixed Tryd.func13 rfl (by kernel_rfl) (fun _ _ => by kernel_rfl) (fun g => (⟨[(7, .steps 6 txI (fun _ => []))], [(6, [.ownC 0 0 9 1])]⟩ : Ann)) (fun g => Nat.le_of_ble_eq_true (by kernel_rfl)) ?_
  rintro g hg
  refine vc_of (B := True ∧ True ∧ True ∧ (((Sx.Ask ((5 : Nat) = (5 : Nat)) ∧ ∀ (i : Nat), i < (5 : Nat) → (((((True ∧ Sx.Ask (IntKind.i64 = IntKind.i64) ∧ Sx.Ask ((boxP.f i).k = (boxP.f i).k)) ∧ Sx.Ask (IntKind.i64 = IntKind.i64) ∧ Sx.Ask ((boxP.f i).x = (boxP.f i).x)) ∧ Sx.Ask (IntKind.i64 = IntKind.i64) ∧ Sx.Ask ((boxP.f i).y = (boxP.f i).y)) ∧ Sx.Ask (IntKind.i64 = IntKind.i64) ∧ Sx.Ask ((boxP.f i).u = (boxP.f i).u)) ∧ Sx.Ask (IntKind.i64 = IntKind.i64) ∧ Sx.Ask ((boxP.f i).v = (boxP.f i).v)) ∧ Sx.Ask (IntKind.i64 = IntKind.i64) ∧ Sx.Ask ((boxP.f i).w = (boxP.f i).w)) ∧ True) ∧ Sx.Ask ((5 : Nat) ≤ (9223372036854775807 : Nat))) ∧ True ∧ True ∧ True ∧ True ∧ True ∧ True ∧ True ∧ True ∧ True ∧ ((Sx.Ask ((0 : Nat) = (0 : Nat)) ∧ (Sx.Ask ((22 : Nat) = (22 : Go.FuncId)) ∧ True ∧ Sx.Ask ((0 : Nat) = (0 : Nat))) ∧ (Sx.Ask ((5 : Nat) = (5 : Nat)) ∧ ∀ (i : Nat), i < (5 : Nat) → (((((True ∧ Sx.Ask (IntKind.i64 = IntKind.i64) ∧ Sx.Ask ((boxP.f i).k = (boxP.f i).k)) ∧ Sx.Ask (IntKind.i64 = IntKind.i64) ∧ Sx.Ask ((boxP.f i).x = (boxP.f i).x)) ∧ Sx.Ask (IntKind.i64 = IntKind.i64) ∧ Sx.Ask ((boxP.f i).y = (boxP.f i).y)) ∧ Sx.Ask (IntKind.i64 = IntKind.i64) ∧ Sx.Ask ((boxP.f i).u = (boxP.f i).u)) ∧ Sx.Ask (IntKind.i64 = IntKind.i64) ∧ Sx.Ask ((boxP.f i).v = (boxP.f i).v)) ∧ Sx.Ask (IntKind.i64 = IntKind.i64) ∧ Sx.Ask ((boxP.f i).w = (boxP.f i).w)) ∧ (Sx.Ask (IntKind.i64 = IntKind.i64) ∧ Sx.Ask ((↑(5 : Nat) : Int) = (5 : Int))) ∧ (Sx.Ask (IntKind.i64 = IntKind.i64) ∧ Sx.Ask ((0 : Int) = (↑(0 : Nat) : Int))) ∧ True) ∧ (True ∧ True) ∧ (Sx.Ask ((0 : Nat) = tlen (0 : Nat)) ∧ ∀ (i : Nat), i < tlen (0 : Nat) → True ∧ False) ∧ True) ∧ True ∧ Sx.Ask ((0 : Int) ≤ (↑(0 : Nat) : Int) ∧ (↑(0 : Nat) : Int) < (↑(5 : Nat) : Int)) ∧ True ∧ True ∧ True ∧ True ∧ True ∧ True ∧ True ∧ True ∧ True ∧ True ∧ True ∧ True ∧ True ∧ ((True ∧ (Sx.Ask (ByteArray.mk #[(109 : UInt8)] = ByteArray.mk #[(109 : UInt8)]) ∧ (Sx.Ask ((2 : Nat) = (2 : Nat)) ∧ ∀ (i : Nat), i < (2 : Nat) → True ∧ Sx.Ask (IntKind.i64 = IntKind.i64) ∧ Sx.Ask ((bif decide (i = (1 : Nat)) then (0 : Int) else (0 : Int)) = bif decide (i = (1 : Nat)) then (0 : Int) else (0 : Int))) ∧ Sx.Ask ((0 : Nat) = (0 : Nat)) ∧ True) ∧ (True ∧ True) ∧ (Sx.Ask (tlen (0 : Nat) = tlen (0 : Nat)) ∧ ∀ (i : Nat), i < tlen (0 : Nat) → True ∧ Sx.Ask (wl i = match Sx.lst [Sx.SV.str (wl i)] (0 : Nat) with | Sx.SV.str s => s | x => ByteArray.mk #[])) ∧ True) ∧ Sx.Ask ((∀ (j : Nat), j < (2 : Nat) → ((0 : Int) ≤ bif decide (j = (1 : Nat)) then (0 : Int) else (0 : Int)) ∧ (bif decide (j = (1 : Nat)) then (0 : Int) else (0 : Int)) < (10 : Int)) ∧ tlen (0 : Nat) ≤ (100 : Nat) ∧ (2 : Nat) ≤ (10 : Nat))) ∧ Sx.Ask ((-9223372036854775808 : Int) ≤ (↑(0 : Nat) : Int) + (1 : Int) ∧ (↑(0 : Nat) : Int) + (1 : Int) ≤ (9223372036854775807 : Int)) ∧ True ∧ ((Sx.Ask ((0 : Nat) = (0 : Nat)) ∧ (Sx.Ask ((22 : Go.FuncId) = (22 : Go.FuncId)) ∧ True ∧ Sx.Ask ((0 : Nat) = (0 : Nat))) ∧ (Sx.Ask ((5 : Nat) = (5 : Nat)) ∧ ∀ (i : Nat), i < (5 : Nat) → (((((True ∧ Sx.Ask (IntKind.i64 = IntKind.i64) ∧ Sx.Ask ((boxP.f i).k = (boxP.f i).k)) ∧ Sx.Ask (IntKind.i64 = IntKind.i64) ∧ Sx.Ask ((boxP.f i).x = (boxP.f i).x)) ∧ Sx.Ask (IntKind.i64 = IntKind.i64) ∧ Sx.Ask ((boxP.f i).y = (boxP.f i).y)) ∧ Sx.Ask (IntKind.i64 = IntKind.i64) ∧ Sx.Ask ((boxP.f i).u = (boxP.f i).u)) ∧ Sx.Ask (IntKind.i64 = IntKind.i64) ∧ Sx.Ask ((boxP.f i).v = (boxP.f i).v)) ∧ Sx.Ask (IntKind.i64 = IntKind.i64) ∧ Sx.Ask ((boxP.f i).w = (boxP.f i).w)) ∧ (Sx.Ask (IntKind.i64 = IntKind.i64) ∧ Sx.Ask ((5 : Int) = (5 : Int))) ∧ (Sx.Ask (IntKind.i64 = IntKind.i64) ∧ Sx.Ask ((↑(0 : Nat) : Int) + (1 : Int) = (↑((0 : Nat) + (1 : Nat)) : Int))) ∧ True) ∧ (True ∧ True) ∧ (Sx.Ask (tlen (0 : Nat) + (1 : Nat) + (2 : Nat) = tlen ((0 : Nat) + (1 : Nat))) ∧ ∀ (i : Nat), i < tlen ((0 : Nat) + (1 : Nat)) → True ∧ Sx.Ask ((SaG.mk (tlen (0 : Nat)) (fun (i : Nat) => match Sx.lst [Sx.SV.str (wl i)] (0 : Nat) with | Sx.SV.str s => s | x => ByteArray.mk #[]) (ByteArray.mk #[(109 : UInt8)]) (2 : Nat) fun (i : Nat) => bif decide (i = (1 : Nat)) then (0 : Int) else (0 : Int)).o (2 : Nat) i = wl i)) ∧ True) ∧ True ∧ Sx.Ask ((0 : Int) ≤ (↑((0 : Nat) + (1 : Nat)) : Int) ∧ (↑((0 : Nat) + (1 : Nat)) : Int) < (↑(5 : Nat) : Int)) ∧ True ∧ True ∧ True ∧ True ∧ True ∧ True ∧ True ∧ True ∧ True ∧ True ∧ True ∧ True ∧ True ∧ True ∧ True ∧ ((True ∧ (Sx.Ask (ByteArray.mk #[(108 : UInt8)] = ByteArray.mk #[(108 : UInt8)]) ∧ (Sx.Ask ((2 : Nat) = (2 : Nat)) ∧ ∀ (i : Nat), i < (2 : Nat) → True ∧ Sx.Ask (IntKind.i64 = IntKind.i64) ∧ Sx.Ask ((bif decide (i = (1 : Nat)) then (0 : Int) else (4 : Int)) = bif decide (i = (1 : Nat)) then (0 : Int) else (4 : Int))) ∧ Sx.Ask ((0 : Nat) = (0 : Nat)) ∧ True) ∧ (True ∧ True) ∧ (Sx.Ask (tlen ((0 : Nat) + (1 : Nat)) = tlen ((0 : Nat) + (1 : Nat))) ∧ ∀ (i : Nat), i < tlen ((0 : Nat) + (1 : Nat)) → True ∧ Sx.Ask (wl i = match Sx.lst [Sx.SV.str (wl i)] (0 : Nat) with | Sx.SV.str s => s | x => ByteArray.mk #[])) ∧ True) ∧ Sx.Ask ((∀ (j : Nat), j < (2 : Nat) → ((0 : Int) ≤ bif decide (j = (1 : Nat)) then (0 : Int) else (4 : Int)) ∧ (bif decide (j = (1 : Nat)) then (0 : Int) else (4 : Int)) < (10 : Int)) ∧ tlen ((0 : Nat) + (1 : Nat)) ≤ (100 : Nat) ∧ (2 : Nat) ≤ (10 : Nat))) ∧ Sx.Ask ((-9223372036854775808 : Int) ≤ (↑((0 : Nat) + (1 : Nat)) : Int) + (1 : Int) ∧ (↑((0 : Nat) + (1 : Nat)) : Int) + (1 : Int) ≤ (9223372036854775807 : Int)) ∧ True ∧ ((Sx.Ask ((0 : Nat) = (0 : Nat)) ∧ (Sx.Ask ((22 : Go.FuncId) = (22 : Go.FuncId)) ∧ True ∧ Sx.Ask ((0 : Nat) = (0 : Nat))) ∧ (Sx.Ask ((5 : Nat) = (5 : Nat)) ∧ ∀ (i : Nat), i < (5 : Nat) → (((((True ∧ Sx.Ask (IntKind.i64 = IntKind.i64) ∧ Sx.Ask ((boxP.f i).k = (boxP.f i).k)) ∧ Sx.Ask (IntKind.i64 = IntKind.i64) ∧ Sx.Ask ((boxP.f i).x = (boxP.f i).x)) ∧ Sx.Ask (IntKind.i64 = IntKind.i64) ∧ Sx.Ask ((boxP.f i).y = (boxP.f i).y)) ∧ Sx.Ask (IntKind.i64 = IntKind.i64) ∧ Sx.Ask ((boxP.f i).u = (boxP.f i).u)) ∧ Sx.Ask (IntKind.i64 = IntKind.i64) ∧ Sx.Ask ((boxP.f i).v = (boxP.f i).v)) ∧ Sx.Ask (IntKind.i64 = IntKind.i64) ∧ Sx.Ask ((boxP.f i).w = (boxP.f i).w)) ∧ (Sx.Ask (IntKind.i64 = IntKind.i64) ∧ Sx.Ask ((5 : Int) = (5 : Int))) ∧ (Sx.Ask (IntKind.i64 = IntKind.i64) ∧ Sx.Ask ((↑((0 : Nat) + (1 : Nat)) : Int) + (1 : Int) = (↑((0 : Nat) + (1 : Nat) + (1 : Nat)) : Int))) ∧ True) ∧ (True ∧ True) ∧ (Sx.Ask (tlen ((0 : Nat) + (1 : Nat)) + (1 : Nat) + (2 : Nat) = tlen ((0 : Nat) + (1 : Nat) + (1 : Nat))) ∧ ∀ (i : Nat), i < tlen ((0 : Nat) + (1 : Nat) + (1 : Nat)) → True ∧ Sx.Ask ((SaG.mk (tlen ((0 : Nat) + (1 : Nat))) (fun (i : Nat) => match Sx.lst [Sx.SV.str (wl i)] (0 : Nat) with | Sx.SV.str s => s | x => ByteArray.mk #[]) (ByteArray.mk #[(108 : UInt8)]) (2 : Nat) fun (i : Nat) => bif decide (i = (1 : Nat)) then (0 : Int) else (4 : Int)).o (2 : Nat) i = wl i)) ∧ True) ∧ True ∧ Sx.Ask ((0 : Int) ≤ (↑((0 : Nat) + (1 : Nat) + (1 : Nat)) : Int) ∧ (↑((0 : Nat) + (1 : Nat) + (1 : Nat)) : Int) < (↑(5 : Nat) : Int)) ∧ True ∧ True ∧ True ∧ True ∧ True ∧ True ∧ True ∧ True ∧ True ∧ True ∧ True ∧ True ∧ True ∧ True ∧ True ∧ ((True ∧ (Sx.Ask (ByteArray.mk #[(108 : UInt8)] = ByteArray.mk #[(108 : UInt8)]) ∧ (Sx.Ask ((2 : Nat) = (2 : Nat)) ∧ ∀ (i : Nat), i < (2 : Nat) → True ∧ Sx.Ask (IntKind.i64 = IntKind.i64) ∧ Sx.Ask ((bif decide (i = (1 : Nat)) then (2 : Int) else (4 : Int)) = bif decide (i = (1 : Nat)) then (2 : Int) else (4 : Int))) ∧ Sx.Ask ((0 : Nat) = (0 : Nat)) ∧ True) ∧ (True ∧ True) ∧ (Sx.Ask (tlen ((0 : Nat) + (1 : Nat) + (1 : Nat)) = tlen ((0 : Nat) + (1 : Nat) + (1 : Nat))) ∧ ∀ (i : Nat), i < tlen ((0 : Nat) + (1 : Nat) + (1 : Nat)) → True ∧ Sx.Ask (wl i = match Sx.lst [Sx.SV.str (wl i)] (0 : Nat) with | Sx.SV.str s => s | x => ByteArray.mk #[])) ∧ True) ∧ Sx.Ask ((∀ (j : Nat), j < (2 : Nat) → ((0 : Int) ≤ bif decide (j = (1 : Nat)) then (2 : Int) else (4 : Int)) ∧ (bif decide (j = (1 : Nat)) then (2 : Int) else (4 : Int)) < (10 : Int)) ∧ tlen ((0 : Nat) + (1 : Nat) + (1 : Nat)) ≤ (100 : Nat) ∧ (2 : Nat) ≤ (10 : Nat))) ∧ Sx.Ask ((-9223372036854775808 : Int) ≤ (↑((0 : Nat) + (1 : Nat) + (1 : Nat)) : Int) + (1 : Int) ∧ (↑((0 : Nat) + (1 : Nat) + (1 : Nat)) : Int) + (1 : Int) ≤ (9223372036854775807 : Int)) ∧ True ∧ ((Sx.Ask ((0 : Nat) = (0 : Nat)) ∧ (Sx.Ask ((22 : Go.FuncId) = (22 : Go.FuncId)) ∧ True ∧ Sx.Ask ((0 : Nat) = (0 : Nat))) ∧ (Sx.Ask ((5 : Nat) = (5 : Nat)) ∧ ∀ (i : Nat), i < (5 : Nat) → (((((True ∧ Sx.Ask (IntKind.i64 = IntKind.i64) ∧ Sx.Ask ((boxP.f i).k = (boxP.f i).k)) ∧ Sx.Ask (IntKind.i64 = IntKind.i64) ∧ Sx.Ask ((boxP.f i).x = (boxP.f i).x)) ∧ Sx.Ask (IntKind.i64 = IntKind.i64) ∧ Sx.Ask ((boxP.f i).y = (boxP.f i).y)) ∧ Sx.Ask (IntKind.i64 = IntKind.i64) ∧ Sx.Ask ((boxP.f i).u = (boxP.f i).u)) ∧ Sx.Ask (IntKind.i64 = IntKind.i64) ∧ Sx.Ask ((boxP.f i).v = (boxP.f i).v)) ∧ Sx.Ask (IntKind.i64 = IntKind.i64) ∧ Sx.Ask ((boxP.f i).w = (boxP.f i).w)) ∧ (Sx.Ask (IntKind.i64 = IntKind.i64) ∧ Sx.Ask ((5 : Int) = (5 : Int))) ∧ (Sx.Ask (IntKind.i64 = IntKind.i64) ∧ Sx.Ask ((↑((0 : Nat) + (1 : Nat) + (1 : Nat)) : Int) + (1 : Int) = (↑((0 : Nat) + (1 : Nat) + (1 : Nat) + (1 : Nat)) : Int))) ∧ True) ∧ (True ∧ True) ∧ (Sx.Ask (tlen ((0 : Nat) + (1 : Nat) + (1 : Nat)) + (1 : Nat) + (2 : Nat) = tlen ((0 : Nat) + (1 : Nat) + (1 : Nat) + (1 : Nat))) ∧ ∀ (i : Nat), i < tlen ((0 : Nat) + (1 : Nat) + (1 : Nat) + (1 : Nat)) → True ∧ Sx.Ask ((SaG.mk (tlen ((0 : Nat) + (1 : Nat) + (1 : Nat))) (fun (i : Nat) => match Sx.lst [Sx.SV.str (wl i)] (0 : Nat) with | Sx.SV.str s => s | x => ByteArray.mk #[]) (ByteArray.mk #[(108 : UInt8)]) (2 : Nat) fun (i : Nat) => bif decide (i = (1 : Nat)) then (2 : Int) else (4 : Int)).o (2 : Nat) i = wl i)) ∧ True) ∧ True ∧ Sx.Ask ((0 : Int) ≤ (↑((0 : Nat) + (1 : Nat) + (1 : Nat) + (1 : Nat)) : Int) ∧ (↑((0 : Nat) + (1 : Nat) + (1 : Nat) + (1 : Nat)) : Int) < (↑(5 : Nat) : Int)) ∧ True ∧ True ∧ True ∧ True ∧ True ∧ True ∧ True ∧ True ∧ True ∧ True ∧ True ∧ True ∧ True ∧ True ∧ True ∧ ((True ∧ (Sx.Ask (ByteArray.mk #[(108 : UInt8)] = ByteArray.mk #[(108 : UInt8)]) ∧ (Sx.Ask ((2 : Nat) = (2 : Nat)) ∧ ∀ (i : Nat), i < (2 : Nat) → True ∧ Sx.Ask (IntKind.i64 = IntKind.i64) ∧ Sx.Ask ((bif decide (i = (1 : Nat)) then (2 : Int) else (0 : Int)) = bif decide (i = (1 : Nat)) then (2 : Int) else (0 : Int))) ∧ Sx.Ask ((0 : Nat) = (0 : Nat)) ∧ True) ∧ (True ∧ True) ∧ (Sx.Ask (tlen ((0 : Nat) + (1 : Nat) + (1 : Nat) + (1 : Nat)) = tlen ((0 : Nat) + (1 : Nat) + (1 : Nat) + (1 : Nat))) ∧ ∀ (i : Nat), i < tlen ((0 : Nat) + (1 : Nat) + (1 : Nat) + (1 : Nat)) → True ∧ Sx.Ask (wl i = match Sx.lst [Sx.SV.str (wl i)] (0 : Nat) with | Sx.SV.str s => s | x => ByteArray.mk #[])) ∧ True) ∧ Sx.Ask ((∀ (j : Nat), j < (2 : Nat) → ((0 : Int) ≤ bif decide (j = (1 : Nat)) then (2 : Int) else (0 : Int)) ∧ (bif decide (j = (1 : Nat)) then (2 : Int) else (0 : Int)) < (10 : Int)) ∧ tlen ((0 : Nat) + (1 : Nat) + (1 : Nat) + (1 : Nat)) ≤ (100 : Nat) ∧ (2 : Nat) ≤ (10 : Nat))) ∧ Sx.Ask ((-9223372036854775808 : Int) ≤ (↑((0 : Nat) + (1 : Nat) + (1 : Nat) + (1 : Nat)) : Int) + (1 : Int) ∧ (↑((0 : Nat) + (1 : Nat) + (1 : Nat) + (1 : Nat)) : Int) + (1 : Int) ≤ (9223372036854775807 : Int)) ∧ True ∧ ((Sx.Ask ((0 : Nat) = (0 : Nat)) ∧ (Sx.Ask ((22 : Go.FuncId) = (22 : Go.FuncId)) ∧ True ∧ Sx.Ask ((0 : Nat) = (0 : Nat))) ∧ (Sx.Ask ((5 : Nat) = (5 : Nat)) ∧ ∀ (i : Nat), i < (5 : Nat) → (((((True ∧ Sx.Ask (IntKind.i64 = IntKind.i64) ∧ Sx.Ask ((boxP.f i).k = (boxP.f i).k)) ∧ Sx.Ask (IntKind.i64 = IntKind.i64) ∧ Sx.Ask ((boxP.f i).x = (boxP.f i).x)) ∧ Sx.Ask (IntKind.i64 = IntKind.i64) ∧ Sx.Ask ((boxP.f i).y = (boxP.f i).y)) ∧ Sx.Ask (IntKind.i64 = IntKind.i64) ∧ Sx.Ask ((boxP.f i).u = (boxP.f i).u)) ∧ Sx.Ask (IntKind.i64 = IntKind.i64) ∧ Sx.Ask ((boxP.f i).v = (boxP.f i).v)) ∧ Sx.Ask (IntKind.i64 = IntKind.i64) ∧ Sx.Ask ((boxP.f i).w = (boxP.f i).w)) ∧ (Sx.Ask (IntKind.i64 = IntKind.i64) ∧ Sx.Ask ((5 : Int) = (5 : Int))) ∧ (Sx.Ask (IntKind.i64 = IntKind.i64) ∧ Sx.Ask ((↑((0 : Nat) + (1 : Nat) + (1 : Nat) + (1 : Nat)) : Int) + (1 : Int) = (↑((0 : Nat) + (1 : Nat) + (1 : Nat) + (1 : Nat) + (1 : Nat)) : Int))) ∧ True) ∧ (True ∧ True) ∧ (Sx.Ask (tlen ((0 : Nat) + (1 : Nat) + (1 : Nat) + (1 : Nat)) + (1 : Nat) + (2 : Nat) = tlen ((0 : Nat) + (1 : Nat) + (1 : Nat) + (1 : Nat) + (1 : Nat))) ∧ ∀ (i : Nat), i < tlen ((0 : Nat) + (1 : Nat) + (1 : Nat) + (1 : Nat) + (1 : Nat)) → True ∧ Sx.Ask ((SaG.mk (tlen ((0 : Nat) + (1 : Nat) + (1 : Nat) + (1 : Nat))) (fun (i : Nat) => match Sx.lst [Sx.SV.str (wl i)] (0 : Nat) with | Sx.SV.str s => s | x => ByteArray.mk #[]) (ByteArray.mk #[(108 : UInt8)]) (2 : Nat) fun (i : Nat) => bif decide (i = (1 : Nat)) then (2 : Int) else (0 : Int)).o (2 : Nat) i = wl i)) ∧ True) ∧ True ∧ Sx.Ask ((0 : Int) ≤ (↑((0 : Nat) + (1 : Nat) + (1 : Nat) + (1 : Nat) + (1 : Nat)) : Int) ∧ (↑((0 : Nat) + (1 : Nat) + (1 : Nat) + (1 : Nat) + (1 : Nat)) : Int) < (↑(5 : Nat) : Int)) ∧ True ∧ True ∧ True ∧ True ∧ True ∧ True ∧ True ∧ True ∧ True ∧ True ∧ True ∧ True ∧ True ∧ True ∧ ((True ∧ (Sx.Ask (ByteArray.mk #[(104 : UInt8)] = ByteArray.mk #[(104 : UInt8)]) ∧ Sx.Ask ((0 : Nat) = (0 : Nat)) ∧ Sx.Ask ((0 : Nat) = (0 : Nat)) ∧ True) ∧ (True ∧ True) ∧ (Sx.Ask (tlen ((0 : Nat) + (1 : Nat) + (1 : Nat) + (1 : Nat) + (1 : Nat)) = tlen ((0 : Nat) + (1 : Nat) + (1 : Nat) + (1 : Nat) + (1 : Nat))) ∧ ∀ (i : Nat), i < tlen ((0 : Nat) + (1 : Nat) + (1 : Nat) + (1 : Nat) + (1 : Nat)) → True ∧ Sx.Ask (wl i = match Sx.lst [Sx.SV.str (wl i)] (0 : Nat) with | Sx.SV.str s => s | x => ByteArray.mk #[])) ∧ True) ∧ Sx.Ask ((∀ (j : Nat), j < (0 : Nat) → (0 : Int) ≤ Sx.slCell (0 : Nat) Sx.SV.cap0 j ∧ Sx.slCell (0 : Nat) Sx.SV.cap0 j < (10 : Int)) ∧ tlen ((0 : Nat) + (1 : Nat) + (1 : Nat) + (1 : Nat) + (1 : Nat)) ≤ (100 : Nat) ∧ (0 : Nat) ≤ (10 : Nat))) ∧ Sx.Ask ((-9223372036854775808 : Int) ≤ (↑((0 : Nat) + (1 : Nat) + (1 : Nat) + (1 : Nat) + (1 : Nat)) : Int) + (1 : Int) ∧ (↑((0 : Nat) + (1 : Nat) + (1 : Nat) + (1 : Nat) + (1 : Nat)) : Int) + (1 : Int) ≤ (9223372036854775807 : Int)) ∧ True ∧ ((Sx.Ask ((0 : Nat) = (0 : Nat)) ∧ (Sx.Ask ((22 : Go.FuncId) = (22 : Go.FuncId)) ∧ True ∧ Sx.Ask ((0 : Nat) = (0 : Nat))) ∧ (Sx.Ask ((5 : Nat) = (5 : Nat)) ∧ ∀ (i : Nat), i < (5 : Nat) → (((((True ∧ Sx.Ask (IntKind.i64 = IntKind.i64) ∧ Sx.Ask ((boxP.f i).k = (boxP.f i).k)) ∧ Sx.Ask (IntKind.i64 = IntKind.i64) ∧ Sx.Ask ((boxP.f i).x = (boxP.f i).x)) ∧ Sx.Ask (IntKind.i64 = IntKind.i64) ∧ Sx.Ask ((boxP.f i).y = (boxP.f i).y)) ∧ Sx.Ask (IntKind.i64 = IntKind.i64) ∧ Sx.Ask ((boxP.f i).u = (boxP.f i).u)) ∧ Sx.Ask (IntKind.i64 = IntKind.i64) ∧ Sx.Ask ((boxP.f i).v = (boxP.f i).v)) ∧ Sx.Ask (IntKind.i64 = IntKind.i64) ∧ Sx.Ask ((boxP.f i).w = (boxP.f i).w)) ∧ (Sx.Ask (IntKind.i64 = IntKind.i64) ∧ Sx.Ask ((5 : Int) = (5 : Int))) ∧ (Sx.Ask (IntKind.i64 = IntKind.i64) ∧ Sx.Ask ((↑((0 : Nat) + (1 : Nat) + (1 : Nat) + (1 : Nat) + (1 : Nat)) : Int) + (1 : Int) = (↑((0 : Nat) + (1 : Nat) + (1 : Nat) + (1 : Nat) + (1 : Nat) + (1 : Nat)) : Int))) ∧ True) ∧ (True ∧ True) ∧ (Sx.Ask (tlen ((0 : Nat) + (1 : Nat) + (1 : Nat) + (1 : Nat) + (1 : Nat)) + (1 : Nat) + (0 : Nat) = tlen ((0 : Nat) + (1 : Nat) + (1 : Nat) + (1 : Nat) + (1 : Nat) + (1 : Nat))) ∧ ∀ (i : Nat), i < tlen ((0 : Nat) + (1 : Nat) + (1 : Nat) + (1 : Nat) + (1 : Nat) + (1 : Nat)) → True ∧ Sx.Ask ((SaG.mk (tlen ((0 : Nat) + (1 : Nat) + (1 : Nat) + (1 : Nat) + (1 : Nat))) (fun (i : Nat) => match Sx.lst [Sx.SV.str (wl i)] (0 : Nat) with | Sx.SV.str s => s | x => ByteArray.mk #[]) (ByteArray.mk #[(104 : UInt8)]) (0 : Nat) (Sx.slCell (0 : Nat) Sx.SV.cap0)).o (0 : Nat) i = wl i)) ∧ True) ∧ True ∧ True ∧ (((Sx.Ask (tlen ((0 : Nat) + (1 : Nat) + (1 : Nat) + (1 : Nat) + (1 : Nat) + (1 : Nat)) = tlen ((0 : Nat) + (1 : Nat) + (1 : Nat) + (1 : Nat) + (1 : Nat) + (1 : Nat))) ∧ ∀ (i : Nat), i < tlen ((0 : Nat) + (1 : Nat) + (1 : Nat) + (1 : Nat) + (1 : Nat) + (1 : Nat)) → True ∧ Sx.Ask (wl i = match Sx.lst [Sx.SV.str (wl i)] (0 : Nat) with | Sx.SV.str s => s | x => ByteArray.mk #[])) ∧ Sx.Ask (ByteArray.mk #[(32 : UInt8)] = ByteArray.mk #[(32 : UInt8)]) ∧ True) ∧ Sx.Ask (tlen ((0 : Nat) + (1 : Nat) + (1 : Nat) + (1 : Nat) + (1 : Nat) + (1 : Nat)) ≤ (140737488355328 : Nat) ∧ (JsG.mk (tlen ((0 : Nat) + (1 : Nat) + (1 : Nat) + (1 : Nat) + (1 : Nat) + (1 : Nat))) (fun (i : Nat) => match Sx.lst [Sx.SV.str (wl i)] (0 : Nat) with | Sx.SV.str s => s | x => ByteArray.mk #[]) (ByteArray.mk #[(32 : UInt8)])).j.length ≤ (140737488355328 : Nat))) ∧ True ∧ True ∧ True ∧ (True ∧ Sx.Ask (ByteArray.mk (JsG.mk (tlen ((0 : Nat) + (1 : Nat) + (1 : Nat) + (1 : Nat) + (1 : Nat) + (1 : Nat))) (fun (i : Nat) => match Sx.lst [Sx.SV.str (wl i)] (0 : Nat) with | Sx.SV.str s => s | x => ByteArray.mk #[]) (ByteArray.mk #[(32 : UInt8)])).j.toArray = lit)) ∧ Sx.Ask (IntKind.i64 = IntKind.i64) ∧ Sx.Ask ((0 : Int) = (0 : Int))) (by kernel_rfl) ?_
  simp only [ask_iff, br_iff, eq_self, true_and, and_true, implies_true, forall_const, decide_eq_true_eq, decide_eq_false_iff_not, ne_eq, Nat.mul_one, Nat.add_zero, Nat.zero_add]
  repeat' apply And.intro
  all_goals first | exact fun i _ => rfl | decide
end Go.Proofs.YtbmgclpgompjmaaDoor.Pte
