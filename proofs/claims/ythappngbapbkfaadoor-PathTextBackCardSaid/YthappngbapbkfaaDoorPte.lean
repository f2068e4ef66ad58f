/- printworkskeep1.paths: path.Rectangle, path.Text of the box, strconv.Itoa, strings.Join: by the evaluation and the shelf. -/
import Derived.Test.YthappngbapbkfaaDoorPrv
import Derived.Test.YthappngbapbkfaaDoorShelf
set_option linter.unusedSimpArgs false
set_option linter.unusedVariables false
namespace Go.Proofs.YthappngbapbkfaaDoor.Pte
open Go.RowKit Sx Num Aff Con Cop Coh Pth Pmp
set_option maxRecDepth 100000
/-! A call that is handed, at the places is, what is the caller's own: this is given away for reading; the rest as it is. -/
def pickAt (is : List Nat) : Nat → List SV → List SV
  | _, [] => []
  | k, s :: r => match is.contains k with
    | true => s :: pickAt is (k + 1) r
    | false => pickAt is (k + 1) r
def purAt (is : List Nat) (H : List SO) : Nat → List SV → Option (List SV)
  | _, [] => some []
  | k, s :: r => match is.contains k with
    | true => match pur H 6 s with
      | some s' => match purAt is H (k + 1) r with
        | some r' => some (s' :: r')
        | none => none
      | none => none
    | false => match purAt is H (k + 1) r with
      | some r' => some (s :: r')
      | none => none
theorem purAt_sound {w0 X0 H E w} (h : Rep w0 X0 H E w) {is : List Nat} : ∀ {l : List SV} {k : Nat} {l' : List SV}, purAt is H k l = some l' → l'.length = l.length ∧ ∀ i v, i < l.length → R w (Xo X0 E H) E (l.getD i .any) v → R w (Xo X0 E H) E (l'.getD i .any) v
  | [], k, l', hp => by cases hp; exact ⟨rfl, fun i v hi => absurd hi (Nat.not_lt_zero _)⟩
  | s :: r, k, l', hp => by
    simp only [purAt] at hp
    split at hp
    · split at hp
      case h_2 => cases hp
      rename_i s' hs
      split at hp
      case h_2 => cases hp
      rename_i r' hr
      cases hp
      obtain ⟨h1, h2⟩ := purAt_sound h hr
      refine ⟨by simp [h1], fun i v hi hv => ?_⟩
      cases i with
      | zero => exact up (pur_sound h 6 _ _ _ hs hv)
      | succ i => exact h2 i v (by simpa using hi) hv
    · split at hp
      case h_2 => cases hp
      rename_i r' hr
      cases hp
      obtain ⟨h1, h2⟩ := purAt_sound h hr
      refine ⟨by simp [h1], fun i v hi hv => ?_⟩
      cases i with
      | zero => exact hv
      | succ i => exact h2 i v (by simpa using hi) hv
def givA (is : List Nat) (s : FSpec) : FSpec := ⟨s.f, true, fun l H nm => match frzAll H ((pickAt is 0 l).flatMap (needs H 6)) with
  | some fl => forceH (applyS H fl) fun H' => match purAt is H' 0 l with
    | some l' => match s.run l' H' nm with
      | some y => match y.eff with
        | .keep => some ⟨y.ask, y.val, .sets fl⟩
        | .sets l2 => some ⟨y.ask, y.val, .sets (fl ++ l2)⟩
        | _ => none
      | none => none
    | none => none
  | none => none⟩
theorem givA_at {P : Program} {w0 : World} {X0 : Fr} {is : List Nat} {s : FSpec} (hs : SpecAt P w0 X0 s) : SpecAt P w0 X0 (givA is s) := by
  refine ⟨hs.1, fun l H HF nm y _ hns hrun => ?_, fun l H nm y hrun hask E w hrep hfree vals ha => ?_⟩
  · exfalso
    simp only [givA] at hrun
    split at hrun
    case h_2 => cases hrun
    rw [forceH_eq] at hrun
    split at hrun
    case h_2 => cases hrun
    split at hrun
    case h_2 => cases hrun
    split at hrun
    · cases hrun; exact hns _ rfl
    · cases hrun; exact hns _ rfl
    · cases hrun
  · simp only [givA] at hrun
    split at hrun
    case h_2 => cases hrun
    rename_i fl hfl
    rw [forceH_eq] at hrun
    split at hrun
    case h_2 => cases hrun
    rename_i l' hl'
    split at hrun
    case h_2 => cases hrun
    rename_i y' hy'
    obtain ⟨g1, g2⟩ := frzAll_sound _ _ _ hrep hfl
    obtain ⟨p1, p2⟩ := purAt_sound g1 hl'
    have go : ∀ {l2 : List (Nat × SO)}, y = ⟨y'.ask, y'.val, .sets l2⟩ → appE (applyS H fl) y'.eff = applyS H l2 → (∀ so, y'.eff ≠ .new so) → Calls P (givA is s).f vals w fun e w' => ∃ v, e = .returned v ∧ Goes w0 X0 H E w nm y.eff y.val v w' := by
      intro l2 hy heff hnn
      subst hy
      refine (hs.2.2 l' (applyS H fl) nm y' hy' hask E w g1 (fun so hso => absurd hso (hnn so)) vals ⟨by rw [p1]; exact ha.1, fun i hi => ?_⟩).mono ?_
      · rw [p1] at hi
        exact p2 i _ hi ((ha.2 i hi).mono (fun _ _ _ => rfl) g2 (Env.le_refl _))
      · rintro e w' ⟨v, rfl, E', le, hk, hx, hr, hv, hE⟩
        rw [heff] at hx hr hv
        exact ⟨v, rfl, E', le, fun b hlt hb => hk b hlt fun hc => hb (g2 b hlt hc), g2.trans hx, hr, hv, fun k hk => (hE k hk).elim .inl fun ⟨_, so, hso⟩ => absurd hso (hnn so)⟩
    split at hrun
    · rename_i hkeep
      cases hrun
      exact go rfl (by rw [hkeep]; rfl) (fun so h => by rw [hkeep] at h; cases h)
    · rename_i l2 hsets
      cases hrun
      exact go rfl (by rw [hsets]; show applyS (applyS H fl) l2 = _; unfold applyS; rw [List.foldl_append]) (fun so h => by rw [hsets] at h; cases h)
    · cases hrun
theorem givA_ok {P : Program} {is : List Nat} {s : FSpec} (hs : SpecOK P s) : SpecOK P (givA is s) := specOK_of_at fun w0 X0 => givA_at (hs.at w0 X0)
theorem givA_g {Γ : World → Fr → Prop} {P : Program} {is : List Nat} {s : FSpec} (hs : SpecG Γ P s) : SpecG Γ P (givA is s) := fun w0 X0 h => givA_at (hs w0 X0 h)
/-! strconv.Itoa of a digit. -/
def dg (x : Nat) : ByteArray := ⟨#[UInt8.ofNat (48 + x)]⟩
def spItoa : FSpec := mkSpec 11 (γ := Nat) (fun | [.int _ x] => some x.toNat | _ => none) (fun x => [.int .i64 x]) (fun x => x < 10) (fun x => .str (dg x))
theorem ok_itoa : SpecOK Tryd.prog spItoa := by
  refine specOK_of (enters_of Tryd.func11 (by kernel_rfl) rfl) (fun x hx vals w X hsz hr _ => ?_)
  have h0 := hr 0 (by show 0 < 1; decide)
  obtain ⟨v0, rfl⟩ : ∃ v0, vals = #[v0] := by
    have hs : vals.size = 1 := hsz
    exact ⟨vals[0], by
      apply Array.ext
      · exact hs
      · intro i hi1 hi2
        have : i = 0 := by omega
        subst this; rfl⟩
  have h0 : R w X E0 (.int .i64 x) v0 := h0
  rw [int_inv h0]
  refine (Tryd.strconv_Itoa_small x (by omega) w).mono ?_
  rintro e w' ⟨rfl, rfl⟩
  have e : (⟨(Lib.decDigits x).toArray⟩ : ByteArray) = dg x := by rw [Lib.decDigits, dif_pos hx]; rfl
  rw [e]
  exact ⟨_, rfl, .str, Below.refl _ _⟩
/-! strings.Join. -/
structure JsG where
  n : Nat
  f : Nat → ByteArray
  s : ByteArray
def stD : SV → ByteArray
  | .str s => s
  | _ => ⟨#[]⟩
def sfD : SV → Nat → ByteArray
  | .sl _ _ f => fun i => stD (f i 0)
  | _ => fun _ => ⟨#[]⟩
def JsG.xs (g : JsG) : List ByteArray := (List.range g.n).map g.f
def JsG.j (g : JsG) : List UInt8 := Lib.join (g.xs.map (·.data.toList)) g.s.data.toList
def spJoinS : FSpec := mkSpec 12 (γ := JsG) (fun | [s, .str t] => some ⟨slLen s, sfD s, t⟩ | _ => none) (fun g => [.sl g.n 1 (fun i => lst [.str (g.f i)]), .str g.s]) (fun g => g.n ≤ 140737488355328 ∧ g.j.length ≤ 140737488355328) (fun g => .str ⟨g.j.toArray⟩)
theorem ok_joinS : SpecOK Tryd.prog spJoinS := by
  refine specOK_of (enters_of Tryd.func12 (by kernel_rfl) rfl) (fun g hg vals w X hsz hr _ => ?_)
  have h0 := hr 0 (by show 0 < 2; decide)
  have h1 := hr 1 (by show 1 < 2; decide)
  obtain ⟨v0, v1, rfl⟩ : ∃ v0 v1, vals = #[v0, v1] := by
    have hs : vals.size = 2 := hsz
    exact ⟨vals[0], vals[1], by
      apply Array.ext
      · exact hs
      · intro i hi1 hi2
        have : i = 0 ∨ i = 1 := by omega
        rcases this with rfl | rfl <;> rfl⟩
  have h0 : R w X E0 (.sl g.n 1 (fun i => lst [.str (g.f i)])) v0 := h0
  have h1 : R w X E0 (.str g.s) v1 := h1
  have e1 : v1 = .string g.s := by cases h1; rfl
  subst e1
  obtain ⟨n, f, s⟩ := g
  cases h0 with
  | sl0 =>
    refine (Tryd.strings_Join_none _ _ s w).mono ?_
    rintro e w' ⟨rfl, rfl⟩
    exact ⟨_, rfl, .str, Below.refl _ _⟩
  | sl hb hX hc hl ho h =>
    rename_i b o cap c T fr
    have hlen : (JsG.xs ⟨n, f, s⟩).length = n := by simp [JsG.xs]
    have hc : o + n * 1 ≤ c.size := hc
    have hcon := Tryd.strings_Join b o cap (JsG.xs ⟨n, f, s⟩) s w (fun j x hx => by
      have hj : j < n := by
        have := (List.getElem?_eq_some_iff.1 hx).1
        omega
      have hR := h j 0 hj (by decide)
      have ex : x = f j := by
        simp only [JsG.xs, List.getElem?_map, List.getElem?_range hj, Option.map_some, Option.some.injEq] at hx
        exact hx.symm
      have hlt : o + j * 1 + 0 < c.size := by omega
      have hv : c.getD (o + j * 1 + 0) undef = .string (f j) := by
        generalize c.getD (o + j * 1 + 0) undef = u at hR
        have hR : R w X E0 (.str (f j)) u := hR
        cases hR; rfl
      unfold World.cell?
      rw [hb]
      simp only [Array.getD, hlt, dite_true] at hv
      simp only [Option.isSome_none, Bool.false_eq_true, if_false]
      rw [show o + j = o + j * 1 + 0 by omega, Array.getElem?_eq_getElem hlt, ex]
      congr 1) (lt_of_block hb) (by rw [hlen]; exact hg.1) (by rw [hlen]; exact hl) hg.2
    rw [hlen] at hcon
    refine hcon.mono ?_
    rintro e w' ⟨rfl, hB⟩
    exact ⟨_, rfl, .str, hB⟩
/-! The closure that appends words. -/
structure SaG where
  n : Nat
  f : Nat → ByteArray
  w : ByteArray
  m : Nat
  x : Nat → Int
def SaG.o (g : SaG) (k i : Nat) : ByteArray := if i < g.n then g.f i else if i < g.n + 1 then g.w else dg (g.x (i - (g.n + 1))).toNat
def saD : List SV → List SO → Option SaG
  | [.str w, s, _], [_, .row _ n _ g _] => some ⟨n, fun i => stD (g i 0), w, slLen s, slCell 0 s⟩
  | _, _ => none
def strRow (v n : Nat) (f : Nat → ByteArray) : SO := .row v n 1 (fun i => lst [.str (f i)]) 9
def saCell (v : Nat) : SO := .cells 1 (lst [.osl 1 v]) 35
def saInv (g : SaG) : Inv := ⟨Nat, fun k => k ≤ g.m, fun k => ⟨[(2, .own 0 0), (11, .sl g.m 1 (fun j => lst [.int .i64 (g.x j)])), (12, .int .i64 g.m), (13, .int .i64 k)], [saCell 1, strRow 1 (g.n + 1 + k) (g.o k)]⟩, fun k => g.m - k⟩
def spSay : FSpec := mkSpecM 10 [.arg 2, .cell 0 0] saD (fun g => [.str g.w, .sl g.m 1 (fun j => lst [.int .i64 (g.x j)]), .own 0 0]) (fun g => [saCell 0, strRow 0 g.n g.f]) (fun g => (∀ j, j < g.m → 0 ≤ g.x j ∧ g.x j < 10) ∧ g.n ≤ 100 ∧ g.m ≤ 10) (fun _ => .tup 0 (lst []))
  (fun g => [saCell 1, strRow 1 (g.n + 1 + g.m) (g.o g.m)])
theorem ok_say : SpecOK Tryd.prog spSay := by
  refine spec_soundM (specs := [spItoa]) (all_ok (⟨ok_itoa, trivial⟩)) (eqs := []) (fun _ _ h => (List.not_mem_nil h).elim) Aff.mixed Tryd.func10 rfl (by kernel_rfl) (fun _ _ => by kernel_rfl) (fun g => (⟨[(2, .inv (saInv g))], []⟩ : Ann)) false (fun g => Nat.le_of_ble_eq_true (by kernel_rfl)) ?_
  rintro g ⟨hx, hn, hm⟩
  refine vc_of (B := let z2 := (1 : Nat);let z0 := (IntKind.i64 = IntKind.i64); let z4 := (Sx.Ask z0 ∧ Sx.Ask ((↑g.m : Int) = (↑g.m : Int))); let z1 := (Sx.Ask (g.m = g.m) ∧ ∀ (i : Nat), i < g.m → True ∧ Sx.Ask z0 ∧ Sx.Ask (g.x i = g.x i));True ∧ True ∧ True ∧ Sx.Ask (g.n + z2 ≤ (9223372036854775807 : Nat) ∧ (g.n + z2) * (16 : Nat) ≤ (140737488355328 : Nat)) ∧ True ∧ True ∧ True ∧ True ∧ (∃ (g_1 : Nat), Sx.Ask ((saInv g).pre g_1) ∧ True ∧ (Sx.Ask ((0 : Nat) = (0 : Nat)) ∧ z1 ∧ z4 ∧ (Sx.Ask z0 ∧ Sx.Ask ((0 : Int) = (↑g_1 : Int))) ∧ True) ∧ (True ∧ True) ∧ (Sx.Ask (g.n + z2 = g.n + z2 + g_1) ∧ ∀ (i : Nat), i < g.n + z2 + g_1 → True ∧ Sx.Ask ((bif decide (i < g.n) then g.f i else g.w) = g.o g_1 i)) ∧ True) ∧ ∀ (g_1 : Nat), let z3 := (↑g_1 : Int); (saInv g).pre g_1 → True ∧ Sx.Br (decide (z3 < (↑g.m : Int))) (Sx.Ask ((0 : Int) ≤ z3 ∧ z3 < (↑g.m : Int)) ∧ True ∧ True ∧ True ∧ True ∧ (((Sx.Ask z0 ∧ Sx.Ask (g.x z3.toNat = (↑(g.x z3.toNat).toNat : Int))) ∧ True) ∧ Sx.Ask ((g.x z3.toNat).toNat < (10 : Nat))) ∧ True ∧ Sx.Ask (g.n + z2 + g_1 + z2 ≤ (9223372036854775807 : Nat) ∧ (g.n + z2 + g_1 + z2) * (16 : Nat) ≤ (140737488355328 : Nat)) ∧ True ∧ Sx.Ask ((-9223372036854775808 : Int) ≤ z3 + (1 : Int) ∧ z3 + (1 : Int) ≤ (9223372036854775807 : Int)) ∧ True ∧ ∃ (g' : Nat), Sx.Ask ((saInv g).pre g') ∧ True ∧ ((Sx.Ask ((0 : Nat) = (0 : Nat)) ∧ z1 ∧ z4 ∧ (Sx.Ask z0 ∧ Sx.Ask (z3 + (1 : Int) = (↑g' : Int))) ∧ True) ∧ (True ∧ True) ∧ (Sx.Ask (g.n + z2 + g_1 + z2 = g.n + z2 + g') ∧ ∀ (i : Nat), i < g.n + z2 + g' → True ∧ Sx.Ask ((bif decide (i < g.n + z2 + g_1) then g.o g_1 i else dg (g.x z3.toNat).toNat) = g.o g' i)) ∧ True) ∧ Sx.Ask ((saInv g).meas g' < (saInv g).meas g_1)) (True ∧ True ∧ (True ∧ True) ∧ (True ∧ True) ∧ (Sx.Ask (g.n + z2 + g_1 = g.n + z2 + g.m) ∧ ∀ (i : Nat), i < g.n + z2 + g.m → True ∧ Sx.Ask (g.o g_1 i = g.o g.m i)) ∧ True)) (by kernel_rfl) ?_
  simp only [ask_iff, br_iff, eq_self, true_and, and_true, implies_true, forall_const, decide_eq_true_eq, decide_eq_false_iff_not, ne_eq, Nat.mul_one, Nat.add_zero, Nat.zero_add]
  have hb : ∀ j, j < g.m → g.x j = ((g.x j).toNat : Int) ∧ (g.x j).toNat < 10 := fun j hj => by have := hx j hj; omega
  refine ⟨by omega, ⟨0, Nat.zero_le _, rfl, rfl, fun i hi => ?_⟩, fun k hk => ⟨fun hlt => ?_, fun hge => ?_⟩⟩
  · unfold SaG.o
    by_cases h : i < g.n
    · rw [decide_eq_true h, if_pos h]; rfl
    · rw [decide_eq_false h, if_neg h, if_pos (by omega)]; rfl
  · have hk : k ≤ g.m := hk
    have z : ((k : Int)).toNat = k := rfl
    rw [z]
    refine ⟨by omega, hb k (by omega), by omega, by omega, k + 1, (by omega : k + 1 ≤ g.m), ⟨rfl, rfl, fun i hi => ?_⟩, ?_⟩
    · by_cases h : i < g.n + 1 + k
      · rw [decide_eq_true h]; rfl
      · rw [decide_eq_false h]
        unfold SaG.o
        rw [if_neg (by omega), if_neg (by omega), show i - (g.n + 1) = k by omega]
        rfl
    · show g.m - (k + 1) < g.m - k
      omega
  · have hk : k ≤ g.m := hk
    rw [show k = g.m by omega]
    exact ⟨rfl, fun _ _ => rfl⟩
/-! The box. -/
def boxL : List Seg := [⟨1, 0, 0, 0, 0, 0⟩, ⟨2, 4, 0, 0, 0, 0⟩, ⟨2, 4, 2, 0, 0, 0⟩, ⟨2, 0, 2, 0, 0, 0⟩, ⟨4, 0, 0, 0, 0, 0⟩]
def boxF (i : Nat) : Seg := boxL.getD i ⟨0, 0, 0, 0, 0, 0⟩
def boxP : Pth := ⟨5, boxF⟩
def lit : ByteArray := ⟨#[109, 32, 48, 32, 48, 32, 108, 32, 52, 32, 48, 32, 108, 32, 52, 32, 50, 32, 108, 32, 48, 32, 50, 32, 104]⟩
def wL : List ByteArray := [⟨#[109]⟩, ⟨#[48]⟩, ⟨#[48]⟩, ⟨#[108]⟩, ⟨#[52]⟩, ⟨#[48]⟩, ⟨#[108]⟩, ⟨#[52]⟩, ⟨#[50]⟩, ⟨#[108]⟩, ⟨#[48]⟩, ⟨#[50]⟩, ⟨#[104]⟩]
def wl (i : Nat) : ByteArray := wL.getD i ⟨#[]⟩
def tlen (k : Nat) : Nat := if k < 5 then 3 * k else 13
def txI (k : Nat) : St := ⟨[(5, .own 0 0), (6, .fn 10 1 (lst [.own 0 0])), (15, pthS boxP), (16, .int .i64 5), (17, .int .i64 k)], [saCell 0, strRow 0 (tlen k) wl]⟩
def spText : FSpec := mkSpec 5 (γ := Unit) (fun | [_] => some () | _ => none) (fun _ => [pthS boxP]) (fun _ => True) (fun _ => .tup 2 (lst [.str lit, .int .i64 0]))
theorem ok_text : SpecOK Tryd.prog spText := by
  refine spec_sound (specs := [spCheckPa, givA [1] spSay, giv spJoinS]) (all_ok (⟨ok_checkPa, givA_ok ok_say, giv_ok ok_joinS, trivial⟩)) (eqs := []) (fun _ _ h => (List.not_mem_nil h).elim) Aff.mixed Tryd.func5 rfl (by kernel_rfl) (fun _ _ => by kernel_rfl) (fun g => (⟨[(7, .steps 6 txI (fun _ => []))], [(6, [.ownC 0 0 9 1])]⟩ : Ann)) (fun g => Nat.le_of_ble_eq_true (by kernel_rfl)) ?_
  rintro g hg
  refine vc_of (B := let z25 := (2 : Int);let z24 := (4 : Int);let z22 := (ByteArray.mk #[(108 : UInt8)]);let z18 := (1 : Int);let z17 := (↑(5 : Nat) : Int);let z16 := (True ∧ True);let z15 := (9223372036854775807 : Int);let z14 := (-9223372036854775808 : Int);let z13 := (ByteArray.mk #[(108 : UInt8)] = ByteArray.mk #[(108 : UInt8)]);let z11 := (2 : Nat);let z9 := (0 : Int);let z4 := (IntKind.i64 = IntKind.i64); let z10 := (Sx.Ask z4 ∧ Sx.Ask ((5 : Int) = (5 : Int)));let z2 := (0 : Nat); let z28 := (↑z2 : Int); let z21 := (z2 = z2); let z5 := (Sx.Ask ((10 : Go.FuncId) = (10 : Go.FuncId)) ∧ True ∧ Sx.Ask z21); let z3 := (fun (i : Nat) => match Sx.lst [Sx.SV.str (wl i)] z2 with | Sx.SV.str s => s | x => ByteArray.mk #[]);let z1 := (1 : Nat); let z26 := (z2 + z1); let z19 := (↑z26 : Int); let z12 := (z2 + z1 + z1); let z27 := (↑z12 : Int); let z8 := (z2 + z1 + z1 + z1); let z29 := (↑z8 : Int); let z7 := (z2 + z1 + z1 + z1 + z1 + z1); let z23 := (JsG.mk (tlen z7) z3 (ByteArray.mk #[(32 : UInt8)])); let z6 := (z2 + z1 + z1 + z1 + z1); let z30 := (↑z6 : Int);let z0 := (Sx.Ask ((5 : Nat) = (5 : Nat)) ∧ ∀ (i : Nat), let z20 := (boxP.f i); i < (5 : Nat) → (((((True ∧ Sx.Ask z4 ∧ Sx.Ask (z20.k = z20.k)) ∧ Sx.Ask z4 ∧ Sx.Ask (z20.x = z20.x)) ∧ Sx.Ask z4 ∧ Sx.Ask (z20.y = z20.y)) ∧ Sx.Ask z4 ∧ Sx.Ask (z20.u = z20.u)) ∧ Sx.Ask z4 ∧ Sx.Ask (z20.v = z20.v)) ∧ Sx.Ask z4 ∧ Sx.Ask (z20.w = z20.w));True ∧ True ∧ True ∧ ((z0 ∧ True) ∧ Sx.Ask ((5 : Nat) ≤ (9223372036854775807 : Nat))) ∧ True ∧ True ∧ True ∧ True ∧ True ∧ True ∧ True ∧ True ∧ True ∧ ((Sx.Ask z21 ∧ (Sx.Ask ((10 : Nat) = (10 : Go.FuncId)) ∧ True ∧ Sx.Ask z21) ∧ z0 ∧ (Sx.Ask z4 ∧ Sx.Ask (z17 = (5 : Int))) ∧ (Sx.Ask z4 ∧ Sx.Ask (z9 = z28)) ∧ True) ∧ z16 ∧ (Sx.Ask (z2 = tlen z2) ∧ ∀ (i : Nat), i < tlen z2 → True ∧ False) ∧ True) ∧ True ∧ Sx.Ask (z9 ≤ z28 ∧ z28 < z17) ∧ True ∧ True ∧ True ∧ True ∧ True ∧ True ∧ True ∧ True ∧ True ∧ True ∧ True ∧ True ∧ True ∧ ((True ∧ (Sx.Ask (ByteArray.mk #[(109 : UInt8)] = ByteArray.mk #[(109 : UInt8)]) ∧ (Sx.Ask (z11 = z11) ∧ ∀ (i : Nat), i < z11 → True ∧ Sx.Ask z4 ∧ Sx.Ask ((bif decide (i = z1) then z9 else z9) = bif decide (i = z1) then z9 else z9)) ∧ Sx.Ask z21 ∧ True) ∧ z16 ∧ (Sx.Ask (tlen z2 = tlen z2) ∧ ∀ (i : Nat), i < tlen z2 → True ∧ Sx.Ask (wl i = match Sx.lst [Sx.SV.str (wl i)] z2 with | Sx.SV.str s => s | x => ByteArray.mk #[])) ∧ True) ∧ Sx.Ask ((∀ (j : Nat), j < z11 → (z9 ≤ bif decide (j = z1) then z9 else z9) ∧ (bif decide (j = z1) then z9 else z9) < (10 : Int)) ∧ tlen z2 ≤ (100 : Nat) ∧ z11 ≤ (10 : Nat))) ∧ Sx.Ask (z14 ≤ z28 + z18 ∧ z28 + z18 ≤ z15) ∧ True ∧ ((Sx.Ask z21 ∧ z5 ∧ z0 ∧ z10 ∧ (Sx.Ask z4 ∧ Sx.Ask (z28 + z18 = z19)) ∧ True) ∧ z16 ∧ (Sx.Ask (tlen z2 + z1 + z11 = tlen z26) ∧ ∀ (i : Nat), i < tlen z26 → True ∧ Sx.Ask ((SaG.mk (tlen z2) z3 (ByteArray.mk #[(109 : UInt8)]) z11 fun (i : Nat) => bif decide (i = z1) then z9 else z9).o z11 i = wl i)) ∧ True) ∧ True ∧ Sx.Ask (z9 ≤ z19 ∧ z19 < z17) ∧ True ∧ True ∧ True ∧ True ∧ True ∧ True ∧ True ∧ True ∧ True ∧ True ∧ True ∧ True ∧ True ∧ True ∧ True ∧ ((True ∧ (Sx.Ask z13 ∧ (Sx.Ask (z11 = z11) ∧ ∀ (i : Nat), i < z11 → True ∧ Sx.Ask z4 ∧ Sx.Ask ((bif decide (i = z1) then z9 else z24) = bif decide (i = z1) then z9 else z24)) ∧ Sx.Ask z21 ∧ True) ∧ z16 ∧ (Sx.Ask (tlen z26 = tlen z26) ∧ ∀ (i : Nat), i < tlen z26 → True ∧ Sx.Ask (wl i = match Sx.lst [Sx.SV.str (wl i)] z2 with | Sx.SV.str s => s | x => ByteArray.mk #[])) ∧ True) ∧ Sx.Ask ((∀ (j : Nat), j < z11 → (z9 ≤ bif decide (j = z1) then z9 else z24) ∧ (bif decide (j = z1) then z9 else z24) < (10 : Int)) ∧ tlen z26 ≤ (100 : Nat) ∧ z11 ≤ (10 : Nat))) ∧ Sx.Ask (z14 ≤ z19 + z18 ∧ z19 + z18 ≤ z15) ∧ True ∧ ((Sx.Ask z21 ∧ z5 ∧ z0 ∧ z10 ∧ (Sx.Ask z4 ∧ Sx.Ask (z19 + z18 = z27)) ∧ True) ∧ z16 ∧ (Sx.Ask (tlen z26 + z1 + z11 = tlen z12) ∧ ∀ (i : Nat), i < tlen z12 → True ∧ Sx.Ask ((SaG.mk (tlen z26) z3 z22 z11 fun (i : Nat) => bif decide (i = z1) then z9 else z24).o z11 i = wl i)) ∧ True) ∧ True ∧ Sx.Ask (z9 ≤ z27 ∧ z27 < z17) ∧ True ∧ True ∧ True ∧ True ∧ True ∧ True ∧ True ∧ True ∧ True ∧ True ∧ True ∧ True ∧ True ∧ True ∧ True ∧ ((True ∧ (Sx.Ask z13 ∧ (Sx.Ask (z11 = z11) ∧ ∀ (i : Nat), i < z11 → True ∧ Sx.Ask z4 ∧ Sx.Ask ((bif decide (i = z1) then z25 else z24) = bif decide (i = z1) then z25 else z24)) ∧ Sx.Ask z21 ∧ True) ∧ z16 ∧ (Sx.Ask (tlen z12 = tlen z12) ∧ ∀ (i : Nat), i < tlen z12 → True ∧ Sx.Ask (wl i = match Sx.lst [Sx.SV.str (wl i)] z2 with | Sx.SV.str s => s | x => ByteArray.mk #[])) ∧ True) ∧ Sx.Ask ((∀ (j : Nat), j < z11 → (z9 ≤ bif decide (j = z1) then z25 else z24) ∧ (bif decide (j = z1) then z25 else z24) < (10 : Int)) ∧ tlen z12 ≤ (100 : Nat) ∧ z11 ≤ (10 : Nat))) ∧ Sx.Ask (z14 ≤ z27 + z18 ∧ z27 + z18 ≤ z15) ∧ True ∧ ((Sx.Ask z21 ∧ z5 ∧ z0 ∧ z10 ∧ (Sx.Ask z4 ∧ Sx.Ask (z27 + z18 = z29)) ∧ True) ∧ z16 ∧ (Sx.Ask (tlen z12 + z1 + z11 = tlen z8) ∧ ∀ (i : Nat), i < tlen z8 → True ∧ Sx.Ask ((SaG.mk (tlen z12) z3 z22 z11 fun (i : Nat) => bif decide (i = z1) then z25 else z24).o z11 i = wl i)) ∧ True) ∧ True ∧ Sx.Ask (z9 ≤ z29 ∧ z29 < z17) ∧ True ∧ True ∧ True ∧ True ∧ True ∧ True ∧ True ∧ True ∧ True ∧ True ∧ True ∧ True ∧ True ∧ True ∧ True ∧ ((True ∧ (Sx.Ask z13 ∧ (Sx.Ask (z11 = z11) ∧ ∀ (i : Nat), i < z11 → True ∧ Sx.Ask z4 ∧ Sx.Ask ((bif decide (i = z1) then z25 else z9) = bif decide (i = z1) then z25 else z9)) ∧ Sx.Ask z21 ∧ True) ∧ z16 ∧ (Sx.Ask (tlen z8 = tlen z8) ∧ ∀ (i : Nat), i < tlen z8 → True ∧ Sx.Ask (wl i = match Sx.lst [Sx.SV.str (wl i)] z2 with | Sx.SV.str s => s | x => ByteArray.mk #[])) ∧ True) ∧ Sx.Ask ((∀ (j : Nat), j < z11 → (z9 ≤ bif decide (j = z1) then z25 else z9) ∧ (bif decide (j = z1) then z25 else z9) < (10 : Int)) ∧ tlen z8 ≤ (100 : Nat) ∧ z11 ≤ (10 : Nat))) ∧ Sx.Ask (z14 ≤ z29 + z18 ∧ z29 + z18 ≤ z15) ∧ True ∧ ((Sx.Ask z21 ∧ z5 ∧ z0 ∧ z10 ∧ (Sx.Ask z4 ∧ Sx.Ask (z29 + z18 = z30)) ∧ True) ∧ z16 ∧ (Sx.Ask (tlen z8 + z1 + z11 = tlen z6) ∧ ∀ (i : Nat), i < tlen z6 → True ∧ Sx.Ask ((SaG.mk (tlen z8) z3 z22 z11 fun (i : Nat) => bif decide (i = z1) then z25 else z9).o z11 i = wl i)) ∧ True) ∧ True ∧ Sx.Ask (z9 ≤ z30 ∧ z30 < z17) ∧ True ∧ True ∧ True ∧ True ∧ True ∧ True ∧ True ∧ True ∧ True ∧ True ∧ True ∧ True ∧ True ∧ True ∧ ((True ∧ (Sx.Ask (ByteArray.mk #[(104 : UInt8)] = ByteArray.mk #[(104 : UInt8)]) ∧ Sx.Ask z21 ∧ Sx.Ask z21 ∧ True) ∧ z16 ∧ (Sx.Ask (tlen z6 = tlen z6) ∧ ∀ (i : Nat), i < tlen z6 → True ∧ Sx.Ask (wl i = match Sx.lst [Sx.SV.str (wl i)] z2 with | Sx.SV.str s => s | x => ByteArray.mk #[])) ∧ True) ∧ Sx.Ask ((∀ (j : Nat), j < z2 → z9 ≤ Sx.slCell z2 Sx.SV.cap0 j ∧ Sx.slCell z2 Sx.SV.cap0 j < (10 : Int)) ∧ tlen z6 ≤ (100 : Nat) ∧ z2 ≤ (10 : Nat))) ∧ Sx.Ask (z14 ≤ z30 + z18 ∧ z30 + z18 ≤ z15) ∧ True ∧ ((Sx.Ask z21 ∧ z5 ∧ z0 ∧ z10 ∧ (Sx.Ask z4 ∧ Sx.Ask (z30 + z18 = (↑z7 : Int))) ∧ True) ∧ z16 ∧ (Sx.Ask (tlen z6 + z1 + z2 = tlen z7) ∧ ∀ (i : Nat), i < tlen z7 → True ∧ Sx.Ask ((SaG.mk (tlen z6) z3 (ByteArray.mk #[(104 : UInt8)]) z2 (Sx.slCell z2 Sx.SV.cap0)).o z2 i = wl i)) ∧ True) ∧ True ∧ True ∧ (((Sx.Ask (tlen z7 = tlen z7) ∧ ∀ (i : Nat), i < tlen z7 → True ∧ Sx.Ask (wl i = match Sx.lst [Sx.SV.str (wl i)] z2 with | Sx.SV.str s => s | x => ByteArray.mk #[])) ∧ Sx.Ask (ByteArray.mk #[(32 : UInt8)] = ByteArray.mk #[(32 : UInt8)]) ∧ True) ∧ Sx.Ask (tlen z7 ≤ (140737488355328 : Nat) ∧ z23.j.length ≤ (140737488355328 : Nat))) ∧ True ∧ True ∧ True ∧ (True ∧ Sx.Ask (ByteArray.mk z23.j.toArray = lit)) ∧ Sx.Ask z4 ∧ Sx.Ask (z9 = z9)) (by kernel_rfl) ?_
  simp only [ask_iff, br_iff, eq_self, true_and, and_true, implies_true, forall_const, decide_eq_true_eq, decide_eq_false_iff_not, ne_eq, Nat.mul_one, Nat.add_zero, Nat.zero_add]
  repeat' apply And.intro
  all_goals first | exact fun i _ => rfl | decide
end Go.Proofs.YthappngbapbkfaaDoor.Pte
