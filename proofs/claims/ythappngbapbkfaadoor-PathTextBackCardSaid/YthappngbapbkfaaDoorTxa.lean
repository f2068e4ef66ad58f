/- path.Text, PathTextBack: strconv.Itoa, strings.Split, CutPrefix, the closure that says words, Text: by the shelf and the evaluation. -/
import Derived.Test.YthappngbapbkfaaDoorPte
import Derived.Test.YthappngbapbkfaaDoorTxp
import Derived.Test.YthappngbapbkfaaDoorSxg
set_option linter.unusedSimpArgs false
set_option linter.unusedVariables false
namespace Go.Proofs.YthappngbapbkfaaDoor.Txa
open Go.RowKit Sx Num Aff Con Cop Coh Pth Pmp Pte Txp
set_option maxRecDepth 100000
/-- What is known of two variables of the library's. -/
def Kw (w : World) : Prop := Lib.TabIs Tryd.prog w "internal/strconv.uint64pow10" .u64 Lib.pow10Tab ∧ ∃ m, w.cell? ⟨1, 0, none⟩ = some (.int .i64 m)
abbrev Gw : World → Fr → Prop := sure Kw
theorem one_val {vals : Array Value} (h : vals.size = 1) : ∃ v, vals = #[v] := ⟨vals[0], by
  apply Array.ext
  · exact h
  · intro i hi1 hi2
    have : i = 0 := by omega
    subst this; rfl⟩
theorem two_val {vals : Array Value} (h : vals.size = 2) : ∃ v u, vals = #[v, u] := ⟨vals[0], vals[1], by
  apply Array.ext
  · exact h
  · intro i hi1 hi2
    have : i = 0 ∨ i = 1 := by omega
    rcases this with rfl | rfl <;> rfl⟩
/-! strconv.Itoa. -/
def spItoaA : FSpec := mkSpec 11 (γ := Int) (fun | [.int _ x] => some x | _ => none) (fun x => [.int .i64 x]) (fun x => -9223372036854775808 ≤ x ∧ x ≤ 9223372036854775807) (fun x => .str (itb x))
theorem ok_itoaA : SpecG Gw Tryd.prog spItoaA := by
  refine specG_of (sure_ok Kw) (enters_of Tryd.func11 (by kernel_rfl) rfl) (fun x hx vals w X hsz hr _ hG => ?_)
  have h0 := hr 0 (by show 0 < 1; decide)
  obtain ⟨v0, rfl⟩ := one_val hsz
  have h0 : R w X E0 (.int .i64 x) v0 := h0
  rw [int_inv h0]
  refine (Tryd.strconv_Itoa x hx.1 hx.2 w hG.here.1).mono ?_
  rintro e w' ⟨rfl, k, os, rfl⟩
  exact ⟨_, rfl, .str, ⟨rfl, rfl, rfl, by simp [Sort.grow, World.drewN], fun i hi => by simp [Sort.grow, World.drewN, Array.getElem?_append, hi]⟩⟩
/-! strings.CutPrefix. -/
structure CpG where
  s : ByteArray
  p : ByteArray
def CpG.t (g : CpG) : ByteArray := ⟨(Lib.trimPrefix g.s.data.toList g.p.data.toList).toArray⟩
def CpG.b (g : CpG) : Bool := Lib.hasPrefix g.s.data.toList g.p.data.toList
def spCutP : FSpec := mkSpec 24 (γ := CpG) (fun | [.str s, .str p] => some ⟨s, p⟩ | _ => none) (fun g => [.str g.s, .str g.p]) (fun _ => True) (fun g => .tup 2 (lst [.str g.t, .bool g.b]))
theorem ok_cutP : SpecOK Tryd.prog spCutP := by
  refine specOK_of (enters_of Tryd.func24 (by kernel_rfl) rfl) (fun g _ vals w X hsz hr _ => ?_)
  have h0 := hr 0 (by show 0 < 2; decide)
  have h1 := hr 1 (by show 1 < 2; decide)
  obtain ⟨v0, v1, rfl⟩ := two_val hsz
  have h0 : R w X E0 (.str g.s) v0 := h0
  have h1 : R w X E0 (.str g.p) v1 := h1
  obtain ⟨s, p⟩ := g
  cases h0
  cases h1
  refine (Tryd.strings_CutPrefix s p w).mono ?_
  rintro e w' ⟨rfl, rfl⟩
  refine ⟨_, rfl, .tup rfl fun i hi => ?_, Below.refl _ _⟩
  match i, hi with
  | 0, _ => exact .str
  | 1, _ => exact .bool
/-! strings.Split at a blank. -/
def spc : ByteArray := ⟨#[32]⟩
def wds (s : ByteArray) : List ByteArray := Lib.splitB spc 0 (Lib.countB s spc) s
def wdS (l : List ByteArray) : SV := .sl l.length 1 (fun i => lst [.str (l.getD i ⟨#[]⟩)])
def spSplit : FSpec := mkSpec 14 (γ := ByteArray) (fun | [.str s, _] => some s | _ => none) (fun s => [.str s, .str spc]) (fun s => s.size < 4294967281) (fun s => wdS (wds s))
theorem ok_split : SpecG Gw Tryd.prog spSplit := by
  refine specG_of (sure_ok Kw) (enters_of Tryd.func14 (by kernel_rfl) rfl) (fun s hs vals w X hsz hr hX hG => ?_)
  have h0 := hr 0 (by show 0 < 2; decide)
  have h1 := hr 1 (by show 1 < 2; decide)
  obtain ⟨v0, v1, rfl⟩ := two_val hsz
  have h0 : R w X E0 (.str s) v0 := h0
  have h1 : R w X E0 (.str spc) v1 := h1
  cases h0
  cases h1
  obtain ⟨m, hm⟩ := hG.here.2
  refine (Tryd.strings_Split s spc m w hs hm (by decide)).mono ?_
  rintro e w' ⟨rfl, rfl⟩
  have hlen : (wds s).length = Lib.countB s spc + 1 := Lib.splitB_all spc (by decide) 0 _ s rfl
  refine ⟨_, rfl, ?_, Below.allocs w _⟩
  show R _ X E0 (.sl (wds s).length 1 _) _
  rw [← hlen]
  refine .sl (heap_new' w _) (fun hc => absurd (hX _ hc) (Nat.lt_irrefl _)) (by simp [wds]) (Nat.le_refl _) (fun i j hi hj => ?_) (fun i j hi hj => ?_)
  · obtain rfl : j = 0 := by omega
    have e : (((wds s).map Value.string).toArray).getD (0 + i * 1 + 0) undef = .string ((wds s).getD i ⟨#[]⟩) := by
      simp [Array.getD_eq_getD_getElem?, List.getD_eq_getElem?_getD, hi]
    show oneCell ((((wds s).map Value.string).toArray).getD _ undef)
    rw [e]; rfl
  · obtain rfl : j = 0 := by omega
    have e : (((wds s).map Value.string).toArray).getD (0 + i * 1 + 0) undef = .string ((wds s).getD i ⟨#[]⟩) := by
      simp [Array.getD_eq_getD_getElem?, List.getD_eq_getElem?_getD, hi]
    show R _ X E0 (.str ((wds s).getD i ⟨#[]⟩)) ((((wds s).map Value.string).toArray).getD _ undef)
    rw [e]; exact .str
/-! The closure that appends words. -/
def SaG.oA (g : SaG) (k i : Nat) : ByteArray := if i < g.n then g.f i else if i < g.n + 1 then g.w else itb (g.x (i - (g.n + 1)))
def saIA (g : SaG) : Inv := ⟨Nat, fun k => k ≤ g.m, fun k => ⟨[(2, .own 0 0), (11, .sl g.m 1 (fun j => lst [.int .i64 (g.x j)])), (12, .int .i64 g.m), (13, .int .i64 k)], [saCell 1, strRow 1 (g.n + 1 + k) (SaG.oA g k)]⟩, fun k => g.m - k⟩
def spSayA : FSpec := mkSpecM 10 [.arg 2, .cell 0 0] saD (fun g => [.str g.w, .sl g.m 1 (fun j => lst [.int .i64 (g.x j)]), .own 0 0]) (fun g => [saCell 0, strRow 0 g.n g.f]) (fun g => (∀ j, j < g.m → -1000000 ≤ g.x j ∧ g.x j ≤ 1000000) ∧ g.n ≤ 100000 ∧ g.m ≤ 10) (fun _ => .tup 0 (lst []))
  (fun g => [saCell 1, strRow 1 (g.n + 1 + g.m) (SaG.oA g g.m)])
theorem ok_sayA : SpecG Gw Tryd.prog spSayA := by
  refine spec_soundMG (sure_okM Kw) (specs := [spItoaA]) (all_g (⟨ok_itoaA, trivial⟩)) (eqs := []) (fun _ _ h => (List.not_mem_nil h).elim) Aff.mixed Tryd.func10 rfl (by kernel_rfl) (.inr (by kernel_rfl)) (fun _ _ => by kernel_rfl) (fun g => (⟨[(2, .inv (saIA g))], []⟩ : Ann)) false (fun g => Nat.le_of_ble_eq_true (by kernel_rfl)) ?_
  rintro g ⟨hx, hn, hm⟩
  refine vc_of (B := let z2 := (1 : Nat);let z0 := (IntKind.i64 = IntKind.i64); let z4 := (Sx.Ask z0 ∧ Sx.Ask ((↑g.m : Int) = (↑g.m : Int))); let z1 := (Sx.Ask (g.m = g.m) ∧ ∀ (i : Nat), i < g.m → True ∧ Sx.Ask z0 ∧ Sx.Ask (g.x i = g.x i));True ∧ True ∧ True ∧ Sx.Ask (g.n + z2 ≤ (9223372036854775807 : Nat) ∧ (g.n + z2) * (16 : Nat) ≤ (140737488355328 : Nat)) ∧ True ∧ True ∧ True ∧ True ∧ (∃ (g_1 : Nat), Sx.Ask ((saIA g).pre g_1) ∧ True ∧ (Sx.Ask ((0 : Nat) = (0 : Nat)) ∧ z1 ∧ z4 ∧ (Sx.Ask z0 ∧ Sx.Ask ((0 : Int) = (↑g_1 : Int))) ∧ True) ∧ (True ∧ True) ∧ (Sx.Ask (g.n + z2 = g.n + z2 + g_1) ∧ ∀ (i : Nat), i < g.n + z2 + g_1 → True ∧ Sx.Ask ((bif decide (i < g.n) then g.f i else g.w) = SaG.oA g g_1 i)) ∧ True) ∧ ∀ (g_1 : Nat), let z3 := (↑g_1 : Int); (saIA g).pre g_1 → True ∧ Sx.Br (decide (z3 < (↑g.m : Int))) (Sx.Ask ((0 : Int) ≤ z3 ∧ z3 < (↑g.m : Int)) ∧ True ∧ True ∧ True ∧ True ∧ (((Sx.Ask z0 ∧ Sx.Ask (g.x z3.toNat = g.x z3.toNat)) ∧ True) ∧ Sx.Ask ((-9223372036854775808 : Int) ≤ g.x z3.toNat ∧ g.x z3.toNat ≤ (9223372036854775807 : Int))) ∧ True ∧ Sx.Ask (g.n + z2 + g_1 + z2 ≤ (9223372036854775807 : Nat) ∧ (g.n + z2 + g_1 + z2) * (16 : Nat) ≤ (140737488355328 : Nat)) ∧ True ∧ Sx.Ask ((-9223372036854775808 : Int) ≤ z3 + (1 : Int) ∧ z3 + (1 : Int) ≤ (9223372036854775807 : Int)) ∧ True ∧ ∃ (g' : Nat), Sx.Ask ((saIA g).pre g') ∧ True ∧ ((Sx.Ask ((0 : Nat) = (0 : Nat)) ∧ z1 ∧ z4 ∧ (Sx.Ask z0 ∧ Sx.Ask (z3 + (1 : Int) = (↑g' : Int))) ∧ True) ∧ (True ∧ True) ∧ (Sx.Ask (g.n + z2 + g_1 + z2 = g.n + z2 + g') ∧ ∀ (i : Nat), i < g.n + z2 + g' → True ∧ Sx.Ask ((bif decide (i < g.n + z2 + g_1) then SaG.oA g g_1 i else Txp.itb (g.x z3.toNat)) = SaG.oA g g' i)) ∧ True) ∧ Sx.Ask ((saIA g).meas g' < (saIA g).meas g_1)) (True ∧ True ∧ (True ∧ True) ∧ (True ∧ True) ∧ (Sx.Ask (g.n + z2 + g_1 = g.n + z2 + g.m) ∧ ∀ (i : Nat), i < g.n + z2 + g.m → True ∧ Sx.Ask (SaG.oA g g_1 i = SaG.oA g g.m i)) ∧ True)) (by kernel_rfl) ?_
  simp only [ask_iff, br_iff, eq_self, true_and, and_true, implies_true, forall_const, decide_eq_true_eq, decide_eq_false_iff_not, ne_eq, Nat.mul_one, Nat.add_zero, Nat.zero_add, Int.toNat_natCast]
  refine ⟨by omega, ⟨0, Nat.zero_le _, rfl, rfl, fun i hi => ?_⟩, fun k hk => ⟨fun hlt => ?_, fun hge => ?_⟩⟩
  · unfold SaG.oA
    by_cases h : i < g.n
    · rw [decide_eq_true h, if_pos h]; rfl
    · rw [decide_eq_false h, if_neg h, if_pos (by omega)]; rfl
  · have hk : k ≤ g.m := hk
    have hxk := hx k (by omega)
    refine ⟨by omega, by omega, by omega, by omega, k + 1, (by omega : k + 1 ≤ g.m), ⟨rfl, rfl, fun i hi => ?_⟩, ?_⟩
    · by_cases h : i < g.n + 1 + k
      · rw [decide_eq_true h]; rfl
      · rw [decide_eq_false h]
        unfold SaG.oA
        rw [if_neg (by omega), if_neg (by omega), show i - (g.n + 1) = k by omega]
        rfl
    · show g.m - (k + 1) < g.m - k
      omega
  · have hk : k ≤ g.m := hk
    rw [show k = g.m by omega]
    exact ⟨rfl, fun _ _ => rfl⟩
/-! Text. -/
def txIA (p : Pth) : Inv := ⟨Nat, fun k => k ≤ p.n, fun k => ⟨[(5, .own 0 0), (6, .fn 10 1 (lst [.own 0 0])), (15, pthS p), (16, .int .i64 p.n), (17, .int .i64 k)], [saCell 0, strRow 0 (wl p k).length (wg p k)]⟩, fun k => p.n - k⟩
def spTextA : FSpec := mkSpec 5 (γ := Pth) (fun | [s] => some ⟨slLen s, pfD s⟩ | _ => none) (fun p => [pthS p]) (fun p => p.n ≤ 9223372036854775807) (fun p => .tup 2 (lst [.str (bif decide (p.chk = 0) then txt p else ⟨#[]⟩), .int .i64 p.chk]))
theorem oA_list (L : List ByteArray) (w : ByteArray) (m : Nat) (x : Nat → Int) (i : Nat) (hi : i < L.length + 1 + m) :
    SaG.oA ⟨L.length, fun i => L.getD i ⟨#[]⟩, w, m, x⟩ m i = (L ++ w :: (List.range m).map (fun j => itb (x j))).getD i ⟨#[]⟩ := by
  unfold SaG.oA
  by_cases h : i < L.length
  · rw [if_pos h]
    show L.getD i ⟨#[]⟩ = _
    rw [List.getD_eq_getElem?_getD, List.getD_eq_getElem?_getD, List.getElem?_append_left h]
  · rw [if_neg h, List.getD_eq_getElem?_getD, List.getElem?_append_right (by omega)]
    by_cases h1 : i < L.length + 1
    · rw [if_pos h1, show i - L.length = 0 by omega]; rfl
    · rw [if_neg h1, show i - L.length = (i - (L.length + 1)) + 1 by omega, List.getElem?_cons_succ, List.getElem?_map, List.getElem?_range (by omega)]
      rfl
theorem wl_step {p : Pth} {k : Nat} {w : ByteArray} {m : Nat} {x : Nat → Int} (h : segW (p.f k) = w :: (List.range m).map (fun j => itb (x j))) :
    (wl p k).length + 1 + m = (wl p (k + 1)).length ∧ ∀ i, i < (wl p (k + 1)).length → SaG.oA ⟨(wl p k).length, wg p k, w, m, x⟩ m i = wg p (k + 1) i := by
  have e : wl p (k + 1) = wl p k ++ w :: (List.range m).map (fun j => itb (x j)) := by show wl p k ++ segW (p.f k) = _; rw [h]
  have hl : (wl p (k + 1)).length = (wl p k).length + 1 + m := by rw [e]; simp; omega
  refine ⟨hl.symm, fun i hi => ?_⟩
  show SaG.oA ⟨(wl p k).length, fun i => (wl p k).getD i ⟨#[]⟩, w, m, x⟩ m i = (wl p (k + 1)).getD i ⟨#[]⟩
  rw [e]
  exact oA_list _ _ _ _ _ (by omega)
theorem ok_textA : SpecG Gw Tryd.prog spTextA := by
  refine spec_soundG (sure_ok Kw) (specs := [spCheckPa, givA [1] spSayA, giv spJoinS]) (all_g (⟨ok_checkPa.g, givA_g ok_sayA, giv_g ok_joinS.g, trivial⟩)) (eqs := []) (fun _ _ h => (List.not_mem_nil h).elim) Aff.mixed Tryd.func5 rfl (by kernel_rfl) (.inr (by kernel_rfl)) (fun _ _ => by kernel_rfl) (fun g => (⟨[(7, .inv (txIA g))], [(6, [.ownC 0 0 9 1])]⟩ : Ann)) (fun g => Nat.le_of_ble_eq_true (by kernel_rfl)) ?_
  rintro p hp
  refine vc_of (B := let z19 := (5 : Nat);let z18 := (1 : Int);let z15 := (0 : Nat);let z14 := (1 : Nat);let z13 := (2 : Nat);let z12 := (True ∧ True);let z9 := (z15 = z15);let z6 := (Sx.Ask ((10 : Go.FuncId) = (10 : Go.FuncId)) ∧ True ∧ Sx.Ask z9);let z4 := (IntKind.i64 = IntKind.i64); let z7 := (Sx.Ask z4 ∧ Sx.Ask ((↑p.n : Int) = (↑p.n : Int)));let z0 := (Sx.Ask (p.n = p.n) ∧ ∀ (i : Nat), i < p.n → (((((True ∧ Sx.Ask z4 ∧ Sx.Ask ((p.f i).k = (p.f i).k)) ∧ Sx.Ask z4 ∧ Sx.Ask ((p.f i).x = (p.f i).x)) ∧ Sx.Ask z4 ∧ Sx.Ask ((p.f i).y = (p.f i).y)) ∧ Sx.Ask z4 ∧ Sx.Ask ((p.f i).u = (p.f i).u)) ∧ Sx.Ask z4 ∧ Sx.Ask ((p.f i).v = (p.f i).v)) ∧ Sx.Ask z4 ∧ Sx.Ask ((p.f i).w = (p.f i).w));True ∧ True ∧ True ∧ ((z0 ∧ True) ∧ Sx.Ask (p.n ≤ (9223372036854775807 : Nat))) ∧ True ∧ True ∧ True ∧ Sx.Br (decide (p.chk ≠ (0 : Int))) (True ∧ True ∧ True ∧ True ∧ (True ∧ Sx.Ask (ByteArray.mk #[] = bif decide (p.chk = (0 : Int)) then Txp.txt p else ByteArray.mk #[])) ∧ Sx.Ask z4 ∧ Sx.Ask (p.chk = p.chk)) (True ∧ True ∧ True ∧ True ∧ True ∧ True ∧ (∃ (g : Nat), Sx.Ask ((txIA p).pre g) ∧ (Sx.Ask z9 ∧ (Sx.Ask ((10 : Nat) = (10 : Go.FuncId)) ∧ True ∧ Sx.Ask z9) ∧ z0 ∧ z7 ∧ (Sx.Ask z4 ∧ Sx.Ask ((0 : Int) = (↑g : Int))) ∧ True) ∧ z12 ∧ (Sx.Ask (z15 = (Txp.wl p g).length) ∧ ∀ (i : Nat), i < (Txp.wl p g).length → True ∧ False) ∧ True) ∧ ∀ (g : Nat), let z16 := (↑g : Int); let z11 := (Txp.wl p g); let z5 := ((-9223372036854775808 : Int) ≤ z16 + z18 ∧ z16 + z18 ≤ (9223372036854775807 : Int)); let z3 := (fun (i : Nat) => match Sx.lst [Sx.SV.str (Txp.wg p g i)] z15 with | Sx.SV.str s => s | x => ByteArray.mk #[]); let z17 := (Pte.JsG.mk z11.length z3 (ByteArray.mk #[(32 : UInt8)])); let z2 := (p.f z16.toNat); let z10 := (Sx.Ask (z13 = z13) ∧ ∀ (i : Nat), i < z13 → True ∧ Sx.Ask z4 ∧ Sx.Ask ((bif decide (i = z14) then z2.y else z2.x) = bif decide (i = z14) then z2.y else z2.x)); let z8 := ((∀ (j : Nat), j < z13 → ((-1000000 : Int) ≤ bif decide (j = z14) then z2.y else z2.x) ∧ (bif decide (j = z14) then z2.y else z2.x) ≤ (1000000 : Int)) ∧ z11.length ≤ (100000 : Nat) ∧ z13 ≤ (10 : Nat)); let z1 := (Sx.Ask (z11.length = z11.length) ∧ ∀ (i : Nat), i < z11.length → True ∧ Sx.Ask (Txp.wg p g i = match Sx.lst [Sx.SV.str (Txp.wg p g i)] z15 with | Sx.SV.str s => s | x => ByteArray.mk #[])); (txIA p).pre g → True ∧ Sx.Br (decide (z16 < (↑p.n : Int))) (Sx.Ask ((0 : Int) ≤ z16 ∧ z16 < (↑p.n : Int)) ∧ True ∧ True ∧ True ∧ True ∧ True ∧ True ∧ True ∧ Sx.Br (decide (z2.k = z18)) (True ∧ True ∧ True ∧ True ∧ True ∧ True ∧ ((True ∧ (Sx.Ask (ByteArray.mk #[(109 : UInt8)] = ByteArray.mk #[(109 : UInt8)]) ∧ z10 ∧ Sx.Ask z9 ∧ True) ∧ z12 ∧ z1 ∧ True) ∧ Sx.Ask z8) ∧ Sx.Ask z5 ∧ True ∧ ∃ (g' : Nat), Sx.Ask ((txIA p).pre g') ∧ ((Sx.Ask z9 ∧ z6 ∧ z0 ∧ z7 ∧ (Sx.Ask z4 ∧ Sx.Ask (z16 + z18 = (↑g' : Int))) ∧ True) ∧ z12 ∧ (Sx.Ask (z11.length + z14 + z13 = (Txp.wl p g').length) ∧ ∀ (i : Nat), i < (Txp.wl p g').length → True ∧ Sx.Ask (SaG.oA (Pte.SaG.mk z11.length z3 (ByteArray.mk #[(109 : UInt8)]) z13 fun (i : Nat) => bif decide (i = z14) then z2.y else z2.x) z13 i = Txp.wg p g' i)) ∧ True) ∧ Sx.Ask ((txIA p).meas g' < (txIA p).meas g)) (True ∧ True ∧ Sx.Br (decide (z2.k = (2 : Int))) (True ∧ True ∧ True ∧ True ∧ True ∧ True ∧ ((True ∧ (Sx.Ask (ByteArray.mk #[(108 : UInt8)] = ByteArray.mk #[(108 : UInt8)]) ∧ z10 ∧ Sx.Ask z9 ∧ True) ∧ z12 ∧ z1 ∧ True) ∧ Sx.Ask z8) ∧ Sx.Ask z5 ∧ True ∧ ∃ (g' : Nat), Sx.Ask ((txIA p).pre g') ∧ ((Sx.Ask z9 ∧ z6 ∧ z0 ∧ z7 ∧ (Sx.Ask z4 ∧ Sx.Ask (z16 + z18 = (↑g' : Int))) ∧ True) ∧ z12 ∧ (Sx.Ask (z11.length + z14 + z13 = (Txp.wl p g').length) ∧ ∀ (i : Nat), i < (Txp.wl p g').length → True ∧ Sx.Ask (SaG.oA (Pte.SaG.mk z11.length z3 (ByteArray.mk #[(108 : UInt8)]) z13 fun (i : Nat) => bif decide (i = z14) then z2.y else z2.x) z13 i = Txp.wg p g' i)) ∧ True) ∧ Sx.Ask ((txIA p).meas g' < (txIA p).meas g)) (True ∧ True ∧ Sx.Br (decide (z2.k = (3 : Int))) (True ∧ True ∧ True ∧ True ∧ True ∧ True ∧ True ∧ True ∧ True ∧ True ∧ True ∧ True ∧ ((True ∧ (Sx.Ask (ByteArray.mk #[(113 : UInt8)] = ByteArray.mk #[(113 : UInt8)]) ∧ (Sx.Ask (z19 = z19) ∧ ∀ (i : Nat), i < z19 → True ∧ Sx.Ask z4 ∧ Sx.Ask ((bif decide (i = (4 : Nat)) then z2.w else bif decide (i = (3 : Nat)) then z2.y else bif decide (i = z13) then z2.x else bif decide (i = z14) then z2.v else z2.u) = bif decide (i = (4 : Nat)) then z2.w else bif decide (i = (3 : Nat)) then z2.y else bif decide (i = z13) then z2.x else bif decide (i = z14) then z2.v else z2.u)) ∧ Sx.Ask z9 ∧ True) ∧ z12 ∧ z1 ∧ True) ∧ Sx.Ask ((∀ (j : Nat), j < z19 → ((-1000000 : Int) ≤ bif decide (j = (4 : Nat)) then z2.w else bif decide (j = (3 : Nat)) then z2.y else bif decide (j = z13) then z2.x else bif decide (j = z14) then z2.v else z2.u) ∧ (bif decide (j = (4 : Nat)) then z2.w else bif decide (j = (3 : Nat)) then z2.y else bif decide (j = z13) then z2.x else bif decide (j = z14) then z2.v else z2.u) ≤ (1000000 : Int)) ∧ z11.length ≤ (100000 : Nat) ∧ z19 ≤ (10 : Nat))) ∧ Sx.Ask z5 ∧ True ∧ ∃ (g' : Nat), Sx.Ask ((txIA p).pre g') ∧ ((Sx.Ask z9 ∧ z6 ∧ z0 ∧ z7 ∧ (Sx.Ask z4 ∧ Sx.Ask (z16 + z18 = (↑g' : Int))) ∧ True) ∧ z12 ∧ (Sx.Ask (z11.length + z14 + z19 = (Txp.wl p g').length) ∧ ∀ (i : Nat), i < (Txp.wl p g').length → True ∧ Sx.Ask (SaG.oA (Pte.SaG.mk z11.length z3 (ByteArray.mk #[(113 : UInt8)]) z19 fun (i : Nat) => bif decide (i = (4 : Nat)) then z2.w else bif decide (i = (3 : Nat)) then z2.y else bif decide (i = z13) then z2.x else bif decide (i = z14) then z2.v else z2.u) z19 i = Txp.wg p g' i)) ∧ True) ∧ Sx.Ask ((txIA p).meas g' < (txIA p).meas g)) (True ∧ True ∧ Sx.Br (decide (z2.k = (4 : Int))) (True ∧ ((True ∧ (Sx.Ask (ByteArray.mk #[(104 : UInt8)] = ByteArray.mk #[(104 : UInt8)]) ∧ Sx.Ask z9 ∧ Sx.Ask z9 ∧ True) ∧ z12 ∧ z1 ∧ True) ∧ Sx.Ask ((∀ (j : Nat), j < z15 → (-1000000 : Int) ≤ Sx.slCell z15 Sx.SV.cap0 j ∧ Sx.slCell z15 Sx.SV.cap0 j ≤ (1000000 : Int)) ∧ z11.length ≤ (100000 : Nat) ∧ z15 ≤ (10 : Nat))) ∧ Sx.Ask z5 ∧ True ∧ ∃ (g' : Nat), Sx.Ask ((txIA p).pre g') ∧ ((Sx.Ask z9 ∧ z6 ∧ z0 ∧ z7 ∧ (Sx.Ask z4 ∧ Sx.Ask (z16 + z18 = (↑g' : Int))) ∧ True) ∧ z12 ∧ (Sx.Ask (z11.length + z14 + z15 = (Txp.wl p g').length) ∧ ∀ (i : Nat), i < (Txp.wl p g').length → True ∧ Sx.Ask (SaG.oA (Pte.SaG.mk z11.length z3 (ByteArray.mk #[(104 : UInt8)]) z15 (Sx.slCell z15 Sx.SV.cap0)) z15 i = Txp.wg p g' i)) ∧ True) ∧ Sx.Ask ((txIA p).meas g' < (txIA p).meas g)) (Sx.Ask z5 ∧ True ∧ ∃ (g' : Nat), Sx.Ask ((txIA p).pre g') ∧ ((Sx.Ask z9 ∧ z6 ∧ z0 ∧ z7 ∧ (Sx.Ask z4 ∧ Sx.Ask (z16 + z18 = (↑g' : Int))) ∧ True) ∧ z12 ∧ (Sx.Ask (z11.length = (Txp.wl p g').length) ∧ ∀ (i : Nat), i < (Txp.wl p g').length → True ∧ Sx.Ask (Txp.wg p g i = Txp.wg p g' i)) ∧ True) ∧ Sx.Ask ((txIA p).meas g' < (txIA p).meas g)))))) (True ∧ ((z1 ∧ Sx.Ask (ByteArray.mk #[(32 : UInt8)] = ByteArray.mk #[(32 : UInt8)]) ∧ True) ∧ Sx.Ask (z11.length ≤ (140737488355328 : Nat) ∧ z17.j.length ≤ (140737488355328 : Nat))) ∧ True ∧ True ∧ True ∧ (True ∧ Sx.Ask (ByteArray.mk z17.j.toArray = bif decide (p.chk = (0 : Int)) then Txp.txt p else ByteArray.mk #[])) ∧ Sx.Ask z4 ∧ Sx.Ask ((0 : Int) = p.chk)))) (by kernel_rfl) ?_
  simp only [ask_iff, br_iff, eq_self, true_and, and_true, implies_true, forall_const, decide_eq_true_eq, decide_eq_false_iff_not, ne_eq, Nat.mul_one, Nat.add_zero, Nat.zero_add, Int.toNat_natCast]
  refine ⟨hp, fun h => by rw [decide_eq_false h]; rfl, fun h => ?_⟩
  have h : p.chk = 0 := Classical.not_not.1 h
  have hn := (chk_0.1 h).1
  refine ⟨⟨0, Nat.zero_le _, rfl, rfl, fun i hi => absurd hi (Nat.not_lt_zero _)⟩, fun k hk => ⟨fun hlt => ?_, fun hge => ?_⟩⟩
  · have hlt : k < p.n := by omega
    obtain ⟨bx, by', bu, bv, bw, _⟩ := seg_in h hlt
    unfold inC at bx by' bu bv
    have hL := wl_len p k
    have hpre : (txIA p).pre (k + 1) := (by show k + 1 ≤ p.n; omega)
    have hms : (txIA p).meas (k + 1) < (txIA p).meas k := (by show p.n - (k + 1) < p.n - k; omega)
    refine ⟨by omega, fun h1 => ⟨⟨fun i _ => rfl, fun j hj => ?_, by omega, by decide⟩, by omega, k + 1, hpre, ⟨rfl, ?_⟩, hms⟩, fun n1 => ⟨fun h2 => ⟨⟨fun i _ => rfl, fun j hj => ?_, by omega, by decide⟩, by omega, k + 1, hpre, ⟨rfl, ?_⟩, hms⟩, fun n2 => ⟨fun h3 => ⟨⟨fun i _ => rfl, fun j hj => ?_, by omega, by decide⟩, by omega, k + 1, hpre, ⟨rfl, ?_⟩, hms⟩, fun n3 => ⟨fun h4 => ⟨⟨fun i _ => rfl, fun j hj => absurd hj (Nat.not_lt_zero _), by omega, by decide⟩, by omega, k + 1, hpre, ⟨rfl, ?_⟩, hms⟩, fun n4 => ?_⟩⟩⟩⟩
    · cases decide (j = 1) <;> (show _ ≤ _ ∧ _ ≤ _) <;> simp only [cond_true, cond_false] <;> omega
    · exact wl_step (m := 2) (by unfold segW; rw [if_pos h1]; rfl)
    · cases decide (j = 1) <;> (show _ ≤ _ ∧ _ ≤ _) <;> simp only [cond_true, cond_false] <;> omega
    · exact wl_step (m := 2) (by unfold segW; rw [if_neg n1, if_pos h2]; rfl)
    · have := bw h3
      cases decide (j = 4) <;> cases decide (j = 3) <;> cases decide (j = 2) <;> cases decide (j = 1) <;> (show _ ≤ _ ∧ _ ≤ _) <;> simp only [cond_true, cond_false] <;> omega
    · exact wl_step (m := 5) (by unfold segW; rw [if_neg n1, if_neg n2, if_pos h3]; rfl)
    · exact wl_step (m := 0) (by unfold segW; rw [if_neg n1, if_neg n2, if_neg n3, if_pos h4]; rfl)
    · have := (seg_ok h hlt).1
      omega
  · have hk : k ≤ p.n := hk
    obtain rfl : k = p.n := by omega
    have hL := wl_len p p.n
    have e : (⟨(wl p p.n).length, wg p p.n, ⟨#[32]⟩⟩ : JsG).j = Lib.join ((wl p p.n).map (·.data.toList)) [32] := by
      show Lib.join (((List.range (wl p p.n).length).map (fun i => (wl p p.n).getD i ⟨#[]⟩)).map (·.data.toList)) [32] = _
      rw [range_getD]
    refine ⟨⟨fun i _ => rfl, by omega, ?_⟩, ?_, h.symm⟩
    · show (⟨(wl p p.n).length, wg p p.n, ⟨#[32]⟩⟩ : JsG).j.length ≤ _
      rw [e]
      have := txt_len h
      omega
    · rw [decide_eq_true h]
      show (⟨(⟨(wl p p.n).length, wg p p.n, ⟨#[32]⟩⟩ : JsG).j.toArray⟩ : ByteArray) = txt p
      rw [e]
      rfl
end Go.Proofs.YthappngbapbkfaaDoor.Txa
