/- printworkskeep1.TallyAddsUp, by the evaluation. -/
import Derived.Test.YtbmgclpgompjmaaTal
set_option linter.unusedSimpArgs false
set_option linter.unusedVariables false
namespace Go.Proofs.Ytbmgclpgompjmaa.Tam
open Go.RowKit Sx Num Aff Tal
set_option maxRecDepth 100000
/-! Sums of sums. -/
def tot (f : Nat → Int) : Nat → Int
  | 0 => 0
  | k + 1 => tot f k + f k
theorem tot_add (f h : Nat → Int) : ∀ m, tot (fun k => f k + h k) m = tot f m + tot h m
  | 0 => rfl
  | m + 1 => by
    show tot (fun k => f k + h k) m + (f m + h m) = tot f m + f m + (tot h m + h m)
    rw [tot_add f h m]
    omega
theorem tot_zero : ∀ m, tot (fun _ => 0) m = 0
  | 0 => rfl
  | m + 1 => by show tot (fun _ => 0) m + 0 = 0; rw [tot_zero m]; rfl
theorem tot_one (c : Int) (x : Nat → Int) : ∀ m : Nat, tot (fun k => if c = (k : Nat) then x k else 0) m = if 0 ≤ c ∧ c < m then x c.toNat else 0
  | 0 => by rw [if_neg (by omega)]; rfl
  | m + 1 => by
    show tot (fun k => if c = (k : Nat) then x k else 0) m + (if c = (m : Nat) then x m else 0) = _
    rw [tot_one c x m]
    by_cases h : c = (m : Nat)
    · subst h
      rw [if_neg (by omega), if_pos rfl, if_pos (by omega)]
      rw [Int.toNat_natCast, Int.zero_add]
    · rw [if_neg h, Int.add_zero]
      by_cases h2 : 0 ≤ c ∧ c < m
      · rw [if_pos h2, if_pos (by omega)]
      · rw [if_neg h2, if_neg (by omega)]
def Pl.psum (p : Pl) : Nat → Int
  | 0 => 0
  | i + 1 => Pl.psum p i + p.px i
theorem psum_sum (p : Pl) : p.sum = Pl.psum p p.n := by
  have : ∀ i, SuG.acc ⟨p, 1, .sum⟩ i 0 = Pl.psum p i := fun i => by
    induction i with
    | zero => rfl
    | succ i ih =>
      show SuG.acc ⟨p, 1, .sum⟩ i 0 + (if (0 : Int) = ((0 : Nat) : Int) then p.px i else 0) = Pl.psum p i + p.px i
      rw [ih, if_pos (show (0 : Int) = ((0 : Nat) : Int) from rfl)]
  exact this p.n
theorem psum_in {p : Pl} (hb : p.bytes) : ∀ i, i ≤ p.n → 0 ≤ Pl.psum p i ∧ Pl.psum p i ≤ 255 * i
  | 0, _ => by unfold Pl.psum; omega
  | i + 1, hi => by
    have h1 := psum_in hb i (by omega)
    have h2 := hb i (by omega)
    unfold Pl.psum
    omega
theorem tot_acc (g : SuG) (m : Nat) : ∀ i, (∀ j, j < i → 0 ≤ g.cls j ∧ g.cls j < m) → tot (fun k => g.acc i k) m = Pl.psum g.p i
  | 0, _ => tot_zero m
  | i + 1, h => by
    have e : (fun k => g.acc (i + 1) k) = fun k => g.acc i k + if g.cls i = (k : Nat) then g.p.px i else 0 := rfl
    rw [e, tot_add, tot_acc g m i (fun j hj => h j (by omega)), tot_one _ (fun _ => g.p.px i), if_pos (h i (by omega))]
    rfl
theorem tot_cnt {p : Pl} (hb : p.bytes) : ∀ i, i ≤ p.n → tot (fun k => p.cnt i k) 256 = i
  | 0, _ => tot_zero 256
  | i + 1, hi => by
    have h1 := hb i (by omega)
    have e : (fun k => p.cnt (i + 1) k) = fun k => p.cnt i k + if p.px i = (k : Nat) then 1 else 0 := rfl
    rw [e, tot_add, tot_cnt hb i (by omega), tot_one _ (fun _ => 1), if_pos (by omega)]
    rfl
theorem tot_wcnt {p : Pl} (hb : p.bytes) : ∀ i, i ≤ p.n → tot (fun k => k * p.cnt i k) 256 = Pl.psum p i
  | 0, _ => by
    have e : (fun k : Nat => (k : Int) * p.cnt 0 k) = fun _ => 0 := funext fun k => Int.mul_zero _
    rw [e]
    exact tot_zero 256
  | i + 1, hi => by
    have h1 := hb i (by omega)
    have e : (fun k : Nat => (k : Int) * p.cnt (i + 1) k) = fun k => k * p.cnt i k + if p.px i = (k : Nat) then (k : Int) else 0 := funext fun k => by
      show (k : Int) * (p.cnt i k + if p.px i = (k : Nat) then 1 else 0) = _
      split
      · rw [Int.mul_add, Int.mul_one]
      · rw [Int.add_zero, Int.add_zero]
    rw [e, tot_add, tot_wcnt hb i (by omega), tot_one _ (fun k => (k : Int)), if_pos (by omega), Int.toNat_of_nonneg h1.1]
    rfl
theorem tot_mono {f : Nat → Int} (h : ∀ k, 0 ≤ f k) {a b : Nat} (hab : a ≤ b) : tot f a ≤ tot f b := by
  induction hab with
  | refl => exact Int.le_refl _
  | step _ ih => exact Int.le_trans ih (by show _ ≤ tot f _ + f _; have := h ‹_›; omega)
theorem tot_nonneg {f : Nat → Int} (h : ∀ k, 0 ≤ f k) (m : Nat) : 0 ≤ tot f m := tot_mono h (Nat.zero_le m)
theorem cum0 (p : Pl) : ∀ v, p.cum 0 v = 0
  | 0 => rfl
  | v + 1 => by show p.cum 0 v + 0 = 0; rw [cum0 p v]; rfl
/-! The law. -/
structure TaG where
  p : Pl
  n : Int
  w : Int
  h : Int
  k : Int
def TaG.N (g : TaG) : Int := cutI g.n 1 64
def TaG.zo (g : TaG) : ZoG := ⟨g.p, g.N⟩
def TaG.ti (g : TaG) : TiG := ⟨g.p, cutI g.w 1 1024, cutI g.h 1 1024⟩
def TaG.M (g : TaG) : Int := g.ti.across * g.ti.down
def TaG.zf (g : TaG) (k : Nat) : Int := g.zo.s.acc g.p.n k
def TaG.tf (g : TaG) (k : Nat) : Int := g.ti.s.acc g.p.n k
def TaG.K (g : TaG) : Int := cutI g.k 0 (g.p.n - 1)
def TaG.q (g : TaG) : Nat := g.p.quant (g.K + 1)
def zS (g : TaG) : SV := .sl g.N.toNat 1 (fun k _ => .int .i64 (g.zf k))
def tS (g : TaG) : SV := .sl g.M.toNat 1 (fun k _ => .int .i64 (g.tf k))
def tmp0 (g : TaG) : List (Nat × SV) := [(5, .own 0 0), (13, .int .i64 g.p.sum), (14, .int .i64 0)]
def obj0 (g : TaG) : List SO := [.cells 3 (lst (plL g.p)) 41]
def ta1 (g : TaG) : Inv := ⟨Int, fun i => 0 ≤ i ∧ i ≤ g.N.toNat,
  fun i => ⟨[(4, .int .i64 g.k), (16, tS g), (18, cntS g.p), (20, .int .i64 (tot g.zf i.toNat)), (21, .int .i64 0), (22, .int .i64 0), (23, .int .i64 0), (103, zS g), (104, .int .i64 g.N.toNat), (105, .int .i64 i)] ++ tmp0 g, obj0 g⟩, fun i => (g.N.toNat - i).toNat⟩
def ta2 (g : TaG) : Inv := ⟨Int, fun i => 0 ≤ i ∧ i ≤ g.M.toNat,
  fun i => ⟨[(4, .int .i64 g.k), (18, cntS g.p), (20, .int .i64 g.p.sum), (21, .int .i64 (tot g.tf i.toNat)), (22, .int .i64 0), (23, .int .i64 0), (113, tS g), (114, .int .i64 g.M.toNat), (115, .int .i64 i)] ++ tmp0 g, obj0 g⟩, fun i => (g.M.toNat - i).toNat⟩
def ta3 (g : TaG) : Inv := ⟨Int, fun i => 0 ≤ i ∧ i ≤ 256,
  fun i => ⟨[(4, .int .i64 g.k), (20, .int .i64 g.p.sum), (21, .int .i64 g.p.sum), (22, .int .i64 (tot (fun k => k * g.p.cnt g.p.n k) i.toNat)), (23, .int .i64 (tot (fun k => g.p.cnt g.p.n k) i.toNat)), (123, cntS g.p), (124, .int .i64 256), (125, .int .i64 i)] ++ tmp0 g, obj0 g⟩, fun i => (256 - i).toNat⟩
def ta4 (g : TaG) : Inv := ⟨Int, fun i => 0 ≤ i ∧ i ≤ g.p.n,
  fun i => ⟨[(4, .int .i64 g.K), (20, .int .i64 g.p.sum), (21, .int .i64 g.p.sum), (22, .int .i64 g.p.sum), (23, .int .i64 g.p.n), (30, .int .u8 g.q), (31, .int .i64 (g.p.cum i.toNat g.q)), (32, .int .i64 (g.p.cum i.toNat (g.q + 1))), (153, .sl g.p.n 1 (fun i _ => .int .u8 (g.p.px i))), (154, .int .i64 g.p.n), (155, .int .i64 i)] ++ tmp0 g, obj0 g⟩, fun i => (g.p.n - i).toNat⟩
def spTa : FSpec := mkSpec 5 (γ := TaG) (fun | [.agg _ p, .int _ n, .int _ w, .int _ h, .int _ k] => some ⟨plD p, n, w, h, k⟩ | _ => none)
  (fun g => [plS g.p, .int .i64 g.n, .int .i64 g.w, .int .i64 g.h, .int .i64 g.k]) (fun g => g.p.bytes ∧ g.p.n ≤ 9223372036854775807) (fun _ => .bool true)
theorem cum_le {p : Pl} (hb : p.bytes) (v : Nat) : ∀ i, i ≤ p.n → 0 ≤ p.cum i v ∧ p.cum i v ≤ i
  | 0, _ => by rw [cum0]; omega
  | i + 1, hi => by
    have h1 := cum_le hb v i (by omega)
    rw [cum_succ (hb i (by omega)).1]
    split <;> omega
theorem wit {A B C D Q : Prop} (a : A) (b : B) (c : C) (d : D) (q : Q) : (A ∧ B ∧ C) ∧ D ∧ Q := ⟨⟨a, b, c⟩, d, q⟩
theorem ok_ta : SpecOK Try.prog spTa := by
  refine spec_sound (specs := [spCheckP, giv spSum, spCut, spZones, spTiles, spCount, spQuant]) (all_ok (⟨ok_checkP, giv_ok ok_sum, ok_cut, ok_zones, ok_tiles, ok_count, ok_quant, trivial⟩)) (eqs := []) (fun _ _ h => (List.not_mem_nil h).elim) Aff.mixed Try.func5 rfl (by kernel_rfl) (fun _ _ => by kernel_rfl) (fun g => (⟨[(15, .inv (ta1 g)), (20, .inv (ta2 g)), (25, .inv (ta3 g)), (34, .inv (ta4 g))], []⟩ : Ann)) (fun g => Nat.le_of_ble_eq_true (by kernel_rfl)) ?_
  rintro g ⟨hb, hlen⟩
  refine vc_of (B := True ∧ True ∧ True ∧ True ∧ (((((True ∧ Sx.Ask (IntKind.i64 = IntKind.i64) ∧ Sx.Ask ((2 : Int) = (2 : Int))) ∧ Sx.Ask (IntKind.i64 = IntKind.i64) ∧ Sx.Ask ((1 : Int) = (1 : Int))) ∧ Sx.Ask ((2 : Nat) = (2 : Nat)) ∧ ∀ (i : Nat), i < (2 : Nat) → True ∧ Sx.Ask (IntKind.u8 = IntKind.u8) ∧ Sx.Ask ((bif decide (i = (1 : Nat)) then (2 : Int) else (1 : Int)) = bif decide (i = (1 : Nat)) then (2 : Int) else (1 : Int))) ∧ True) ∧ Sx.Ask (Go.Proofs.Ytbmgclpgompjmaa.Tal.Pl.mk (2 : Int) (1 : Int) (2 : Nat) fun (i : Nat) => bif decide (i = (1 : Nat)) then (2 : Int) else (1 : Int)).bytes) ∧ True ∧ True ∧ True ∧ True ∧ True ∧ True ∧ True ∧ True ∧ True ∧ True ∧ True ∧ True ∧ (((Sx.Ask (IntKind.i64 = IntKind.i64) ∧ Sx.Ask (g.n = g.n)) ∧ (Sx.Ask (IntKind.i64 = IntKind.i64) ∧ Sx.Ask ((1 : Int) = (1 : Int))) ∧ (Sx.Ask (IntKind.i64 = IntKind.i64) ∧ Sx.Ask ((64 : Int) = (64 : Int))) ∧ True) ∧ Sx.Ask (((-2305843009213693952 : Int) ≤ (1 : Int) ∧ (1 : Int) ≤ (64 : Int)) ∧ (64 : Int) ≤ (4611686018427387903 : Int) ∧ (64 : Int) - (1 : Int) ≤ (4611686018427387903 : Int))) ∧ True ∧ (((Sx.Ask (IntKind.i64 = IntKind.i64) ∧ Sx.Ask (g.w = g.w)) ∧ (Sx.Ask (IntKind.i64 = IntKind.i64) ∧ Sx.Ask ((1 : Int) = (1 : Int))) ∧ (Sx.Ask (IntKind.i64 = IntKind.i64) ∧ Sx.Ask ((1024 : Int) = (1024 : Int))) ∧ True) ∧ Sx.Ask (((-2305843009213693952 : Int) ≤ (1 : Int) ∧ (1 : Int) ≤ (1024 : Int)) ∧ (1024 : Int) ≤ (4611686018427387903 : Int) ∧ (1024 : Int) - (1 : Int) ≤ (4611686018427387903 : Int))) ∧ True ∧ (((Sx.Ask (IntKind.i64 = IntKind.i64) ∧ Sx.Ask (g.h = g.h)) ∧ (Sx.Ask (IntKind.i64 = IntKind.i64) ∧ Sx.Ask ((1 : Int) = (1 : Int))) ∧ (Sx.Ask (IntKind.i64 = IntKind.i64) ∧ Sx.Ask ((1024 : Int) = (1024 : Int))) ∧ True) ∧ Sx.Ask (((-2305843009213693952 : Int) ≤ (1 : Int) ∧ (1 : Int) ≤ (1024 : Int)) ∧ (1024 : Int) ≤ (4611686018427387903 : Int) ∧ (1024 : Int) - (1 : Int) ≤ (4611686018427387903 : Int))) ∧ True ∧ True ∧ True ∧ True ∧ (((((True ∧ Sx.Ask (IntKind.i64 = IntKind.i64) ∧ Sx.Ask (g.p.w = g.p.w)) ∧ Sx.Ask (IntKind.i64 = IntKind.i64) ∧ Sx.Ask (g.p.h = g.p.h)) ∧ Sx.Ask (g.p.n = g.p.n) ∧ ∀ (i : Nat), i < g.p.n → True ∧ Sx.Ask (IntKind.u8 = IntKind.u8) ∧ Sx.Ask (g.p.px i = g.p.px i)) ∧ True) ∧ Sx.Ask g.p.bytes) ∧ True ∧ True ∧ True ∧ True ∧ True ∧ True ∧ True ∧ Sx.Br (decide (g.p.chk ≠ (0 : Int))) (True ∧ True ∧ (((((True ∧ Sx.Ask (IntKind.i64 = IntKind.i64) ∧ Sx.Ask (g.p.w = g.p.w)) ∧ Sx.Ask (IntKind.i64 = IntKind.i64) ∧ Sx.Ask (g.p.h = g.p.h)) ∧ Sx.Ask (g.p.n = g.p.n) ∧ ∀ (i : Nat), i < g.p.n → True ∧ Sx.Ask (IntKind.u8 = IntKind.u8) ∧ Sx.Ask (g.p.px i = g.p.px i)) ∧ True) ∧ Sx.Ask True) ∧ True ∧ True ∧ True ∧ Sx.Ask (decide (g.p.chk = g.p.chk) = true)) (True ∧ True ∧ (((((True ∧ Sx.Ask (IntKind.i64 = IntKind.i64) ∧ Sx.Ask (g.p.w = g.p.w)) ∧ Sx.Ask (IntKind.i64 = IntKind.i64) ∧ Sx.Ask (g.p.h = g.p.h)) ∧ Sx.Ask (g.p.n = g.p.n) ∧ ∀ (i : Nat), i < g.p.n → True ∧ Sx.Ask (IntKind.u8 = IntKind.u8) ∧ Sx.Ask (g.p.px i = g.p.px i)) ∧ (Sx.Ask (IntKind.i64 = IntKind.i64) ∧ Sx.Ask (cutI g.n (1 : Int) (64 : Int) = cutI g.n (1 : Int) (64 : Int))) ∧ True) ∧ Sx.Ask ((g.p.chk = (0 : Int) ∧ g.p.bytes) ∧ (1 : Int) ≤ cutI g.n (1 : Int) (64 : Int) ∧ cutI g.n (1 : Int) (64 : Int) ≤ (64 : Int))) ∧ True ∧ True ∧ True ∧ True ∧ True ∧ True ∧ True ∧ True ∧ (((((True ∧ Sx.Ask (IntKind.i64 = IntKind.i64) ∧ Sx.Ask (g.p.w = g.p.w)) ∧ Sx.Ask (IntKind.i64 = IntKind.i64) ∧ Sx.Ask (g.p.h = g.p.h)) ∧ Sx.Ask (g.p.n = g.p.n) ∧ ∀ (i : Nat), i < g.p.n → True ∧ Sx.Ask (IntKind.u8 = IntKind.u8) ∧ Sx.Ask (g.p.px i = g.p.px i)) ∧ (Sx.Ask (IntKind.i64 = IntKind.i64) ∧ Sx.Ask (cutI g.w (1 : Int) (1024 : Int) = cutI g.w (1 : Int) (1024 : Int))) ∧ (Sx.Ask (IntKind.i64 = IntKind.i64) ∧ Sx.Ask (cutI g.h (1 : Int) (1024 : Int) = cutI g.h (1 : Int) (1024 : Int))) ∧ True) ∧ Sx.Ask ((g.p.chk = (0 : Int) ∧ g.p.bytes) ∧ ((1 : Int) ≤ cutI g.w (1 : Int) (1024 : Int) ∧ cutI g.w (1 : Int) (1024 : Int) ≤ (1024 : Int)) ∧ (1 : Int) ≤ cutI g.h (1 : Int) (1024 : Int) ∧ cutI g.h (1 : Int) (1024 : Int) ≤ (1024 : Int))) ∧ True ∧ True ∧ True ∧ True ∧ True ∧ True ∧ (((((True ∧ Sx.Ask (IntKind.i64 = IntKind.i64) ∧ Sx.Ask (g.p.w = g.p.w)) ∧ Sx.Ask (IntKind.i64 = IntKind.i64) ∧ Sx.Ask (g.p.h = g.p.h)) ∧ Sx.Ask (g.p.n = g.p.n) ∧ ∀ (i : Nat), i < g.p.n → True ∧ Sx.Ask (IntKind.u8 = IntKind.u8) ∧ Sx.Ask (g.p.px i = g.p.px i)) ∧ True) ∧ Sx.Ask (g.p.chk = (0 : Int) ∧ g.p.bytes)) ∧ True ∧ True ∧ True ∧ True ∧ True ∧ True ∧ True ∧ True ∧ True ∧ True ∧ True ∧ True ∧ True ∧ True ∧ True ∧ True ∧ True ∧ True ∧ True ∧ True ∧ True ∧ True ∧ Sx.Br (decide ((↑(cutI g.n (1 : Int) (64 : Int)).toNat : Int) ≠ cutI g.n (1 : Int) (64 : Int))) (True ∧ True ∧ True ∧ Sx.Ask (false = true)) (True ∧ True ∧ True ∧ True ∧ True ∧ True ∧ True ∧ True ∧ True ∧ True ∧ True ∧ (∃ (g_1 : Int), Sx.Ask ((ta1 g).pre g_1) ∧ ((Sx.Ask (IntKind.i64 = IntKind.i64) ∧ Sx.Ask (g.k = g.k)) ∧ (Sx.Ask (((Go.Proofs.Ytbmgclpgompjmaa.Tal.TiG.mk g.p (cutI g.w (1 : Int) (1024 : Int)) (cutI g.h (1 : Int) (1024 : Int))).across * (Go.Proofs.Ytbmgclpgompjmaa.Tal.TiG.mk g.p (cutI g.w (1 : Int) (1024 : Int)) (cutI g.h (1 : Int) (1024 : Int))).down).toNat = g.M.toNat) ∧ ∀ (i : Nat), i < g.M.toNat → True ∧ Sx.Ask (IntKind.i64 = IntKind.i64) ∧ Sx.Ask ((Go.Proofs.Ytbmgclpgompjmaa.Tal.TiG.mk g.p (cutI g.w (1 : Int) (1024 : Int)) (cutI g.h (1 : Int) (1024 : Int))).s.acc g.p.n i = g.tf i)) ∧ (Sx.Ask ((256 : Nat) = (256 : Nat)) ∧ ∀ (i : Nat), i < (256 : Nat) → True ∧ Sx.Ask (IntKind.i64 = IntKind.i64) ∧ Sx.Ask (g.p.cnt g.p.n i = g.p.cnt g.p.n i)) ∧ (Sx.Ask (IntKind.i64 = IntKind.i64) ∧ Sx.Ask ((0 : Int) = tot g.zf g_1.toNat)) ∧ (Sx.Ask (IntKind.i64 = IntKind.i64) ∧ Sx.Ask ((0 : Int) = (0 : Int))) ∧ (Sx.Ask (IntKind.i64 = IntKind.i64) ∧ Sx.Ask ((0 : Int) = (0 : Int))) ∧ (Sx.Ask (IntKind.i64 = IntKind.i64) ∧ Sx.Ask ((0 : Int) = (0 : Int))) ∧ (Sx.Ask ((cutI g.n (1 : Int) (64 : Int)).toNat = g.N.toNat) ∧ ∀ (i : Nat), i < g.N.toNat → True ∧ Sx.Ask (IntKind.i64 = IntKind.i64) ∧ Sx.Ask ((Go.Proofs.Ytbmgclpgompjmaa.Tal.ZoG.mk g.p (cutI g.n (1 : Int) (64 : Int))).s.acc g.p.n i = g.zf i)) ∧ (Sx.Ask (IntKind.i64 = IntKind.i64) ∧ Sx.Ask ((↑(cutI g.n (1 : Int) (64 : Int)).toNat : Int) = (↑g.N.toNat : Int))) ∧ (Sx.Ask (IntKind.i64 = IntKind.i64) ∧ Sx.Ask ((0 : Int) = g_1)) ∧ Sx.Ask ((0 : Nat) = (0 : Nat)) ∧ (Sx.Ask (IntKind.i64 = IntKind.i64) ∧ Sx.Ask ((if g.p.chk = (0 : Int) then g.p.sum else (0 : Int)) = g.p.sum)) ∧ (Sx.Ask (IntKind.i64 = IntKind.i64) ∧ Sx.Ask ((0 : Int) = (0 : Int))) ∧ True) ∧ (((True ∧ Sx.Ask (IntKind.i64 = IntKind.i64) ∧ Sx.Ask (g.p.w = g.p.w)) ∧ Sx.Ask (IntKind.i64 = IntKind.i64) ∧ Sx.Ask (g.p.h = g.p.h)) ∧ Sx.Ask (g.p.n = g.p.n) ∧ ∀ (i : Nat), i < g.p.n → True ∧ Sx.Ask (IntKind.u8 = IntKind.u8) ∧ Sx.Ask (g.p.px i = g.p.px i)) ∧ True) ∧ ∀ (g_1 : Int), (ta1 g).pre g_1 → True ∧ Sx.Br (decide (g_1 < (↑g.N.toNat : Int))) (Sx.Ask ((0 : Int) ≤ g_1 ∧ g_1 < (↑g.N.toNat : Int)) ∧ True ∧ True ∧ True ∧ True ∧ Sx.Ask ((-9223372036854775808 : Int) ≤ tot g.zf g_1.toNat + g.zf g_1.toNat ∧ tot g.zf g_1.toNat + g.zf g_1.toNat ≤ (9223372036854775807 : Int)) ∧ True ∧ Sx.Ask ((-9223372036854775808 : Int) ≤ g_1 + (1 : Int) ∧ g_1 + (1 : Int) ≤ (9223372036854775807 : Int)) ∧ True ∧ ∃ (g' : Int), Sx.Ask ((ta1 g).pre g') ∧ (((Sx.Ask (IntKind.i64 = IntKind.i64) ∧ Sx.Ask (g.k = g.k)) ∧ (Sx.Ask (g.M.toNat = g.M.toNat) ∧ ∀ (i : Nat), i < g.M.toNat → True ∧ Sx.Ask (IntKind.i64 = IntKind.i64) ∧ Sx.Ask (g.tf i = g.tf i)) ∧ (Sx.Ask ((256 : Nat) = (256 : Nat)) ∧ ∀ (i : Nat), i < (256 : Nat) → True ∧ Sx.Ask (IntKind.i64 = IntKind.i64) ∧ Sx.Ask (g.p.cnt g.p.n i = g.p.cnt g.p.n i)) ∧ (Sx.Ask (IntKind.i64 = IntKind.i64) ∧ Sx.Ask (tot g.zf g_1.toNat + g.zf g_1.toNat = tot g.zf g'.toNat)) ∧ (Sx.Ask (IntKind.i64 = IntKind.i64) ∧ Sx.Ask ((0 : Int) = (0 : Int))) ∧ (Sx.Ask (IntKind.i64 = IntKind.i64) ∧ Sx.Ask ((0 : Int) = (0 : Int))) ∧ (Sx.Ask (IntKind.i64 = IntKind.i64) ∧ Sx.Ask ((0 : Int) = (0 : Int))) ∧ (Sx.Ask (g.N.toNat = g.N.toNat) ∧ ∀ (i : Nat), i < g.N.toNat → True ∧ Sx.Ask (IntKind.i64 = IntKind.i64) ∧ Sx.Ask (g.zf i = g.zf i)) ∧ (Sx.Ask (IntKind.i64 = IntKind.i64) ∧ Sx.Ask ((↑g.N.toNat : Int) = (↑g.N.toNat : Int))) ∧ (Sx.Ask (IntKind.i64 = IntKind.i64) ∧ Sx.Ask (g_1 + (1 : Int) = g')) ∧ Sx.Ask ((0 : Nat) = (0 : Nat)) ∧ (Sx.Ask (IntKind.i64 = IntKind.i64) ∧ Sx.Ask (g.p.sum = g.p.sum)) ∧ (Sx.Ask (IntKind.i64 = IntKind.i64) ∧ Sx.Ask ((0 : Int) = (0 : Int))) ∧ True) ∧ (((True ∧ Sx.Ask (IntKind.i64 = IntKind.i64) ∧ Sx.Ask (g.p.w = g.p.w)) ∧ Sx.Ask (IntKind.i64 = IntKind.i64) ∧ Sx.Ask (g.p.h = g.p.h)) ∧ Sx.Ask (g.p.n = g.p.n) ∧ ∀ (i : Nat), i < g.p.n → True ∧ Sx.Ask (IntKind.u8 = IntKind.u8) ∧ Sx.Ask (g.p.px i = g.p.px i)) ∧ True) ∧ Sx.Ask ((ta1 g).meas g' < (ta1 g).meas g_1)) (True ∧ True ∧ True ∧ (∃ (g_2 : Int), Sx.Ask ((ta2 g).pre g_2) ∧ ((Sx.Ask (IntKind.i64 = IntKind.i64) ∧ Sx.Ask (g.k = g.k)) ∧ (Sx.Ask ((256 : Nat) = (256 : Nat)) ∧ ∀ (i : Nat), i < (256 : Nat) → True ∧ Sx.Ask (IntKind.i64 = IntKind.i64) ∧ Sx.Ask (g.p.cnt g.p.n i = g.p.cnt g.p.n i)) ∧ (Sx.Ask (IntKind.i64 = IntKind.i64) ∧ Sx.Ask (tot g.zf g_1.toNat = g.p.sum)) ∧ (Sx.Ask (IntKind.i64 = IntKind.i64) ∧ Sx.Ask ((0 : Int) = tot g.tf g_2.toNat)) ∧ (Sx.Ask (IntKind.i64 = IntKind.i64) ∧ Sx.Ask ((0 : Int) = (0 : Int))) ∧ (Sx.Ask (IntKind.i64 = IntKind.i64) ∧ Sx.Ask ((0 : Int) = (0 : Int))) ∧ (Sx.Ask (g.M.toNat = g.M.toNat) ∧ ∀ (i : Nat), i < g.M.toNat → True ∧ Sx.Ask (IntKind.i64 = IntKind.i64) ∧ Sx.Ask (g.tf i = g.tf i)) ∧ (Sx.Ask (IntKind.i64 = IntKind.i64) ∧ Sx.Ask ((↑g.M.toNat : Int) = (↑g.M.toNat : Int))) ∧ (Sx.Ask (IntKind.i64 = IntKind.i64) ∧ Sx.Ask ((0 : Int) = g_2)) ∧ Sx.Ask ((0 : Nat) = (0 : Nat)) ∧ (Sx.Ask (IntKind.i64 = IntKind.i64) ∧ Sx.Ask (g.p.sum = g.p.sum)) ∧ (Sx.Ask (IntKind.i64 = IntKind.i64) ∧ Sx.Ask ((0 : Int) = (0 : Int))) ∧ True) ∧ (((True ∧ Sx.Ask (IntKind.i64 = IntKind.i64) ∧ Sx.Ask (g.p.w = g.p.w)) ∧ Sx.Ask (IntKind.i64 = IntKind.i64) ∧ Sx.Ask (g.p.h = g.p.h)) ∧ Sx.Ask (g.p.n = g.p.n) ∧ ∀ (i : Nat), i < g.p.n → True ∧ Sx.Ask (IntKind.u8 = IntKind.u8) ∧ Sx.Ask (g.p.px i = g.p.px i)) ∧ True) ∧ ∀ (g_2 : Int), (ta2 g).pre g_2 → True ∧ Sx.Br (decide (g_2 < (↑g.M.toNat : Int))) (Sx.Ask ((0 : Int) ≤ g_2 ∧ g_2 < (↑g.M.toNat : Int)) ∧ True ∧ True ∧ True ∧ True ∧ Sx.Ask ((-9223372036854775808 : Int) ≤ tot g.tf g_2.toNat + g.tf g_2.toNat ∧ tot g.tf g_2.toNat + g.tf g_2.toNat ≤ (9223372036854775807 : Int)) ∧ True ∧ Sx.Ask ((-9223372036854775808 : Int) ≤ g_2 + (1 : Int) ∧ g_2 + (1 : Int) ≤ (9223372036854775807 : Int)) ∧ True ∧ ∃ (g' : Int), Sx.Ask ((ta2 g).pre g') ∧ (((Sx.Ask (IntKind.i64 = IntKind.i64) ∧ Sx.Ask (g.k = g.k)) ∧ (Sx.Ask ((256 : Nat) = (256 : Nat)) ∧ ∀ (i : Nat), i < (256 : Nat) → True ∧ Sx.Ask (IntKind.i64 = IntKind.i64) ∧ Sx.Ask (g.p.cnt g.p.n i = g.p.cnt g.p.n i)) ∧ (Sx.Ask (IntKind.i64 = IntKind.i64) ∧ Sx.Ask (g.p.sum = g.p.sum)) ∧ (Sx.Ask (IntKind.i64 = IntKind.i64) ∧ Sx.Ask (tot g.tf g_2.toNat + g.tf g_2.toNat = tot g.tf g'.toNat)) ∧ (Sx.Ask (IntKind.i64 = IntKind.i64) ∧ Sx.Ask ((0 : Int) = (0 : Int))) ∧ (Sx.Ask (IntKind.i64 = IntKind.i64) ∧ Sx.Ask ((0 : Int) = (0 : Int))) ∧ (Sx.Ask (g.M.toNat = g.M.toNat) ∧ ∀ (i : Nat), i < g.M.toNat → True ∧ Sx.Ask (IntKind.i64 = IntKind.i64) ∧ Sx.Ask (g.tf i = g.tf i)) ∧ (Sx.Ask (IntKind.i64 = IntKind.i64) ∧ Sx.Ask ((↑g.M.toNat : Int) = (↑g.M.toNat : Int))) ∧ (Sx.Ask (IntKind.i64 = IntKind.i64) ∧ Sx.Ask (g_2 + (1 : Int) = g')) ∧ Sx.Ask ((0 : Nat) = (0 : Nat)) ∧ (Sx.Ask (IntKind.i64 = IntKind.i64) ∧ Sx.Ask (g.p.sum = g.p.sum)) ∧ (Sx.Ask (IntKind.i64 = IntKind.i64) ∧ Sx.Ask ((0 : Int) = (0 : Int))) ∧ True) ∧ (((True ∧ Sx.Ask (IntKind.i64 = IntKind.i64) ∧ Sx.Ask (g.p.w = g.p.w)) ∧ Sx.Ask (IntKind.i64 = IntKind.i64) ∧ Sx.Ask (g.p.h = g.p.h)) ∧ Sx.Ask (g.p.n = g.p.n) ∧ ∀ (i : Nat), i < g.p.n → True ∧ Sx.Ask (IntKind.u8 = IntKind.u8) ∧ Sx.Ask (g.p.px i = g.p.px i)) ∧ True) ∧ Sx.Ask ((ta2 g).meas g' < (ta2 g).meas g_2)) (True ∧ True ∧ True ∧ (∃ (g_3 : Int), Sx.Ask ((ta3 g).pre g_3) ∧ ((Sx.Ask (IntKind.i64 = IntKind.i64) ∧ Sx.Ask (g.k = g.k)) ∧ (Sx.Ask (IntKind.i64 = IntKind.i64) ∧ Sx.Ask (g.p.sum = g.p.sum)) ∧ (Sx.Ask (IntKind.i64 = IntKind.i64) ∧ Sx.Ask (tot g.tf g_2.toNat = g.p.sum)) ∧ (Sx.Ask (IntKind.i64 = IntKind.i64) ∧ Sx.Ask ((0 : Int) = tot (fun (k : Nat) => (↑k : Int) * g.p.cnt g.p.n k) g_3.toNat)) ∧ (Sx.Ask (IntKind.i64 = IntKind.i64) ∧ Sx.Ask ((0 : Int) = tot (g.p.cnt g.p.n) g_3.toNat)) ∧ (Sx.Ask ((256 : Nat) = (256 : Nat)) ∧ ∀ (i : Nat), i < (256 : Nat) → True ∧ Sx.Ask (IntKind.i64 = IntKind.i64) ∧ Sx.Ask (g.p.cnt g.p.n i = g.p.cnt g.p.n i)) ∧ (Sx.Ask (IntKind.i64 = IntKind.i64) ∧ Sx.Ask ((↑(256 : Nat) : Int) = (256 : Int))) ∧ (Sx.Ask (IntKind.i64 = IntKind.i64) ∧ Sx.Ask ((0 : Int) = g_3)) ∧ Sx.Ask ((0 : Nat) = (0 : Nat)) ∧ (Sx.Ask (IntKind.i64 = IntKind.i64) ∧ Sx.Ask (g.p.sum = g.p.sum)) ∧ (Sx.Ask (IntKind.i64 = IntKind.i64) ∧ Sx.Ask ((0 : Int) = (0 : Int))) ∧ True) ∧ (((True ∧ Sx.Ask (IntKind.i64 = IntKind.i64) ∧ Sx.Ask (g.p.w = g.p.w)) ∧ Sx.Ask (IntKind.i64 = IntKind.i64) ∧ Sx.Ask (g.p.h = g.p.h)) ∧ Sx.Ask (g.p.n = g.p.n) ∧ ∀ (i : Nat), i < g.p.n → True ∧ Sx.Ask (IntKind.u8 = IntKind.u8) ∧ Sx.Ask (g.p.px i = g.p.px i)) ∧ True) ∧ ∀ (g_3 : Int), (ta3 g).pre g_3 → True ∧ Sx.Br (decide (g_3 < (256 : Int))) (True ∧ Sx.Ask ((0 : Int) ≤ g_3 ∧ g_3 < (↑(256 : Nat) : Int)) ∧ True ∧ True ∧ True ∧ True ∧ True ∧ True ∧ Sx.Ask ((-9223372036854775808 : Int) ≤ g_3 * g.p.cnt g.p.n g_3.toNat ∧ g_3 * g.p.cnt g.p.n g_3.toNat ≤ (9223372036854775807 : Int)) ∧ Sx.Ask ((-9223372036854775808 : Int) ≤ tot (fun (k : Nat) => (↑k : Int) * g.p.cnt g.p.n k) g_3.toNat + g_3 * g.p.cnt g.p.n g_3.toNat ∧ tot (fun (k : Nat) => (↑k : Int) * g.p.cnt g.p.n k) g_3.toNat + g_3 * g.p.cnt g.p.n g_3.toNat ≤ (9223372036854775807 : Int)) ∧ True ∧ True ∧ True ∧ Sx.Ask ((-9223372036854775808 : Int) ≤ tot (g.p.cnt g.p.n) g_3.toNat + g.p.cnt g.p.n g_3.toNat ∧ tot (g.p.cnt g.p.n) g_3.toNat + g.p.cnt g.p.n g_3.toNat ≤ (9223372036854775807 : Int)) ∧ True ∧ Sx.Ask ((-9223372036854775808 : Int) ≤ g_3 + (1 : Int) ∧ g_3 + (1 : Int) ≤ (9223372036854775807 : Int)) ∧ True ∧ ∃ (g' : Int), Sx.Ask ((ta3 g).pre g') ∧ (((Sx.Ask (IntKind.i64 = IntKind.i64) ∧ Sx.Ask (g.k = g.k)) ∧ (Sx.Ask (IntKind.i64 = IntKind.i64) ∧ Sx.Ask (g.p.sum = g.p.sum)) ∧ (Sx.Ask (IntKind.i64 = IntKind.i64) ∧ Sx.Ask (g.p.sum = g.p.sum)) ∧ (Sx.Ask (IntKind.i64 = IntKind.i64) ∧ Sx.Ask (tot (fun (k : Nat) => (↑k : Int) * g.p.cnt g.p.n k) g_3.toNat + g_3 * g.p.cnt g.p.n g_3.toNat = tot (fun (k : Nat) => (↑k : Int) * g.p.cnt g.p.n k) g'.toNat)) ∧ (Sx.Ask (IntKind.i64 = IntKind.i64) ∧ Sx.Ask (tot (g.p.cnt g.p.n) g_3.toNat + g.p.cnt g.p.n g_3.toNat = tot (g.p.cnt g.p.n) g'.toNat)) ∧ (Sx.Ask ((256 : Nat) = (256 : Nat)) ∧ ∀ (i : Nat), i < (256 : Nat) → True ∧ Sx.Ask (IntKind.i64 = IntKind.i64) ∧ Sx.Ask (g.p.cnt g.p.n i = g.p.cnt g.p.n i)) ∧ (Sx.Ask (IntKind.i64 = IntKind.i64) ∧ Sx.Ask ((256 : Int) = (256 : Int))) ∧ (Sx.Ask (IntKind.i64 = IntKind.i64) ∧ Sx.Ask (g_3 + (1 : Int) = g')) ∧ Sx.Ask ((0 : Nat) = (0 : Nat)) ∧ (Sx.Ask (IntKind.i64 = IntKind.i64) ∧ Sx.Ask (g.p.sum = g.p.sum)) ∧ (Sx.Ask (IntKind.i64 = IntKind.i64) ∧ Sx.Ask ((0 : Int) = (0 : Int))) ∧ True) ∧ (((True ∧ Sx.Ask (IntKind.i64 = IntKind.i64) ∧ Sx.Ask (g.p.w = g.p.w)) ∧ Sx.Ask (IntKind.i64 = IntKind.i64) ∧ Sx.Ask (g.p.h = g.p.h)) ∧ Sx.Ask (g.p.n = g.p.n) ∧ ∀ (i : Nat), i < g.p.n → True ∧ Sx.Ask (IntKind.u8 = IntKind.u8) ∧ Sx.Ask (g.p.px i = g.p.px i)) ∧ True) ∧ Sx.Ask ((ta3 g).meas g' < (ta3 g).meas g_3)) (True ∧ True ∧ True ∧ True ∧ Sx.Ask ((-9223372036854775808 : Int) ≤ (↑g.p.n : Int) - (1 : Int) ∧ (↑g.p.n : Int) - (1 : Int) ≤ (9223372036854775807 : Int)) ∧ (((Sx.Ask (IntKind.i64 = IntKind.i64) ∧ Sx.Ask (g.k = g.k)) ∧ (Sx.Ask (IntKind.i64 = IntKind.i64) ∧ Sx.Ask ((0 : Int) = (0 : Int))) ∧ (Sx.Ask (IntKind.i64 = IntKind.i64) ∧ Sx.Ask ((↑g.p.n : Int) - (1 : Int) = (↑g.p.n : Int) - (1 : Int))) ∧ True) ∧ Sx.Ask (((-2305843009213693952 : Int) ≤ (0 : Int) ∧ (0 : Int) ≤ (↑g.p.n : Int) - (1 : Int)) ∧ (↑g.p.n : Int) - (1 : Int) ≤ (4611686018427387903 : Int) ∧ (↑g.p.n : Int) - (1 : Int) - (0 : Int) ≤ (4611686018427387903 : Int))) ∧ True ∧ True ∧ True ∧ Sx.Ask ((-9223372036854775808 : Int) ≤ cutI g.k (0 : Int) ((↑g.p.n : Int) - (1 : Int)) + (1 : Int) ∧ cutI g.k (0 : Int) ((↑g.p.n : Int) - (1 : Int)) + (1 : Int) ≤ (9223372036854775807 : Int)) ∧ (((((True ∧ Sx.Ask (IntKind.i64 = IntKind.i64) ∧ Sx.Ask (g.p.w = g.p.w)) ∧ Sx.Ask (IntKind.i64 = IntKind.i64) ∧ Sx.Ask (g.p.h = g.p.h)) ∧ Sx.Ask (g.p.n = g.p.n) ∧ ∀ (i : Nat), i < g.p.n → True ∧ Sx.Ask (IntKind.u8 = IntKind.u8) ∧ Sx.Ask (g.p.px i = g.p.px i)) ∧ (Sx.Ask (IntKind.i64 = IntKind.i64) ∧ Sx.Ask (cutI g.k (0 : Int) ((↑g.p.n : Int) - (1 : Int)) + (1 : Int) = cutI g.k (0 : Int) ((↑g.p.n : Int) - (1 : Int)) + (1 : Int))) ∧ True) ∧ Sx.Ask (Go.Proofs.Ytbmgclpgompjmaa.Tal.QuG.mk g.p (cutI g.k (0 : Int) ((↑g.p.n : Int) - (1 : Int)) + (1 : Int))).ok) ∧ True ∧ True ∧ True ∧ True ∧ True ∧ True ∧ True ∧ True ∧ True ∧ True ∧ True ∧ (∃ (g_4 : Int), Sx.Ask ((ta4 g).pre g_4) ∧ ((Sx.Ask (IntKind.i64 = IntKind.i64) ∧ Sx.Ask (cutI g.k (0 : Int) ((↑g.p.n : Int) - (1 : Int)) = g.K)) ∧ (Sx.Ask (IntKind.i64 = IntKind.i64) ∧ Sx.Ask (g.p.sum = g.p.sum)) ∧ (Sx.Ask (IntKind.i64 = IntKind.i64) ∧ Sx.Ask (g.p.sum = g.p.sum)) ∧ (Sx.Ask (IntKind.i64 = IntKind.i64) ∧ Sx.Ask (tot (fun (k : Nat) => (↑k : Int) * g.p.cnt g.p.n k) g_3.toNat = g.p.sum)) ∧ (Sx.Ask (IntKind.i64 = IntKind.i64) ∧ Sx.Ask (tot (g.p.cnt g.p.n) g_3.toNat = (↑g.p.n : Int))) ∧ (Sx.Ask (IntKind.u8 = IntKind.u8) ∧ Sx.Ask ((↑(g.p.quant (cutI g.k (0 : Int) ((↑g.p.n : Int) - (1 : Int)) + (1 : Int))) : Int) = (↑g.q : Int))) ∧ (Sx.Ask (IntKind.i64 = IntKind.i64) ∧ Sx.Ask ((0 : Int) = g.p.cum g_4.toNat g.q)) ∧ (Sx.Ask (IntKind.i64 = IntKind.i64) ∧ Sx.Ask ((0 : Int) = g.p.cum g_4.toNat (g.q + (1 : Nat)))) ∧ (Sx.Ask (g.p.n = g.p.n) ∧ ∀ (i : Nat), i < g.p.n → True ∧ Sx.Ask (IntKind.u8 = IntKind.u8) ∧ Sx.Ask (g.p.px i = g.p.px i)) ∧ (Sx.Ask (IntKind.i64 = IntKind.i64) ∧ Sx.Ask ((↑g.p.n : Int) = (↑g.p.n : Int))) ∧ (Sx.Ask (IntKind.i64 = IntKind.i64) ∧ Sx.Ask ((0 : Int) = g_4)) ∧ Sx.Ask ((0 : Nat) = (0 : Nat)) ∧ (Sx.Ask (IntKind.i64 = IntKind.i64) ∧ Sx.Ask (g.p.sum = g.p.sum)) ∧ (Sx.Ask (IntKind.i64 = IntKind.i64) ∧ Sx.Ask ((0 : Int) = (0 : Int))) ∧ True) ∧ (((True ∧ Sx.Ask (IntKind.i64 = IntKind.i64) ∧ Sx.Ask (g.p.w = g.p.w)) ∧ Sx.Ask (IntKind.i64 = IntKind.i64) ∧ Sx.Ask (g.p.h = g.p.h)) ∧ Sx.Ask (g.p.n = g.p.n) ∧ ∀ (i : Nat), i < g.p.n → True ∧ Sx.Ask (IntKind.u8 = IntKind.u8) ∧ Sx.Ask (g.p.px i = g.p.px i)) ∧ True) ∧ ∀ (g_4 : Int), (ta4 g).pre g_4 → True ∧ Sx.Br (decide (g_4 < (↑g.p.n : Int))) (Sx.Ask ((0 : Int) ≤ g_4 ∧ g_4 < (↑g.p.n : Int)) ∧ True ∧ True ∧ True ∧ True ∧ True ∧ Sx.Br (decide (g.p.px g_4.toNat < (↑g.q : Int))) (True ∧ Sx.Ask ((-9223372036854775808 : Int) ≤ g.p.cum g_4.toNat g.q + (1 : Int) ∧ g.p.cum g_4.toNat g.q + (1 : Int) ≤ (9223372036854775807 : Int)) ∧ True ∧ True ∧ True ∧ True ∧ Sx.Br (decide (g.p.px g_4.toNat ≤ (↑g.q : Int))) (True ∧ Sx.Ask ((-9223372036854775808 : Int) ≤ g.p.cum g_4.toNat (g.q + (1 : Nat)) + (1 : Int) ∧ g.p.cum g_4.toNat (g.q + (1 : Nat)) + (1 : Int) ≤ (9223372036854775807 : Int)) ∧ True ∧ Sx.Ask ((-9223372036854775808 : Int) ≤ g_4 + (1 : Int) ∧ g_4 + (1 : Int) ≤ (9223372036854775807 : Int)) ∧ True ∧ ∃ (g' : Int), Sx.Ask ((ta4 g).pre g') ∧ (((Sx.Ask (IntKind.i64 = IntKind.i64) ∧ Sx.Ask (g.K = g.K)) ∧ (Sx.Ask (IntKind.i64 = IntKind.i64) ∧ Sx.Ask (g.p.sum = g.p.sum)) ∧ (Sx.Ask (IntKind.i64 = IntKind.i64) ∧ Sx.Ask (g.p.sum = g.p.sum)) ∧ (Sx.Ask (IntKind.i64 = IntKind.i64) ∧ Sx.Ask (g.p.sum = g.p.sum)) ∧ (Sx.Ask (IntKind.i64 = IntKind.i64) ∧ Sx.Ask ((↑g.p.n : Int) = (↑g.p.n : Int))) ∧ (Sx.Ask (IntKind.u8 = IntKind.u8) ∧ Sx.Ask ((↑g.q : Int) = (↑g.q : Int))) ∧ (Sx.Ask (IntKind.i64 = IntKind.i64) ∧ Sx.Ask (g.p.cum g_4.toNat g.q + (1 : Int) = g.p.cum g'.toNat g.q)) ∧ (Sx.Ask (IntKind.i64 = IntKind.i64) ∧ Sx.Ask (g.p.cum g_4.toNat (g.q + (1 : Nat)) + (1 : Int) = g.p.cum g'.toNat (g.q + (1 : Nat)))) ∧ (Sx.Ask (g.p.n = g.p.n) ∧ ∀ (i : Nat), i < g.p.n → True ∧ Sx.Ask (IntKind.u8 = IntKind.u8) ∧ Sx.Ask (g.p.px i = g.p.px i)) ∧ (Sx.Ask (IntKind.i64 = IntKind.i64) ∧ Sx.Ask ((↑g.p.n : Int) = (↑g.p.n : Int))) ∧ (Sx.Ask (IntKind.i64 = IntKind.i64) ∧ Sx.Ask (g_4 + (1 : Int) = g')) ∧ Sx.Ask ((0 : Nat) = (0 : Nat)) ∧ (Sx.Ask (IntKind.i64 = IntKind.i64) ∧ Sx.Ask (g.p.sum = g.p.sum)) ∧ (Sx.Ask (IntKind.i64 = IntKind.i64) ∧ Sx.Ask ((0 : Int) = (0 : Int))) ∧ True) ∧ (((True ∧ Sx.Ask (IntKind.i64 = IntKind.i64) ∧ Sx.Ask (g.p.w = g.p.w)) ∧ Sx.Ask (IntKind.i64 = IntKind.i64) ∧ Sx.Ask (g.p.h = g.p.h)) ∧ Sx.Ask (g.p.n = g.p.n) ∧ ∀ (i : Nat), i < g.p.n → True ∧ Sx.Ask (IntKind.u8 = IntKind.u8) ∧ Sx.Ask (g.p.px i = g.p.px i)) ∧ True) ∧ Sx.Ask ((ta4 g).meas g' < (ta4 g).meas g_4)) (Sx.Ask ((-9223372036854775808 : Int) ≤ g_4 + (1 : Int) ∧ g_4 + (1 : Int) ≤ (9223372036854775807 : Int)) ∧ True ∧ ∃ (g' : Int), Sx.Ask ((ta4 g).pre g') ∧ (((Sx.Ask (IntKind.i64 = IntKind.i64) ∧ Sx.Ask (g.K = g.K)) ∧ (Sx.Ask (IntKind.i64 = IntKind.i64) ∧ Sx.Ask (g.p.sum = g.p.sum)) ∧ (Sx.Ask (IntKind.i64 = IntKind.i64) ∧ Sx.Ask (g.p.sum = g.p.sum)) ∧ (Sx.Ask (IntKind.i64 = IntKind.i64) ∧ Sx.Ask (g.p.sum = g.p.sum)) ∧ (Sx.Ask (IntKind.i64 = IntKind.i64) ∧ Sx.Ask ((↑g.p.n : Int) = (↑g.p.n : Int))) ∧ (Sx.Ask (IntKind.u8 = IntKind.u8) ∧ Sx.Ask ((↑g.q : Int) = (↑g.q : Int))) ∧ (Sx.Ask (IntKind.i64 = IntKind.i64) ∧ Sx.Ask (g.p.cum g_4.toNat g.q + (1 : Int) = g.p.cum g'.toNat g.q)) ∧ (Sx.Ask (IntKind.i64 = IntKind.i64) ∧ Sx.Ask (g.p.cum g_4.toNat (g.q + (1 : Nat)) = g.p.cum g'.toNat (g.q + (1 : Nat)))) ∧ (Sx.Ask (g.p.n = g.p.n) ∧ ∀ (i : Nat), i < g.p.n → True ∧ Sx.Ask (IntKind.u8 = IntKind.u8) ∧ Sx.Ask (g.p.px i = g.p.px i)) ∧ (Sx.Ask (IntKind.i64 = IntKind.i64) ∧ Sx.Ask ((↑g.p.n : Int) = (↑g.p.n : Int))) ∧ (Sx.Ask (IntKind.i64 = IntKind.i64) ∧ Sx.Ask (g_4 + (1 : Int) = g')) ∧ Sx.Ask ((0 : Nat) = (0 : Nat)) ∧ (Sx.Ask (IntKind.i64 = IntKind.i64) ∧ Sx.Ask (g.p.sum = g.p.sum)) ∧ (Sx.Ask (IntKind.i64 = IntKind.i64) ∧ Sx.Ask ((0 : Int) = (0 : Int))) ∧ True) ∧ (((True ∧ Sx.Ask (IntKind.i64 = IntKind.i64) ∧ Sx.Ask (g.p.w = g.p.w)) ∧ Sx.Ask (IntKind.i64 = IntKind.i64) ∧ Sx.Ask (g.p.h = g.p.h)) ∧ Sx.Ask (g.p.n = g.p.n) ∧ ∀ (i : Nat), i < g.p.n → True ∧ Sx.Ask (IntKind.u8 = IntKind.u8) ∧ Sx.Ask (g.p.px i = g.p.px i)) ∧ True) ∧ Sx.Ask ((ta4 g).meas g' < (ta4 g).meas g_4))) (True ∧ True ∧ True ∧ Sx.Br (decide (g.p.px g_4.toNat ≤ (↑g.q : Int))) (True ∧ Sx.Ask ((-9223372036854775808 : Int) ≤ g.p.cum g_4.toNat (g.q + (1 : Nat)) + (1 : Int) ∧ g.p.cum g_4.toNat (g.q + (1 : Nat)) + (1 : Int) ≤ (9223372036854775807 : Int)) ∧ True ∧ Sx.Ask ((-9223372036854775808 : Int) ≤ g_4 + (1 : Int) ∧ g_4 + (1 : Int) ≤ (9223372036854775807 : Int)) ∧ True ∧ ∃ (g' : Int), Sx.Ask ((ta4 g).pre g') ∧ (((Sx.Ask (IntKind.i64 = IntKind.i64) ∧ Sx.Ask (g.K = g.K)) ∧ (Sx.Ask (IntKind.i64 = IntKind.i64) ∧ Sx.Ask (g.p.sum = g.p.sum)) ∧ (Sx.Ask (IntKind.i64 = IntKind.i64) ∧ Sx.Ask (g.p.sum = g.p.sum)) ∧ (Sx.Ask (IntKind.i64 = IntKind.i64) ∧ Sx.Ask (g.p.sum = g.p.sum)) ∧ (Sx.Ask (IntKind.i64 = IntKind.i64) ∧ Sx.Ask ((↑g.p.n : Int) = (↑g.p.n : Int))) ∧ (Sx.Ask (IntKind.u8 = IntKind.u8) ∧ Sx.Ask ((↑g.q : Int) = (↑g.q : Int))) ∧ (Sx.Ask (IntKind.i64 = IntKind.i64) ∧ Sx.Ask (g.p.cum g_4.toNat g.q = g.p.cum g'.toNat g.q)) ∧ (Sx.Ask (IntKind.i64 = IntKind.i64) ∧ Sx.Ask (g.p.cum g_4.toNat (g.q + (1 : Nat)) + (1 : Int) = g.p.cum g'.toNat (g.q + (1 : Nat)))) ∧ (Sx.Ask (g.p.n = g.p.n) ∧ ∀ (i : Nat), i < g.p.n → True ∧ Sx.Ask (IntKind.u8 = IntKind.u8) ∧ Sx.Ask (g.p.px i = g.p.px i)) ∧ (Sx.Ask (IntKind.i64 = IntKind.i64) ∧ Sx.Ask ((↑g.p.n : Int) = (↑g.p.n : Int))) ∧ (Sx.Ask (IntKind.i64 = IntKind.i64) ∧ Sx.Ask (g_4 + (1 : Int) = g')) ∧ Sx.Ask ((0 : Nat) = (0 : Nat)) ∧ (Sx.Ask (IntKind.i64 = IntKind.i64) ∧ Sx.Ask (g.p.sum = g.p.sum)) ∧ (Sx.Ask (IntKind.i64 = IntKind.i64) ∧ Sx.Ask ((0 : Int) = (0 : Int))) ∧ True) ∧ (((True ∧ Sx.Ask (IntKind.i64 = IntKind.i64) ∧ Sx.Ask (g.p.w = g.p.w)) ∧ Sx.Ask (IntKind.i64 = IntKind.i64) ∧ Sx.Ask (g.p.h = g.p.h)) ∧ Sx.Ask (g.p.n = g.p.n) ∧ ∀ (i : Nat), i < g.p.n → True ∧ Sx.Ask (IntKind.u8 = IntKind.u8) ∧ Sx.Ask (g.p.px i = g.p.px i)) ∧ True) ∧ Sx.Ask ((ta4 g).meas g' < (ta4 g).meas g_4)) (Sx.Ask ((-9223372036854775808 : Int) ≤ g_4 + (1 : Int) ∧ g_4 + (1 : Int) ≤ (9223372036854775807 : Int)) ∧ True ∧ ∃ (g' : Int), Sx.Ask ((ta4 g).pre g') ∧ (((Sx.Ask (IntKind.i64 = IntKind.i64) ∧ Sx.Ask (g.K = g.K)) ∧ (Sx.Ask (IntKind.i64 = IntKind.i64) ∧ Sx.Ask (g.p.sum = g.p.sum)) ∧ (Sx.Ask (IntKind.i64 = IntKind.i64) ∧ Sx.Ask (g.p.sum = g.p.sum)) ∧ (Sx.Ask (IntKind.i64 = IntKind.i64) ∧ Sx.Ask (g.p.sum = g.p.sum)) ∧ (Sx.Ask (IntKind.i64 = IntKind.i64) ∧ Sx.Ask ((↑g.p.n : Int) = (↑g.p.n : Int))) ∧ (Sx.Ask (IntKind.u8 = IntKind.u8) ∧ Sx.Ask ((↑g.q : Int) = (↑g.q : Int))) ∧ (Sx.Ask (IntKind.i64 = IntKind.i64) ∧ Sx.Ask (g.p.cum g_4.toNat g.q = g.p.cum g'.toNat g.q)) ∧ (Sx.Ask (IntKind.i64 = IntKind.i64) ∧ Sx.Ask (g.p.cum g_4.toNat (g.q + (1 : Nat)) = g.p.cum g'.toNat (g.q + (1 : Nat)))) ∧ (Sx.Ask (g.p.n = g.p.n) ∧ ∀ (i : Nat), i < g.p.n → True ∧ Sx.Ask (IntKind.u8 = IntKind.u8) ∧ Sx.Ask (g.p.px i = g.p.px i)) ∧ (Sx.Ask (IntKind.i64 = IntKind.i64) ∧ Sx.Ask ((↑g.p.n : Int) = (↑g.p.n : Int))) ∧ (Sx.Ask (IntKind.i64 = IntKind.i64) ∧ Sx.Ask (g_4 + (1 : Int) = g')) ∧ Sx.Ask ((0 : Nat) = (0 : Nat)) ∧ (Sx.Ask (IntKind.i64 = IntKind.i64) ∧ Sx.Ask (g.p.sum = g.p.sum)) ∧ (Sx.Ask (IntKind.i64 = IntKind.i64) ∧ Sx.Ask ((0 : Int) = (0 : Int))) ∧ True) ∧ (((True ∧ Sx.Ask (IntKind.i64 = IntKind.i64) ∧ Sx.Ask (g.p.w = g.p.w)) ∧ Sx.Ask (IntKind.i64 = IntKind.i64) ∧ Sx.Ask (g.p.h = g.p.h)) ∧ Sx.Ask (g.p.n = g.p.n) ∧ ∀ (i : Nat), i < g.p.n → True ∧ Sx.Ask (IntKind.u8 = IntKind.u8) ∧ Sx.Ask (g.p.px i = g.p.px i)) ∧ True) ∧ Sx.Ask ((ta4 g).meas g' < (ta4 g).meas g_4)))) (True ∧ True ∧ True ∧ True ∧ True ∧ True ∧ True ∧ True ∧ Sx.Br (decide (g.p.sum = g.p.sum)) (True ∧ True ∧ True ∧ True ∧ True ∧ Sx.Br (decide (g.p.sum = g.p.sum)) (True ∧ True ∧ True ∧ True ∧ True ∧ Sx.Br (decide (g.p.sum = g.p.sum)) (True ∧ True ∧ True ∧ True ∧ True ∧ True ∧ True ∧ Sx.Br (decide ((↑g.p.n : Int) = (↑g.p.n : Int))) (True ∧ True ∧ True ∧ True ∧ True ∧ Sx.Br (decide (g.p.cum g_4.toNat g.q ≤ g.K)) (True ∧ True ∧ True ∧ True ∧ True ∧ True ∧ Sx.Ask (decide (g.K < g.p.cum g_4.toNat (g.q + (1 : Nat))) = true)) (True ∧ True ∧ True ∧ Sx.Ask (false = true))) (True ∧ True ∧ True ∧ True ∧ True ∧ Sx.Ask (false = true))) (True ∧ True ∧ True ∧ True ∧ True ∧ True ∧ True ∧ Sx.Ask (false = true))) (True ∧ True ∧ True ∧ True ∧ True ∧ True ∧ True ∧ True ∧ True ∧ Sx.Ask (false = true))) (True ∧ True ∧ True ∧ True ∧ True ∧ True ∧ True ∧ True ∧ True ∧ True ∧ True ∧ Sx.Ask (false = true))))))))) (by kernel_rfl) ?_
  simp only [ask_iff, br_iff, eq_self, true_and, and_true, implies_true, forall_const, decide_eq_true_eq, decide_eq_false_iff_not, ne_eq, Nat.mul_one, Nat.add_zero, Nat.zero_add]
  refine ⟨fun i _ => ?_, by omega, by omega, by omega, hb, fun hc0 => ?_⟩
  · show 0 ≤ (bif decide (i = 1) then (2 : Int) else 1) ∧ (bif decide (i = 1) then (2 : Int) else 1) ≤ 255
    cases decide (i = 1) <;> decide
  have h0 : g.p.chk = 0 := Classical.not_not.1 hc0
  have hc := chk0 h0
  obtain ⟨⟨⟨w1, w2⟩, h1, h2⟩, hn, hm⟩ := hc
  have hn1 : 1 * 1 ≤ g.p.w * g.p.h := Int.mul_le_mul w1 h1 (by omega) (by omega)
  have cn : 1 ≤ cutI g.n 1 64 ∧ cutI g.n 1 64 ≤ 64 := cutI_range g.n 1 64 (by decide)
  have cw : 1 ≤ cutI g.w 1 1024 ∧ cutI g.w 1 1024 ≤ 1024 := cutI_range g.w 1 1024 (by decide)
  have ch : 1 ≤ cutI g.h 1 1024 ∧ cutI g.h 1 1024 ≤ 1024 := cutI_range g.h 1 1024 (by decide)
  have ck := cutI_range g.k 0 (g.p.n - 1) (by omega)
  obtain ⟨⟨a1, a2⟩, ⟨b1, b2⟩, hx⟩ := tiles_cls (g := g.ti) h0 cw ch
  have hNN : g.N ≤ 64 := cn.2
  have hM : 1 * 1 ≤ g.M := Int.mul_le_mul a1 b1 (by omega) (by omega)
  have hS := psum_in hb g.p.n (Nat.le_refl _)
  rw [← psum_sum] at hS
  have zt : tot g.zf g.N.toNat = g.p.sum := by
    rw [psum_sum]
    refine tot_acc g.zo.s g.N.toNat g.p.n fun j hj => ?_
    have rc := cell_rc h0 hj
    have := (zones_cls h0 cn (y := (j : Int) / g.p.w) rc.1.1 rc.1.2).2
    rw [Int.toNat_of_nonneg (show 0 ≤ g.N from Int.le_trans (by decide) cn.1)]
    exact this
  have tt : tot g.tf g.M.toNat = g.p.sum := by
    rw [psum_sum]
    refine tot_acc g.ti.s g.M.toNat g.p.n fun j hj => ?_
    have rc := cell_rc h0 hj
    have := (hx ((j : Int) % g.p.w) ((j : Int) / g.p.w) rc.1.1 rc.1.2 rc.2.1 rc.2.2).2
    rw [Int.toNat_of_nonneg (by omega)]
    exact this
  have wt : tot (fun k => k * g.p.cnt g.p.n k) 256 = g.p.sum := by rw [psum_sum]; exact tot_wcnt hb _ (Nat.le_refl _)
  have ct : tot (fun k => g.p.cnt g.p.n k) 256 = g.p.n := tot_cnt hb _ (Nat.le_refl _)
  have zf0 : ∀ k, 0 ≤ g.zf k := fun k => (acc_in (g := g.zo.s) hb k g.p.n (Nat.le_refl _)).1
  have tf0 : ∀ k, 0 ≤ g.tf k := fun k => (acc_in (g := g.ti.s) hb k g.p.n (Nat.le_refl _)).1
  have cf0 : ∀ k, 0 ≤ g.p.cnt g.p.n k := fun k => (cnt_in g.p k g.p.n).1
  have wf0 : ∀ k : Nat, 0 ≤ (k : Int) * g.p.cnt g.p.n k := fun k => Int.mul_nonneg (by omega) (cf0 k)
  have qs := quant_spec hb (k := g.K + 1) (by show 1 ≤ cutI g.k 0 (g.p.n - 1) + 1; omega) (by show cutI g.k 0 (g.p.n - 1) + 1 ≤ _; omega)
  have hq : g.p.quant (g.K + 1) = g.q := rfl
  rw [hq] at qs
  have hK : cutI g.k 0 (g.p.n - 1) = g.K := rfl
  rw [hK] at ck
  simp only [hK]
  have part : ∀ {f : Nat → Int} {m : Nat} {i : Int} {S : Int}, (∀ k, 0 ≤ f k) → tot f m = S → S ≤ 1000000000 → 0 ≤ i → i < m → -9223372036854775808 ≤ tot f i.toNat + f i.toNat ∧ tot f i.toNat + f i.toNat ≤ 9223372036854775807 := fun {f m i S} hf he hS hi hm => by
    have e1 := tot_mono hf (show i.toNat + 1 ≤ m by omega)
    have e2 := tot_nonneg hf (i.toNat + 1)
    have e3 : tot f (i.toNat + 1) = tot f i.toNat + f i.toNat := rfl
    omega
  have nx : ∀ {f : Nat → Int} {i : Int}, 0 ≤ i → tot f i.toNat + f i.toNat = tot f (i + 1).toNat := fun {f i} hi => by
    rw [show (i + 1).toNat = i.toNat + 1 by omega]
    rfl
  refine ⟨⟨⟨h0, hb⟩, cn⟩, ⟨⟨h0, hb⟩, cw, ch⟩, ⟨h0, hb⟩, fun h => absurd (Int.toNat_of_nonneg (by omega)) h, fun _ => ⟨⟨(0 : Int), ⟨Int.le_refl 0, Int.natCast_nonneg _⟩, ⟨rfl, fun _ _ => rfl⟩, rfl, ⟨rfl, fun _ _ => rfl⟩, rfl, rfl, if_pos h0⟩, fun i hi => ⟨fun hlt => ?_, fun hge => ⟨⟨(0 : Int), ⟨Int.le_refl 0, Int.natCast_nonneg _⟩, ?_, rfl, rfl⟩, fun j hj => ⟨fun hlt => ?_, fun hge => ⟨⟨(0 : Int), ⟨Int.le_refl 0, by decide⟩, ?_, rfl, rfl, rfl, rfl⟩, fun l hl => ⟨fun hlt => ?_, fun hge => ?_⟩⟩⟩⟩⟩⟩⟩
  · have hi' : 0 ≤ i ∧ i ≤ g.N.toNat := hi
    exact ⟨⟨hi'.1, hlt⟩, part zf0 zt (by omega) hi'.1 hlt, by omega, i + 1, ⟨show 0 ≤ i + 1 by omega, show i + 1 ≤ (g.N.toNat : Int) by omega⟩, ⟨nx hi'.1, rfl⟩, show (g.N.toNat - (i + 1)).toNat < (g.N.toNat - i).toNat by omega⟩
  · have hi' : 0 ≤ i ∧ i ≤ g.N.toNat := hi
    rw [show i.toNat = g.N.toNat by omega]
    exact zt
  · have hi' : 0 ≤ j ∧ j ≤ g.M.toNat := hj
    have hM2 : g.M ≤ 1024 * 1024 := Int.mul_le_mul a2 b2 (by omega) (by omega)
    exact ⟨⟨hi'.1, hlt⟩, part tf0 tt (by omega) hi'.1 hlt, by omega, j + 1, ⟨show 0 ≤ j + 1 by omega, show j + 1 ≤ (g.M.toNat : Int) by omega⟩, ⟨nx hi'.1, rfl⟩, show (g.M.toNat - (j + 1)).toNat < (g.M.toNat - j).toNat by omega⟩
  · have hi' : 0 ≤ j ∧ j ≤ g.M.toNat := hj
    rw [show j.toNat = g.M.toNat by omega]
    exact tt
  · have hi' : 0 ≤ l ∧ l ≤ 256 := hl
    have el : ((l.toNat : Nat) : Int) = l := Int.toNat_of_nonneg hi'.1
    have p1 := part (m := 256) (i := l) wf0 wt (by omega) hi'.1 hlt
    have p2 := part (m := 256) (i := l) cf0 ct (by omega) hi'.1 hlt
    have n1 := nx (f := fun k => k * g.p.cnt g.p.n k) hi'.1
    have n2 := nx (f := fun k => g.p.cnt g.p.n k) hi'.1
    have c1 := cnt_in g.p l.toNat g.p.n
    have m0 := wf0 l.toNat
    have m1 : (l.toNat : Int) * g.p.cnt g.p.n l.toNat ≤ 256 * 1048576 := Int.mul_le_mul (by omega) (by omega) c1.1 (by decide)
    rw [el] at m0 m1
    simp only [el] at p1 n1
    exact ⟨⟨hi'.1, by omega⟩, by omega, p1, p2, by omega, l + 1, ⟨show 0 ≤ l + 1 by omega, show l + 1 ≤ 256 by omega⟩, ⟨n1, n2, rfl⟩, show (256 - (l + 1)).toNat < (256 - l).toNat by omega⟩
  · have hi' : 0 ≤ l ∧ l ≤ 256 := hl
    rw [show l.toNat = 256 by omega]
    refine ⟨by omega, ⟨⟨by omega, by omega⟩, by omega, by omega⟩, by omega, ⟨⟨h0, hb⟩, show 1 ≤ g.K + 1 by omega, show g.K + 1 ≤ (g.p.n : Int) by omega⟩, ⟨(0 : Int), ⟨Int.le_refl 0, Int.natCast_nonneg _⟩, trivial, wt, ct, congrArg _ hq, (cum0 _ _).symm, (cum0 _ _).symm, rfl⟩, fun s hs => ?_⟩
    have hs' : 0 ≤ s ∧ s ≤ g.p.n := hs
    refine ⟨fun hlt => ?_, fun hge => ?_⟩
    · have hpx := hb s.toNat (by omega)
      have u1 := cum_le hb g.q s.toNat (by omega)
      have u2 := cum_le hb (g.q + 1) s.toNat (by omega)
      have es : (s + 1).toNat = s.toNat + 1 := by omega
      have v1 := cum_succ (i := s.toNat) hpx.1 g.q
      have v2 := cum_succ (i := s.toNat) hpx.1 (g.q + 1)
      rw [← es] at v1 v2
      have pr : (ta4 g).pre (s + 1) := ⟨show 0 ≤ s + 1 by omega, show s + 1 ≤ (g.p.n : Int) by omega⟩
      have ms : (ta4 g).meas (s + 1) < (ta4 g).meas s := show (g.p.n - (s + 1)).toNat < (g.p.n - s).toNat by omega
      refine ⟨⟨by omega, by omega⟩, fun d1 => ⟨by omega, fun d2 => ⟨by omega, by omega, s + 1, pr, ⟨?_, ?_, rfl⟩, ms⟩, fun d2 => ⟨by omega, s + 1, pr, ⟨?_, ?_, rfl⟩, ms⟩⟩, fun d1 => ⟨fun d2 => ⟨by omega, by omega, s + 1, pr, ⟨?_, ?_, rfl⟩, ms⟩, fun d2 => ⟨by omega, s + 1, pr, ⟨?_, ?_, rfl⟩, ms⟩⟩⟩
      · rw [v1, if_pos d1]
      · rw [v2, if_pos (by omega)]
      · omega
      · omega
      · rw [v1, if_neg d1, Int.add_zero]
      · rw [v2, if_pos (by omega)]
      · rw [v1, if_neg d1, Int.add_zero]
      · rw [v2, if_neg (by omega), Int.add_zero]
    · have es : s.toNat = g.p.n := by omega
      rw [es]
      exact ⟨⟨⟨⟨⟨fun _ => by omega, fun h => absurd (by omega) h⟩, fun h => absurd trivial h⟩, fun h => absurd trivial h⟩, fun h => absurd trivial h⟩, fun h => absurd trivial h⟩
end Go.Proofs.Ytbmgclpgompjmaa.Tam
