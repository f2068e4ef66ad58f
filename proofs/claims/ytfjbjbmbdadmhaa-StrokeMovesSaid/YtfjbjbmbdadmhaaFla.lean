/- Package fill: Check, first, edges, by the evaluation. -/
import Derived.Test.YtfjbjbmbdadmhaaRga
set_option linter.unusedSimpArgs false
set_option linter.unusedVariables false
namespace Go.Proofs.Ytfjbjbmbdadmhaa.Fla
open Go.RowKit Sx Num Aff Con
set_option maxRecDepth 100000
def small (M : Int) (p : Pt) : Prop := (-M ≤ p.x ∧ p.x ≤ M) ∧ -M ≤ p.y ∧ p.y ≤ M
structure Li where
  n : Nat
  f : Nat → Pt
  c : Bool
def liL (l : Li) : List SV := [.sl l.n 2 (fun i => lst (ptL (l.f i))), .bool l.c]
def pxD : SV → Nat → Pt
  | .sl _ _ f => fun i => ptD (f i)
  | _ => fun _ => ⟨0, 0⟩
def liD (g : Nat → SV) : Li := ⟨slLen (g 0), pxD (g 0), boolOf (g 1)⟩
def spWithFi : FSpec := mkSpec 89 (γ := Int) (fun | [.int _ x] => some x | _ => none) (fun x => [.int .i64 x]) (fun x => -32767 ≤ x ∧ x ≤ 32767) (fun _ => .lit true)
theorem ok_withFi : SpecOK Try.prog spWithFi := by
  refine spec_sound (specs := []) (all_ok trivial) (eqs := []) (fun _ _ h => (List.not_mem_nil h).elim) Aff.mixed Try.func89 rfl (by kernel_rfl) (fun _ _ => by kernel_rfl) (fun g => A0) (fun g => Nat.le_of_ble_eq_true (by kernel_rfl)) ?_
  rintro x hx
  refine vc_of (B := True ∧ True ∧ True ∧ True ∧ Sx.Br (decide ((-32767 : Int) ≤ x)) (True ∧ True ∧ True ∧ True ∧ True ∧ Sx.Ask (decide (x ≤ (32767 : Int)) = true)) (True ∧ True ∧ True ∧ Sx.Ask (false = true))) (by kernel_rfl) ?_
  simp only [ask_iff, br_iff, eq_self, true_and, and_true, implies_true, forall_const, decide_eq_true_eq, decide_eq_false_iff_not, ne_eq, Nat.mul_one, Nat.add_zero, Nat.zero_add]
  exact ⟨fun _ => hx.2, fun h => absurd hx.1 h⟩
/-- Lines. -/
structure Lns where
  n : Nat
  f : Nat → Li
def lnsS (g : Lns) : SV := .sl g.n 2 (fun i => lst (liL (g.f i)))
def lnsD : SV → Nat → Li
  | .sl _ _ f => fun i => liD (f i)
  | _ => fun _ => ⟨0, fun _ => ⟨0, 0⟩, false⟩
def Li.fin (l : Li) : Prop := l.n ≤ 1024 ∧ ∀ i, i < l.n → small 32767 (l.f i)
def Lns.fin (g : Lns) : Prop := g.n ≤ 1024 ∧ ∀ i, i < g.n → Li.fin (g.f i)
def ckOut (g : Lns) : Inv := ⟨Int, fun i => 0 ≤ i ∧ i ≤ g.n, fun i => ⟨[(7, lnsS g), (8, .int .i64 g.n), (9, .int .i64 i)], []⟩, fun i => (g.n - i).toNat⟩
def ckIn (g : Lns) (i : Int) : Inv := ⟨Int, fun j => 0 ≤ j ∧ j ≤ (g.f i.toNat).n, fun j => ⟨[(7, lnsS g), (8, .int .i64 g.n), (9, .int .i64 i), (14, .sl (g.f i.toNat).n 2 (fun j => lst (ptL ((g.f i.toNat).f j)))), (15, .int .i64 (g.f i.toNat).n), (16, .int .i64 j)], []⟩, fun j => ((g.f i.toNat).n - j).toNat⟩
def spChkFi : FSpec := mkSpec 74 (γ := Lns) (fun | [s] => some ⟨slLen s, lnsD s⟩ | _ => none) (fun g => [lnsS g]) Lns.fin (fun _ => .int .i64 0)
theorem ok_chkFi : SpecOK Try.prog spChkFi := by
  refine spec_sound (specs := [spWithFi]) (all_ok (⟨ok_withFi, trivial⟩)) (eqs := []) (fun _ _ h => (List.not_mem_nil h).elim) Aff.mixed Try.func74 rfl (by kernel_rfl) (fun _ _ => by kernel_rfl) (fun g => (⟨[(2, .nest (ckOut g) (fun i => [(5, .inv (ckIn g i))]))], []⟩ : Ann)) (fun g => Nat.le_of_ble_eq_true (by kernel_rfl)) ?_
  rintro l hl
  refine vc_of (B := let z1 := (IntKind.i64 = IntKind.i64); let z4 := (Sx.Ask z1 ∧ Sx.Ask ((↑l.n : Int) = (↑l.n : Int)));let z0 := (Sx.Ask (l.n = l.n) ∧ ∀ (i : Nat), i < l.n → (True ∧ Sx.Ask ((l.f i).n = (l.f i).n) ∧ ∀ (i_1 : Nat), let z7 := ((l.f i).f i_1); i_1 < (l.f i).n → (True ∧ Sx.Ask z1 ∧ Sx.Ask (z7.x = z7.x)) ∧ Sx.Ask z1 ∧ Sx.Ask (z7.y = z7.y)) ∧ Sx.Ask ((l.f i).c = (l.f i).c));True ∧ True ∧ True ∧ True ∧ (∃ (g : Int), Sx.Ask ((ckOut l).pre g) ∧ (z0 ∧ z4 ∧ (Sx.Ask z1 ∧ Sx.Ask ((0 : Int) = g)) ∧ True) ∧ True) ∧ ∀ (g : Int), let z2 := (l.f g.toNat); let z6 := (Sx.Ask z1 ∧ Sx.Ask ((↑z2.n : Int) = (↑z2.n : Int))); let z3 := (Sx.Ask (z2.n = z2.n) ∧ ∀ (i : Nat), i < z2.n → (True ∧ Sx.Ask z1 ∧ Sx.Ask ((z2.f i).x = (z2.f i).x)) ∧ Sx.Ask z1 ∧ Sx.Ask ((z2.f i).y = (z2.f i).y)); (ckOut l).pre g → True ∧ Sx.Br (decide (g < (↑l.n : Int))) (Sx.Ask ((0 : Int) ≤ g ∧ g < (↑l.n : Int)) ∧ True ∧ True ∧ True ∧ True ∧ True ∧ True ∧ True ∧ (∃ (g_1 : Int), Sx.Ask ((ckIn l g).pre g_1) ∧ (z0 ∧ z4 ∧ (Sx.Ask z1 ∧ Sx.Ask (g = g)) ∧ z3 ∧ z6 ∧ (Sx.Ask z1 ∧ Sx.Ask ((0 : Int) = g_1)) ∧ True) ∧ True) ∧ ∀ (g_1 : Int), let z5 := (z2.f g_1.toNat); (ckIn l g).pre g_1 → True ∧ Sx.Br (decide (g_1 < (↑z2.n : Int))) (Sx.Ask ((0 : Int) ≤ g_1 ∧ g_1 < (↑z2.n : Int)) ∧ True ∧ True ∧ True ∧ True ∧ True ∧ (((Sx.Ask z1 ∧ Sx.Ask (z5.x = z5.x)) ∧ True) ∧ Sx.Ask ((-32767 : Int) ≤ z5.x ∧ z5.x ≤ (32767 : Int))) ∧ True ∧ True ∧ True ∧ True ∧ (((Sx.Ask z1 ∧ Sx.Ask (z5.y = z5.y)) ∧ True) ∧ Sx.Ask ((-32767 : Int) ≤ z5.y ∧ z5.y ≤ (32767 : Int))) ∧ True ∧ True ∧ Sx.Ask ((-9223372036854775808 : Int) ≤ g_1 + (1 : Int) ∧ g_1 + (1 : Int) ≤ (9223372036854775807 : Int)) ∧ True ∧ ∃ (g' : Int), Sx.Ask ((ckIn l g).pre g') ∧ ((z0 ∧ z4 ∧ (Sx.Ask z1 ∧ Sx.Ask (g = g)) ∧ z3 ∧ z6 ∧ (Sx.Ask z1 ∧ Sx.Ask (g_1 + (1 : Int) = g')) ∧ True) ∧ True) ∧ Sx.Ask ((ckIn l g).meas g' < (ckIn l g).meas g_1)) (Sx.Ask ((-9223372036854775808 : Int) ≤ g + (1 : Int) ∧ g + (1 : Int) ≤ (9223372036854775807 : Int)) ∧ True ∧ ∃ (g' : Int), Sx.Ask ((ckOut l).pre g') ∧ ((z0 ∧ z4 ∧ (Sx.Ask z1 ∧ Sx.Ask (g + (1 : Int) = g')) ∧ True) ∧ True) ∧ Sx.Ask ((ckOut l).meas g' < (ckOut l).meas g))) (True ∧ True ∧ Sx.Ask z1 ∧ Sx.Ask ((0 : Int) = (0 : Int)))) (by kernel_rfl) ?_
  simp only [ask_iff, br_iff, eq_self, true_and, and_true, implies_true, forall_const, decide_eq_true_eq, decide_eq_false_iff_not, ne_eq, Nat.mul_one, Nat.add_zero, Nat.zero_add]
  have hl1 : (l.n : Int) ≤ 9223372036854775807 := by have := hl.1; omega
  refine ⟨⟨0, ⟨Int.le_refl _, Int.natCast_nonneg _⟩, rfl⟩, fun i hi h => ?_⟩
  have hi : 0 ≤ i ∧ i ≤ l.n := hi
  have hp := hl.2 i.toNat (by omega)
  have hn : ((l.f i.toNat).n : Int) ≤ 9223372036854775807 := by have := hp.1; omega
  refine ⟨⟨hi.1, h⟩, ⟨0, ⟨Int.le_refl _, Int.natCast_nonneg _⟩, rfl⟩, fun j hj => ?_⟩
  have hj : 0 ≤ j ∧ j ≤ (l.f i.toNat).n := hj
  refine ⟨fun hlt => ?_, fun hge => ⟨by omega, i + 1, ⟨by omega, by omega⟩, rfl, ?_⟩⟩
  · have hq := hp.2 j.toNat (by omega)
    refine ⟨⟨hj.1, hlt⟩, hq.1, hq.2, by omega, j + 1, ⟨by omega, by omega⟩, rfl, ?_⟩
    show (((l.f i.toNat).n : Int) - (j + 1)).toNat < (((l.f i.toNat).n : Int) - j).toNat
    omega
  · show ((l.n : Int) - (i + 1)).toNat < ((l.n : Int) - i).toNat
    omega
/-! Edges. -/
structure Ed where
  x : Int
  y : Int
  en : Int
  dx : Int
  dy : Int
  s : Int
def edL (e : Ed) : List SV := [.int .i64 e.x, .int .i64 e.y, .int .i64 e.en, .int .i64 e.dx, .int .i64 e.dy, .int .i64 e.s]
def edS (e : Ed) : SV := .agg 6 (lst (edL e))
def edD (g : Nat → SV) : Ed := ⟨intOf (g 0), intOf (g 1), intOf (g 2), intOf (g 3), intOf (g 4), intOf (g 5)⟩
def eI (L : List Ed) (i : Nat) : Ed := L.getD i ⟨0, 0, 0, 0, 0, 0⟩
def Ed.ok (e : Ed) : Prop := ((-32767 ≤ e.x ∧ e.x ≤ 32767) ∧ (-32767 ≤ e.y ∧ e.y ≤ 32767) ∧ e.en ≤ 32767) ∧ (-65534 ≤ e.dx ∧ e.dx ≤ 65534) ∧ (1 ≤ e.dy ∧ e.en = e.y + e.dy) ∧ (e.s = 1 ∨ e.s = -1)
def edRow (ver n : Nat) (f : Nat → Ed) : SO := .row ver n 6 (fun i => lst (edL (f i))) 143
/-- The first cell of a row whose centre is not left of the edge. -/
def Ed.num (e : Ed) (y : Int) : Int := 2 * e.dy * e.x + e.dx * (2 * (y - e.y) + 1) - e.dy
def Ed.first (e : Ed) (y : Int) : Int := -(-(e.num y) / (2 * e.dy))
def spFirst : FSpec := mkSpec 127 (γ := Ed × Int) (fun | [.agg _ g, .int _ y] => some (edD g, y) | _ => none) (fun g => [edS g.1, .int .i64 g.2]) (fun g => g.1.ok ∧ -32767 ≤ g.2 ∧ g.2 ≤ 32767) (fun g => .int .i64 (g.1.first g.2))
theorem mul_in {a x A X : Int} (h1 : -A ≤ a ∧ a ≤ A) (h2 : -X ≤ x ∧ x ≤ X) : -(A * X) ≤ a * x ∧ a * x ≤ A * X := by
  have p1 := Int.mul_nonneg (show 0 ≤ A - a by omega) (show 0 ≤ X + x by omega)
  have p2 := Int.mul_nonneg (show 0 ≤ A + a by omega) (show 0 ≤ X - x by omega)
  have p3 := Int.mul_nonneg (show 0 ≤ A - a by omega) (show 0 ≤ X - x by omega)
  have p4 := Int.mul_nonneg (show 0 ≤ A + a by omega) (show 0 ≤ X + x by omega)
  simp only [Int.sub_mul, Int.mul_sub, Int.add_mul, Int.mul_add] at p1 p2 p3 p4
  omega
theorem Ed.num_in {e : Ed} {y : Int} (h : e.ok) (hy : -32767 ≤ y ∧ y ≤ 32767) : (-(131068 * 32767) ≤ 2 * e.dy * e.x ∧ 2 * e.dy * e.x ≤ 131068 * 32767) ∧ (-(65534 * 131071) ≤ e.dx * (2 * (y - e.y) + 1) ∧ e.dx * (2 * (y - e.y) + 1) ≤ 65534 * 131071) := by
  obtain ⟨⟨h1, h2, h3⟩, h4, ⟨h5, h6⟩, _⟩ := h
  exact ⟨mul_in (A := 131068) (X := 32767) ⟨by omega, by omega⟩ ⟨by omega, by omega⟩, mul_in (A := 65534) (X := 131071) h4 ⟨by omega, by omega⟩⟩
theorem ok_first : SpecOK Try.prog spFirst := by
  refine spec_sound (specs := [spQuo]) (all_ok (⟨ok_quo, trivial⟩)) (eqs := []) (fun _ _ h => (List.not_mem_nil h).elim) Aff.mixed Try.func127 rfl (by kernel_rfl) (fun _ _ => by kernel_rfl) (fun g => A0) (fun g => Nat.le_of_ble_eq_true (by kernel_rfl)) ?_
  rintro ⟨e, y⟩ ⟨h, hy⟩
  refine vc_of (B := let z6 := (IntKind.i64 = IntKind.i64);let z5 := (0 : Int);let z4 := (2 : Int);let z3 := (z4 * (y - e.y) + (1 : Int));let z2 := (-9223372036854775808 : Int);let z1 := (9223372036854775807 : Int);let z0 := (z4 * e.dy * e.x + e.dx * z3 - e.dy);True ∧ True ∧ True ∧ True ∧ Sx.Ask (z2 ≤ z4 * e.dy ∧ z4 * e.dy ≤ z1) ∧ True ∧ True ∧ Sx.Ask (z2 ≤ z4 * e.dy * e.x ∧ z4 * e.dy * e.x ≤ z1) ∧ True ∧ True ∧ True ∧ True ∧ True ∧ Sx.Ask (z2 ≤ y - e.y ∧ y - e.y ≤ z1) ∧ Sx.Ask (z2 ≤ z4 * (y - e.y) ∧ z4 * (y - e.y) ≤ z1) ∧ Sx.Ask (z2 ≤ z4 * (y - e.y) + (1 : Int) ∧ z4 * (y - e.y) + (1 : Int) ≤ z1) ∧ Sx.Ask (z2 ≤ e.dx * z3 ∧ e.dx * z3 ≤ z1) ∧ Sx.Ask (z2 ≤ z4 * e.dy * e.x + e.dx * z3 ∧ z4 * e.dy * e.x + e.dx * z3 ≤ z1) ∧ True ∧ True ∧ Sx.Ask (z2 ≤ z4 * e.dy * e.x + e.dx * z3 - e.dy ∧ z4 * e.dy * e.x + e.dx * z3 - e.dy ≤ z1) ∧ True ∧ True ∧ Sx.Ask (z2 ≤ z5 - z0 ∧ z5 - z0 ≤ z1) ∧ True ∧ True ∧ Sx.Ask (z2 ≤ z4 * e.dy ∧ z4 * e.dy ≤ z1) ∧ (((Sx.Ask z6 ∧ Sx.Ask (z5 - z0 = z5 - z0)) ∧ (Sx.Ask z6 ∧ Sx.Ask (z4 * e.dy = z4 * e.dy)) ∧ True) ∧ Sx.Ask (((-4611686018427387904 : Int) ≤ z5 - z0 ∧ z5 - z0 ≤ (4611686018427387904 : Int)) ∧ (1 : Int) ≤ z4 * e.dy ∧ z4 * e.dy ≤ z1)) ∧ Sx.Ask (z2 ≤ z5 - (z5 - z0) / (z4 * e.dy) ∧ z5 - (z5 - z0) / (z4 * e.dy) ≤ z1) ∧ True ∧ True ∧ Sx.Ask z6 ∧ Sx.Ask (z5 - (z5 - z0) / (z4 * e.dy) = e.first y)) (by kernel_rfl) ?_
  simp only [ask_iff, br_iff, eq_self, true_and, and_true, implies_true, forall_const, decide_eq_true_eq, decide_eq_false_iff_not, ne_eq, Nat.mul_one, Nat.add_zero, Nat.zero_add]
  have h : e.ok := h
  have hy : -32767 ≤ y ∧ y ≤ 32767 := hy
  have hb := Ed.num_in h hy
  obtain ⟨⟨h1, h2, h3⟩, h4, ⟨h5, h6⟩, _⟩ := h
  have e1 : e.first y = 0 - (0 - e.num y) / (2 * e.dy) := by unfold Ed.first; rw [Int.zero_sub, Int.zero_sub]
  have e2 : e.num y = 2 * e.dy * e.x + e.dx * (2 * (y - e.y) + 1) - e.dy := rfl
  rw [e1, e2]
  clear e1 e2
  generalize 2 * e.dy * e.x = p at *
  generalize e.dx * (2 * (y - e.y) + 1) = q at *
  have hq := quo_bounds (0 - (p + q - e.dy)) (2 * e.dy) (by omega)
  generalize (0 - (p + q - e.dy)) / (2 * e.dy) = r at *
  refine ⟨by omega, by omega, by omega, by omega, by omega, by omega, by omega, by omega, by omega, by omega, ⟨by omega, by omega⟩, by omega⟩
def mkE (a b : Pt) : List Ed := if a.y < b.y then [⟨a.x, a.y, b.y, b.x - a.x, b.y - a.y, 1⟩] else if b.y < a.y then [⟨b.x, b.y, a.y, a.x - b.x, a.y - b.y, -1⟩] else []
def Li.ed (l : Li) : Nat → List Ed
  | 0 => []
  | j + 1 => Li.ed l j ++ mkE (l.f j) (l.f ((j + 1) % l.n))
def Lns.ed (g : Lns) : Nat → List Ed
  | 0 => []
  | i + 1 => Lns.ed g i ++ (g.f i).ed (g.f i).n
def Lns.E (g : Lns) : List Ed := g.ed g.n
theorem eI_app (L : List Ed) (r : Ed) (i : Nat) (h : i < L.length + 1) : eI (L ++ [r]) i = if i < L.length then eI L i else r := by
  unfold eI
  by_cases hi : i < L.length
  · rw [if_pos hi, List.getD_eq_getElem?_getD, List.getElem?_append_left hi, List.getD_eq_getElem?_getD]
  · rw [if_neg hi, show i = L.length by omega]
    simp
theorem mkE_ok {a b : Pt} (ha : small 32767 a) (hb : small 32767 b) : ∀ e ∈ mkE a b, e.ok := by
  intro e he
  obtain ⟨⟨a1, a2⟩, a3, a4⟩ := ha
  obtain ⟨⟨b1, b2⟩, b3, b4⟩ := hb
  unfold mkE at he
  split at he
  · rw [List.mem_singleton.1 he]
    exact ⟨⟨⟨a1, a2⟩, ⟨a3, a4⟩, b4⟩, ⟨show -65534 ≤ b.x - a.x by omega, show b.x - a.x ≤ 65534 by omega⟩, ⟨show 1 ≤ b.y - a.y by omega, show b.y = a.y + (b.y - a.y) by omega⟩, .inl rfl⟩
  · split at he
    · rw [List.mem_singleton.1 he]
      exact ⟨⟨⟨b1, b2⟩, ⟨b3, b4⟩, a4⟩, ⟨show -65534 ≤ a.x - b.x by omega, show a.x - b.x ≤ 65534 by omega⟩, ⟨show 1 ≤ a.y - b.y by omega, show a.y = b.y + (a.y - b.y) by omega⟩, .inr rfl⟩
    · exact (List.not_mem_nil he).elim
theorem mkE_len (a b : Pt) : (mkE a b).length ≤ 1 := by
  unfold mkE
  split
  · simp
  · split <;> simp
theorem Li.ed_len (l : Li) : ∀ j, (l.ed j).length ≤ j
  | 0 => Nat.le_refl _
  | j + 1 => by
    have := Li.ed_len l j
    have := mkE_len (l.f j) (l.f ((j + 1) % l.n))
    simp only [Li.ed, List.length_append]
    omega
theorem Lns.ed_len {g : Lns} (h : g.fin) : ∀ i, i ≤ g.n → (g.ed i).length ≤ 1024 * i
  | 0, _ => Nat.le_refl _
  | i + 1, hi => by
    have := Lns.ed_len h i (by omega)
    have h1 := Li.ed_len (g.f i) (g.f i).n
    have h2 := (h.2 i (by omega)).1
    simp only [Lns.ed, List.length_append]
    omega
theorem Li.ed_ok {l : Li} (h : l.fin) : ∀ j, j ≤ l.n → ∀ e ∈ l.ed j, e.ok
  | 0, _ => fun _ he => (List.not_mem_nil he).elim
  | j + 1, hj => fun e he => by
    rcases List.mem_append.1 he with he | he
    · exact Li.ed_ok h j (by omega) e he
    · exact mkE_ok (h.2 j (by omega)) (h.2 _ (Nat.mod_lt _ (by omega))) e he
theorem Lns.ed_ok {g : Lns} (h : g.fin) : ∀ i, i ≤ g.n → ∀ e ∈ g.ed i, e.ok
  | 0, _ => fun _ he => (List.not_mem_nil he).elim
  | i + 1, hi => fun e he => by
    rcases List.mem_append.1 he with he | he
    · exact Lns.ed_ok h i (by omega) e he
    · exact Li.ed_ok (h.2 i (by omega)) _ (Nat.le_refl _) e he
def same (e f : Ed) : Prop := (((((e.x = f.x ∧ e.y = f.y) ∧ e.en = f.en) ∧ e.dx = f.dx) ∧ e.dy = f.dy) ∧ e.s = f.s)
theorem same_of {e f : Ed} (h : e = f) : (((((e.x = f.x ∧ e.y = f.y) ∧ e.en = f.en) ∧ e.dx = f.dx) ∧ e.dy = f.dy) ∧ e.s = f.s) := by
  rw [h]; exact ⟨⟨⟨⟨⟨rfl, rfl⟩, rfl⟩, rfl⟩, rfl⟩, rfl⟩
theorem app_of {L M : List Ed} {r : Ed} (hM : M = L ++ [r]) : ∀ (i : Nat), i < M.length → (((((bif decide (i < L.length) then (eI L i).x else r.x) = (eI M i).x ∧ (bif decide (i < L.length) then (eI L i).y else r.y) = (eI M i).y) ∧ (bif decide (i < L.length) then (eI L i).en else r.en) = (eI M i).en) ∧
    (bif decide (i < L.length) then (eI L i).dx else r.dx) = (eI M i).dx) ∧ (bif decide (i < L.length) then (eI L i).dy else r.dy) = (eI M i).dy) ∧ (bif decide (i < L.length) then (eI L i).s else r.s) = (eI M i).s := fun i hi => by
  subst hM
  rw [eI_app L r i (by simpa using hi)]
  by_cases h : i < L.length
  · rw [decide_eq_true h, if_pos h]; exact ⟨⟨⟨⟨⟨rfl, rfl⟩, rfl⟩, rfl⟩, rfl⟩, rfl⟩
  · rw [decide_eq_false h, if_neg h]; exact ⟨⟨⟨⟨⟨rfl, rfl⟩, rfl⟩, rfl⟩, rfl⟩, rfl⟩
def edOut (g : Lns) : Inv := ⟨Nat, fun i => i ≤ g.n, fun i => ⟨[(3, .osl 0 0), (10, lnsS g), (11, .int .i64 g.n), (12, .int .i64 i)], [edRow 0 (g.ed i).length (eI (g.ed i))]⟩, fun i => g.n - i⟩
def edIn (g : Lns) (i : Nat) : Inv := ⟨Nat, fun j => j ≤ (g.f i).n, fun j => ⟨[(3, .osl 0 0), (5, .own 1 0), (10, lnsS g), (11, .int .i64 g.n), (12, .int .i64 i), (17, .sl (g.f i).n 2 (fun j => lst (ptL ((g.f i).f j)))), (18, .int .i64 (g.f i).n), (19, .int .i64 j)],
  [edRow 0 (g.ed i ++ (g.f i).ed j).length (eI (g.ed i ++ (g.f i).ed j)), .cells 2 (lst (liL (g.f i))) 36]⟩, fun j => (g.f i).n - j⟩
def spEdges : FSpec := mkSpecN 80 (γ := Lns) (fun | [s] => some ⟨slLen s, lnsD s⟩ | _ => none) (fun g => [lnsS g]) Lns.fin (fun _ => .osl 0 0) (fun g => edRow 0 g.E.length (eI g.E))
theorem ok_edges : SpecOK Try.prog spEdges := by
  refine spec_soundN (specs := []) (all_ok trivial) (eqs := []) (fun _ _ h => (List.not_mem_nil h).elim) Aff.mixed Try.func80 rfl (by kernel_rfl) (fun _ _ => by kernel_rfl) (fun g => (⟨[(3, .nest (edOut g) (fun i => [(6, .inv (edIn g i))]))], [(2, [.own 3 143 6])]⟩ : Ann)) (fun _ => 0) (fun g => Nat.le_of_ble_eq_true (by kernel_rfl)) ?_
  rintro g hg
  refine vc_of (B := let z28 := (1 : Int);let z26 := ((0 : Nat) = (0 : Nat));let z18 := (9223372036854775807 : Int);let z16 := (-9223372036854775808 : Int);let z1 := (IntKind.i64 = IntKind.i64); let z10 := (Sx.Ask z1 ∧ Sx.Ask ((↑g.n : Int) = (↑g.n : Int))); let z2 := (Sx.Ask (g.n = g.n) ∧ ∀ (i : Nat), i < g.n → (True ∧ Sx.Ask ((g.f i).n = (g.f i).n) ∧ ∀ (i_1 : Nat), let z31 := ((g.f i).f i_1); i_1 < (g.f i).n → (True ∧ Sx.Ask z1 ∧ Sx.Ask (z31.x = z31.x)) ∧ Sx.Ask z1 ∧ Sx.Ask (z31.y = z31.y)) ∧ Sx.Ask ((g.f i).c = (g.f i).c));True ∧ True ∧ True ∧ True ∧ True ∧ (∃ (g_1 : Nat), Sx.Ask ((edOut g).pre g_1) ∧ (True ∧ z2 ∧ z10 ∧ (Sx.Ask z1 ∧ Sx.Ask ((0 : Int) = (↑g_1 : Int))) ∧ True) ∧ (Sx.Ask ((0 : Nat) = (g.ed g_1).length) ∧ ∀ (i : Nat), i < (g.ed g_1).length → (((((True ∧ False) ∧ False) ∧ False) ∧ False) ∧ False) ∧ False) ∧ True) ∧ ∀ (g_1 : Nat), let z23 := (g.ed g_1); let z22 := (edIn g g_1); let z11 := (↑g_1 : Int); let z24 := (g.f z11.toNat); let z21 := (Sx.Ask z1 ∧ Sx.Ask (z11 = z11)); let z5 := (g.f g_1); let z17 := (↑z5.n : Int); let z27 := (Sx.Ask z1 ∧ Sx.Ask (z17 = z17)); let z9 := (Sx.Ask (z5.n = z5.n) ∧ ∀ (i : Nat), i < z5.n → (True ∧ Sx.Ask z1 ∧ Sx.Ask ((z5.f i).x = (z5.f i).x)) ∧ Sx.Ask z1 ∧ Sx.Ask ((z5.f i).y = (z5.f i).y)); let z7 := ((True ∧ Sx.Ask (z5.n = z5.n) ∧ ∀ (i : Nat), i < z5.n → (True ∧ Sx.Ask z1 ∧ Sx.Ask ((z5.f i).x = (z5.f i).x)) ∧ Sx.Ask z1 ∧ Sx.Ask ((z5.f i).y = (z5.f i).y)) ∧ Sx.Ask (z5.c = z5.c)); (edOut g).pre g_1 → True ∧ Sx.Br (decide (z11 < (↑g.n : Int))) (Sx.Ask ((0 : Int) ≤ z11 ∧ z11 < (↑g.n : Int)) ∧ True ∧ True ∧ True ∧ True ∧ True ∧ True ∧ True ∧ (∃ (g_2 : Nat), let z12 := (g.ed g_1 ++ z5.ed g_2); Sx.Ask (z22.pre g_2) ∧ (True ∧ Sx.Ask z26 ∧ z2 ∧ z10 ∧ z21 ∧ (Sx.Ask (z24.n = z5.n) ∧ ∀ (i : Nat), i < z5.n → (True ∧ Sx.Ask z1 ∧ Sx.Ask ((z24.f i).x = (z5.f i).x)) ∧ Sx.Ask z1 ∧ Sx.Ask ((z24.f i).y = (z5.f i).y)) ∧ (Sx.Ask z1 ∧ Sx.Ask ((↑z24.n : Int) = z17)) ∧ (Sx.Ask z1 ∧ Sx.Ask ((0 : Int) = (↑g_2 : Int))) ∧ True) ∧ (Sx.Ask (z23.length = z12.length) ∧ ∀ (i : Nat), i < z12.length → (((((True ∧ Sx.Ask z1 ∧ Sx.Ask ((eI z23 i).x = (eI z12 i).x)) ∧ Sx.Ask z1 ∧ Sx.Ask ((eI z23 i).y = (eI z12 i).y)) ∧ Sx.Ask z1 ∧ Sx.Ask ((eI z23 i).en = (eI z12 i).en)) ∧ Sx.Ask z1 ∧ Sx.Ask ((eI z23 i).dx = (eI z12 i).dx)) ∧ Sx.Ask z1 ∧ Sx.Ask ((eI z23 i).dy = (eI z12 i).dy)) ∧ Sx.Ask z1 ∧ Sx.Ask ((eI z23 i).s = (eI z12 i).s)) ∧ ((True ∧ Sx.Ask (z24.n = z5.n) ∧ ∀ (i : Nat), i < z5.n → (True ∧ Sx.Ask z1 ∧ Sx.Ask ((z24.f i).x = (z5.f i).x)) ∧ Sx.Ask z1 ∧ Sx.Ask ((z24.f i).y = (z5.f i).y)) ∧ Sx.Ask (z24.c = z5.c)) ∧ True) ∧ ∀ (g_2 : Nat), let z20 := (↑g_2 : Int); let z8 := (z16 ≤ z20 + z28 ∧ z20 + z28 ≤ z18); let z6 := (z5.f z20.toNat); let z4 := (g.ed g_1 ++ z5.ed g_2); let z19 := (z4.length + (1 : Nat) ≤ (9223372036854775807 : Nat) ∧ (z4.length + (1 : Nat)) * (48 : Nat) ≤ (140737488355328 : Nat)); let z3 := (z5.f ((z20 + z28).tmod z17).toNat); let z0 := (Sx.Ask z8 ∧ True ∧ ∃ (g' : Nat), let z13 := (g.ed g_1 ++ z5.ed g'); Sx.Ask (z22.pre g') ∧ ((True ∧ Sx.Ask z26 ∧ z2 ∧ z10 ∧ z21 ∧ z9 ∧ z27 ∧ (Sx.Ask z1 ∧ Sx.Ask (z20 + z28 = (↑g' : Int))) ∧ True) ∧ (Sx.Ask (z4.length = z13.length) ∧ ∀ (i : Nat), i < z13.length → (((((True ∧ Sx.Ask z1 ∧ Sx.Ask ((eI z4 i).x = (eI z13 i).x)) ∧ Sx.Ask z1 ∧ Sx.Ask ((eI z4 i).y = (eI z13 i).y)) ∧ Sx.Ask z1 ∧ Sx.Ask ((eI z4 i).en = (eI z13 i).en)) ∧ Sx.Ask z1 ∧ Sx.Ask ((eI z4 i).dx = (eI z13 i).dx)) ∧ Sx.Ask z1 ∧ Sx.Ask ((eI z4 i).dy = (eI z13 i).dy)) ∧ Sx.Ask z1 ∧ Sx.Ask ((eI z4 i).s = (eI z13 i).s)) ∧ z7 ∧ True) ∧ Sx.Ask (z22.meas g' < z22.meas g_2)); z22.pre g_2 → True ∧ Sx.Br (decide (z20 < z17)) (True ∧ Sx.Ask ((0 : Int) ≤ z20 ∧ z20 < z17) ∧ True ∧ True ∧ True ∧ True ∧ True ∧ True ∧ True ∧ Sx.Ask z8 ∧ True ∧ True ∧ True ∧ Sx.Ask (z17 ≠ (0 : Int)) ∧ Sx.Ask ((0 : Int) ≤ (z20 + z28).tmod z17 ∧ (z20 + z28).tmod z17 < z17) ∧ True ∧ True ∧ True ∧ True ∧ True ∧ True ∧ True ∧ True ∧ True ∧ Sx.Br (decide (z3.y < z6.y)) (True ∧ True ∧ True ∧ True ∧ True ∧ True ∧ True ∧ True ∧ True ∧ True ∧ Sx.Br (decide (z3.y < z6.y)) (True ∧ True ∧ True ∧ True ∧ True ∧ True ∧ True ∧ True ∧ True ∧ True ∧ True ∧ Sx.Ask (z16 ≤ z6.x - z3.x ∧ z6.x - z3.x ≤ z18) ∧ True ∧ True ∧ True ∧ True ∧ Sx.Ask (z16 ≤ z6.y - z3.y ∧ z6.y - z3.y ≤ z18) ∧ True ∧ True ∧ True ∧ Sx.Ask z19 ∧ True ∧ Sx.Ask z8 ∧ True ∧ ∃ (g' : Nat), let z14 := (g.ed g_1 ++ z5.ed g'); Sx.Ask (z22.pre g') ∧ ((True ∧ Sx.Ask z26 ∧ z2 ∧ z10 ∧ z21 ∧ z9 ∧ z27 ∧ (Sx.Ask z1 ∧ Sx.Ask (z20 + z28 = (↑g' : Int))) ∧ True) ∧ (Sx.Ask (z4.length + (1 : Nat) = z14.length) ∧ ∀ (i : Nat), let z29 := (i < z4.length); i < z14.length → (((((True ∧ Sx.Ask z1 ∧ Sx.Ask ((bif decide z29 then (eI z4 i).x else z3.x) = (eI z14 i).x)) ∧ Sx.Ask z1 ∧ Sx.Ask ((bif decide z29 then (eI z4 i).y else z3.y) = (eI z14 i).y)) ∧ Sx.Ask z1 ∧ Sx.Ask ((bif decide z29 then (eI z4 i).en else z6.y) = (eI z14 i).en)) ∧ Sx.Ask z1 ∧ Sx.Ask ((bif decide z29 then (eI z4 i).dx else z6.x - z3.x) = (eI z14 i).dx)) ∧ Sx.Ask z1 ∧ Sx.Ask ((bif decide z29 then (eI z4 i).dy else z6.y - z3.y) = (eI z14 i).dy)) ∧ Sx.Ask z1 ∧ Sx.Ask ((bif decide z29 then (eI z4 i).s else (-1 : Int)) = (eI z14 i).s)) ∧ z7 ∧ True) ∧ Sx.Ask (z22.meas g' < z22.meas g_2)) z0) (True ∧ True ∧ True ∧ True ∧ True ∧ Sx.Br (decide (z6.y < z3.y)) (True ∧ True ∧ True ∧ True ∧ True ∧ True ∧ True ∧ True ∧ True ∧ True ∧ True ∧ Sx.Ask (z16 ≤ z3.x - z6.x ∧ z3.x - z6.x ≤ z18) ∧ True ∧ True ∧ True ∧ True ∧ Sx.Ask (z16 ≤ z3.y - z6.y ∧ z3.y - z6.y ≤ z18) ∧ True ∧ True ∧ True ∧ Sx.Ask z19 ∧ True ∧ Sx.Ask z8 ∧ True ∧ ∃ (g' : Nat), let z15 := (g.ed g_1 ++ z5.ed g'); Sx.Ask (z22.pre g') ∧ ((True ∧ Sx.Ask z26 ∧ z2 ∧ z10 ∧ z21 ∧ z9 ∧ z27 ∧ (Sx.Ask z1 ∧ Sx.Ask (z20 + z28 = (↑g' : Int))) ∧ True) ∧ (Sx.Ask (z4.length + (1 : Nat) = z15.length) ∧ ∀ (i : Nat), let z30 := (i < z4.length); i < z15.length → (((((True ∧ Sx.Ask z1 ∧ Sx.Ask ((bif decide z30 then (eI z4 i).x else z6.x) = (eI z15 i).x)) ∧ Sx.Ask z1 ∧ Sx.Ask ((bif decide z30 then (eI z4 i).y else z6.y) = (eI z15 i).y)) ∧ Sx.Ask z1 ∧ Sx.Ask ((bif decide z30 then (eI z4 i).en else z3.y) = (eI z15 i).en)) ∧ Sx.Ask z1 ∧ Sx.Ask ((bif decide z30 then (eI z4 i).dx else z3.x - z6.x) = (eI z15 i).dx)) ∧ Sx.Ask z1 ∧ Sx.Ask ((bif decide z30 then (eI z4 i).dy else z3.y - z6.y) = (eI z15 i).dy)) ∧ Sx.Ask z1 ∧ Sx.Ask ((bif decide z30 then (eI z4 i).s else z28) = (eI z15 i).s)) ∧ z7 ∧ True) ∧ Sx.Ask (z22.meas g' < z22.meas g_2)) z0)) (Sx.Ask (z16 ≤ z11 + z28 ∧ z11 + z28 ≤ z18) ∧ True ∧ ∃ (g' : Nat), Sx.Ask ((edOut g).pre g') ∧ ((True ∧ z2 ∧ z10 ∧ (Sx.Ask z1 ∧ Sx.Ask (z11 + z28 = (↑g' : Int))) ∧ True) ∧ (Sx.Ask (z4.length = (g.ed g').length) ∧ ∀ (i : Nat), let z25 := (eI (g.ed g') i); i < (g.ed g').length → (((((True ∧ Sx.Ask z1 ∧ Sx.Ask ((eI z4 i).x = z25.x)) ∧ Sx.Ask z1 ∧ Sx.Ask ((eI z4 i).y = z25.y)) ∧ Sx.Ask z1 ∧ Sx.Ask ((eI z4 i).en = z25.en)) ∧ Sx.Ask z1 ∧ Sx.Ask ((eI z4 i).dx = z25.dx)) ∧ Sx.Ask z1 ∧ Sx.Ask ((eI z4 i).dy = z25.dy)) ∧ Sx.Ask z1 ∧ Sx.Ask ((eI z4 i).s = z25.s)) ∧ True) ∧ Sx.Ask ((edOut g).meas g' < (edOut g).meas g_1))) (True ∧ True ∧ True ∧ (True ∧ True) ∧ (Sx.Ask (z23.length = g.E.length) ∧ ∀ (i : Nat), i < g.E.length → (((((True ∧ Sx.Ask z1 ∧ Sx.Ask ((eI z23 i).x = (eI g.E i).x)) ∧ Sx.Ask z1 ∧ Sx.Ask ((eI z23 i).y = (eI g.E i).y)) ∧ Sx.Ask z1 ∧ Sx.Ask ((eI z23 i).en = (eI g.E i).en)) ∧ Sx.Ask z1 ∧ Sx.Ask ((eI z23 i).dx = (eI g.E i).dx)) ∧ Sx.Ask z1 ∧ Sx.Ask ((eI z23 i).dy = (eI g.E i).dy)) ∧ Sx.Ask z1 ∧ Sx.Ask ((eI z23 i).s = (eI g.E i).s)) ∧ True)) (by kernel_rfl) ?_
  simp only [ask_iff, br_iff, eq_self, true_and, and_true, implies_true, forall_const, decide_eq_true_eq, decide_eq_false_iff_not, ne_eq, Nat.mul_one, Nat.add_zero, Nat.zero_add, Int.toNat_natCast, and_self, List.append_assoc, false_and, and_false]
  have hn : g.n ≤ 1024 := hg.1
  refine ⟨⟨0, ⟨Nat.zero_le _, ⟨rfl, rfl, fun i hi => absurd hi (Nat.not_lt_zero _)⟩⟩⟩, fun i hi => ?_⟩
  have hi : i ≤ g.n := hi
  refine ⟨fun h => ?_, fun h => ?_⟩
  · have hp := hg.2 i (by omega)
    have hn2 : (g.f i).n ≤ 1024 := hp.1
    have hl1 := Lns.ed_len hg i hi
    have e0 : g.ed i = g.ed i ++ (g.f i).ed 0 := (List.append_nil _).symm
    refine ⟨by omega, ⟨0, Nat.zero_le _, rfl, by rw [← e0], fun k hk => same_of (by rw [← e0])⟩, fun j hj => ?_⟩
    have hj : j ≤ (g.f i).n := hj
    have hl2 := Li.ed_len (g.f i) j
    refine ⟨fun hlt => ?_, fun hge => ?_⟩
    · have hjn : j < (g.f i).n := by omega
      have hm : (j + 1) % (g.f i).n < (g.f i).n := Nat.mod_lt _ (by omega)
      have ht : ((j : Int) + 1).tmod ((g.f i).n : Int) = (((j + 1) % (g.f i).n : Nat) : Int) := rfl
      have ha := hp.2 j hjn
      have hb := hp.2 _ hm
      have hlen : (g.ed i ++ (g.f i).ed j).length ≤ 1049600 := by
        rw [List.length_append]
        have := Nat.mul_le_mul_left 1024 hi
        omega
      have hnext : g.ed i ++ (g.f i).ed (j + 1) = (g.ed i ++ (g.f i).ed j) ++ mkE ((g.f i).f j) ((g.f i).f ((j + 1) % (g.f i).n)) := by
        show g.ed i ++ ((g.f i).ed j ++ _) = _
        rw [List.append_assoc]
      have hpre : (edIn g i).pre (j + 1) := by show j + 1 ≤ (g.f i).n; omega
      have hmeas : (edIn g i).meas (j + 1) < (edIn g i).meas j := by
        show (g.f i).n - (j + 1) < (g.f i).n - j
        omega
      have hm0 : (0 : Int) ≤ (((j + 1) % (g.f i).n : Nat) : Int) ∧ (((j + 1) % (g.f i).n : Nat) : Int) < ((g.f i).n : Int) := by omega
      rw [ht, Int.toNat_natCast]
      clear ht hm
      generalize g.ed i ++ (g.f i).ed j = L at *
      generalize hq : (j + 1) % (g.f i).n = q at *
      generalize (g.f i).f j = a at *
      generalize (g.f i).f q = b at *
      obtain ⟨⟨a1, a2⟩, a3, a4⟩ := ha
      obtain ⟨⟨b1, b2⟩, b3, b4⟩ := hb
      have up : (j : Int) + 1 = ((j + 1 : Nat) : Int) := rfl
      refine ⟨by omega, by omega, by omega, hm0, fun c1 => ⟨fun _ => ?_, fun c2 => absurd c1 c2⟩, fun c1 => ⟨fun c2 => ?_, fun c2 => ?_⟩⟩
      · have hM : g.ed i ++ (g.f i).ed (j + 1) = L ++ [⟨b.x, b.y, a.y, a.x - b.x, a.y - b.y, -1⟩] := by
          rw [hnext]; unfold mkE; rw [if_neg (by omega), if_pos c1]
        refine ⟨by omega, by omega, by omega, by omega, j + 1, hpre, ⟨up, by rw [hM]; simp, app_of hM⟩, hmeas⟩
      · have hM : g.ed i ++ (g.f i).ed (j + 1) = L ++ [⟨a.x, a.y, b.y, b.x - a.x, b.y - a.y, 1⟩] := by
          rw [hnext]; unfold mkE; rw [if_pos c2]
        refine ⟨by omega, by omega, by omega, by omega, j + 1, hpre, ⟨up, by rw [hM]; simp, app_of hM⟩, hmeas⟩
      · have hM : g.ed i ++ (g.f i).ed (j + 1) = L := by
          rw [hnext]; unfold mkE; rw [if_neg c2, if_neg c1]; exact List.append_nil _
        refine ⟨by omega, j + 1, hpre, ⟨up, by rw [hM], fun k hk => same_of (by rw [hM])⟩, hmeas⟩
    · obtain rfl : j = (g.f i).n := by omega
      refine ⟨by omega, i + 1, (show i + 1 ≤ g.n by omega), ⟨rfl, rfl, fun k hk => same_of rfl⟩, ?_⟩
      show g.n - (i + 1) < g.n - i
      omega
  · obtain rfl : i = g.n := by omega
    exact ⟨rfl, fun k hk => same_of rfl⟩
end Go.Proofs.Ytfjbjbmbdadmhaa.Fla
