/- Package dash: Dash, Length, by the evaluation. -/
import Derived.Test.YtbmgclpgompjmaaDsi
set_option linter.unusedSimpArgs false
set_option linter.unusedVariables false
namespace Go.Proofs.Ytbmgclpgompjmaa.Dsj
open Go.RowKit Sx Num Aff Con Dsh Dsi
set_option maxRecDepth 100000
def spLength : FSpec := mkSpec 31 (γ := Li) (fun | [.agg _ g] => some (liD g) | _ => none) (fun l => [liS l]) Li.ok (fun l => .tup 2 (lst [.int .i64 (Li.o l l.m), .int .i64 0]))
theorem li_fin {l : Li} (h : l.ok) : l.fin := ⟨by have := h.1; omega, fun i hi => small_up (h.2 i hi)⟩
theorem lns1 {l : Li} (h : l.ok) : Lns.fin ⟨1, fun _ => l⟩ := ⟨by show 1 ≤ _; omega, fun _ _ => li_fin h⟩
theorem ok_length : SpecOK Try.prog spLength := by
  refine spec_sound (specs := [giv spCheckFi, spSides]) (all_ok (⟨giv_ok ok_checkFi, ok_sides, trivial⟩)) (eqs := []) (fun _ _ h => (List.not_mem_nil h).elim) Aff.mixed Try.func31 rfl (by kernel_rfl) (fun _ _ => by kernel_rfl) (fun g => A0) (fun g => Nat.le_of_ble_eq_true (by kernel_rfl)) ?_
  rintro l hl
  refine vc_of (B := True ∧ True ∧ True ∧ True ∧ True ∧ (((Sx.Ask ((1 : Nat) = (1 : Nat)) ∧ ∀ (i : Nat), i < (1 : Nat) → (True ∧ Sx.Ask (l.n = l.n) ∧ ∀ (i : Nat), i < l.n → (True ∧ Sx.Ask (IntKind.i64 = IntKind.i64) ∧ Sx.Ask ((l.f i).x = (l.f i).x)) ∧ Sx.Ask (IntKind.i64 = IntKind.i64) ∧ Sx.Ask ((l.f i).y = (l.f i).y)) ∧ Sx.Ask (l.c = l.c)) ∧ True) ∧ Sx.Ask (Go.Proofs.Ytbmgclpgompjmaa.Dsi.Lns.mk (1 : Nat) fun (i : Nat) => l).fin) ∧ True ∧ True ∧ True ∧ True ∧ ((((True ∧ Sx.Ask (l.n = l.n) ∧ ∀ (i : Nat), i < l.n → (True ∧ Sx.Ask (IntKind.i64 = IntKind.i64) ∧ Sx.Ask ((l.f i).x = (l.f i).x)) ∧ Sx.Ask (IntKind.i64 = IntKind.i64) ∧ Sx.Ask ((l.f i).y = (l.f i).y)) ∧ Sx.Ask (l.c = l.c)) ∧ True) ∧ Sx.Ask l.ok) ∧ True ∧ True ∧ True ∧ True ∧ True ∧ True ∧ True ∧ True ∧ True ∧ (True ∧ Sx.Ask (IntKind.i64 = IntKind.i64) ∧ Sx.Ask (l.o l.m = l.o l.m)) ∧ Sx.Ask (IntKind.i64 = IntKind.i64) ∧ Sx.Ask ((0 : Int) = (0 : Int))) (by kernel_rfl) ?_
  simp only [ask_iff, br_iff, eq_self, true_and, and_true, implies_true, forall_const, decide_eq_true_eq, decide_eq_false_iff_not, ne_eq, Nat.mul_one, Nat.add_zero, Nat.zero_add]
  exact ⟨lns1 hl, hl⟩
/-! Dash. -/
structure DaG where
  l : Li
  n : Nat
  p : Nat → Int
  ph : Int
def inD : SV → Nat → Int
  | .sl _ _ f => fun i => intOf (f i 0)
  | _ => fun _ => 0
def patS (g : DaG) : SV := .sl g.n 1 (fun i => lst [.int .i64 (g.p i)])
def DaG.ok (g : DaG) : Prop := (g.l.ok ∧ 1 ≤ g.n ∧ g.n ≤ 16) ∧ (∀ i, i < g.n → 2 ≤ g.p i ∧ g.p i ≤ 1000) ∧ 0 ≤ g.ph ∧ g.ph ≤ 1048576
def DaG.sum (g : DaG) : Nat → Int
  | 0 => 0
  | i + 1 => g.sum i + g.p i
def DaG.turn (g : DaG) : Int := if g.n % 2 = 1 then g.sum g.n * 2 else g.sum g.n
def DaG.E (g : DaG) : Int := Li.o g.l g.l.m
/-- Where dash or gap i begins. -/
def DaG.at (g : DaG) : Nat → Int
  | 0 => -(g.ph % g.turn)
  | i + 1 => g.at i + g.p (i % g.n)
def DaG.a (g : DaG) (i : Nat) : Int := if 0 > g.at i then 0 else g.at i
def DaG.b (g : DaG) (i : Nat) : Int := if g.E < g.at (i + 1) then g.E else g.at (i + 1)
def DaG.T (g : DaG) (i : Nat) : List Pt := TkG.L ⟨g.l.m, g.l.sd, g.a i, g.b i⟩
def DaG.on (g : DaG) (i : Nat) : Prop := i % 2 = 0 ∧ g.a i < g.b i
instance (g : DaG) (i : Nat) : Decidable (g.on i) := inferInstanceAs (Decidable (_ ∧ _))
def DaG.out (g : DaG) : Nat → List (List Pt)
  | 0 => []
  | i + 1 => if g.on i then g.out i ++ [g.T i] else g.out i
def DaG.N (g : DaG) : Nat := (g.E + g.turn).toNat + 1
def dI (D : List (List Pt)) (j : Nat) : List Pt := D.getD j []
def dsS (D : List (List Pt)) : SV := .sl D.length 2 (fun j => lst [ptsS (dI D j), .lit false])
def daSum (g : DaG) : Inv := ⟨Nat, fun i => i ≤ g.n, fun i => ⟨[(1, patS g), (2, .int .i64 g.ph), (3, .own 0 0), (9, .int .i64 (g.sum i)), (35, patS g), (36, .int .i64 g.n), (37, .int .i64 i)], [.cells 2 (lst (liL g.l)) 62]⟩, fun i => g.n - i⟩
def daCut (g : DaG) : Inv := ⟨Unit, fun _ => True, fun _ => ⟨[(1, patS g), (2, .int .i64 g.ph), (3, .own 0 0), (9, .int .i64 g.turn)], [.cells 2 (lst (liL g.l)) 62]⟩, fun _ => 0⟩
def DaG.inv (g : DaG) (h : Nat × Nat) : Prop := h.2 ≤ g.l.m ∧ (∀ j, j < h.2 → (g.l.sd j).size = 0 ∨ (g.l.sd j).o + (g.l.sd j).size < g.a h.1) ∧ (0 < h.1 → g.at (h.1 - 1) < g.E)
def daInv (g : DaG) : Inv := ⟨Nat × Nat, g.inv, fun h => ⟨[(1, patS g), (13, .int .i64 g.E), (3, .own 0 0), (14, .own 1 0), (15, .osl 2 0), (16, .int .i64 (g.at h.1)), (17, .int .i64 h.1)],
    [.cells 2 (lst (liL g.l)) 62, .cells 1 (lst [sdsS (g.l.m - h.2) (fun j => g.l.sd (j + h.2))]) 124, .row 0 (g.out h.1).length 2 (fun j => lst [ptsS (dI (g.out h.1) j), .lit false]) 62]⟩, fun h => g.N - h.1⟩
theorem DaG.sum_ok {g : DaG} (h : g.ok) : ∀ i, i ≤ g.n → 2 * (i : Int) ≤ g.sum i ∧ g.sum i ≤ 1000 * (i : Int)
  | 0, _ => ⟨Int.le_refl _, Int.le_refl _⟩
  | i + 1, hi => by
    have ih := DaG.sum_ok h i (by omega)
    have := h.2.1 i (by omega)
    show _ ≤ g.sum i + g.p i ∧ g.sum i + g.p i ≤ _
    omega
theorem DaG.turn_ok {g : DaG} (h : g.ok) : 2 ≤ g.turn ∧ g.turn ≤ 32000 := by
  have h1 := g.sum_ok h g.n (Nat.le_refl _)
  have h2 := h.1.2
  unfold DaG.turn
  split <;> omega
theorem Li.m_le (l : Li) : l.m ≤ l.n := by unfold Li.m; split <;> (try split) <;> omega
theorem DaG.E_ok {g : DaG} (h : g.ok) : 0 ≤ g.E ∧ g.E ≤ 12726 := by
  have h1 := Li.o_ok h.1.1 g.l.m (Li.m_le _)
  have h2 := Li.m_le g.l
  have h3 := h.1.1.1
  unfold DaG.E
  omega
theorem DaG.at_up {g : DaG} (h : g.ok) (i : Nat) : g.at i + 2 ≤ g.at (i + 1) ∧ g.at (i + 1) ≤ g.at i + 1000 := by
  have := h.2.1 (i % g.n) (Nat.mod_lt _ h.1.2.1)
  show _ ≤ g.at i + g.p (i % g.n) ∧ g.at i + g.p (i % g.n) ≤ _
  omega
theorem DaG.at_0 {g : DaG} (h : g.ok) : -g.turn < g.at 0 ∧ g.at 0 ≤ 0 := by
  have h1 := g.turn_ok h
  have h2 := Int.emod_nonneg g.ph (show g.turn ≠ 0 by omega)
  have h3 := Int.emod_lt_of_pos g.ph (show 0 < g.turn by omega)
  show _ < -(g.ph % g.turn) ∧ -(g.ph % g.turn) ≤ 0
  omega
theorem DaG.at_lo {g : DaG} (h : g.ok) : ∀ i : Nat, -g.turn + 2 * (i : Int) < g.at i
  | 0 => by have := g.at_0 h; omega
  | i + 1 => by have := DaG.at_lo h i; have := g.at_up h i; omega
theorem DaG.lt_N {g : DaG} (h : g.ok) {i : Nat} (hi : g.at i < g.E) : i + 1 ≤ g.N := by
  have := g.at_lo h i
  unfold DaG.N
  omega
theorem DaG.stop {g : DaG} (h : g.ok) {i : Nat} (hi : g.E ≤ g.at i) : ∀ d, g.out (i + d) = g.out i ∧ g.E ≤ g.at (i + d)
  | 0 => ⟨rfl, hi⟩
  | d + 1 => by
    have ih := DaG.stop h hi d
    have hu := g.at_up h (i + d)
    refine ⟨?_, by show g.E ≤ g.at (i + d + 1); omega⟩
    show (if g.on (i + d) then _ else g.out (i + d)) = _
    rw [if_neg ?_, ih.1]
    rintro ⟨_, hc⟩
    unfold DaG.a DaG.b at hc
    have := (g.E_ok h).1
    split at hc <;> split at hc <;> omega
theorem DaG.stopN {g : DaG} (h : g.ok) {i : Nat} (hi : g.E ≤ g.at i) (hN : i ≤ g.N) : g.out g.N = g.out i := by
  have := (g.stop h hi (g.N - i)).1
  rwa [show i + (g.N - i) = g.N by omega] at this
theorem DaG.len_ok {g : DaG} (h : g.ok) : ∀ i, 2 * ((g.out i).length : Int) ≤ max (g.at i) 0 + 2 ∧ ((g.out i).length ≠ 0 → 0 < g.at i)
  | 0 => ⟨by show (0 : Int) ≤ _; omega, fun h => absurd rfl h⟩
  | i + 1 => by
    have ih := DaG.len_ok h i
    have hu := g.at_up h i
    show 2 * ((if g.on i then g.out i ++ [g.T i] else g.out i).length : Int) ≤ _ ∧ ((if g.on i then g.out i ++ [g.T i] else g.out i).length ≠ 0 → _)
    split
    · rename_i hon
      have hb := hon.2
      unfold DaG.a DaG.b at hb
      rw [List.length_append, List.length_singleton]
      by_cases h0 : (g.out i).length = 0
      · rw [h0]
        split at hb <;> split at hb <;> omega
      · have := ih.2 h0
        omega
    · refine ⟨by omega, fun h0 => ?_⟩
      have := ih.2 h0
      omega
theorem DaG.a_up {g : DaG} (h : g.ok) (i : Nat) : g.a i ≤ g.a (i + 1) ∧ 0 ≤ g.a i := by
  have := g.at_up h i
  unfold DaG.a
  split <;> split <;> omega
/-- Below the end, a side begins before and ends behind. -/
theorem ex_side (l : Li) {a : Int} (h0 : 0 ≤ a) : ∀ m, (∀ j, j < m → 0 ≤ lenPt (l.f j) (l.to j)) → a < Li.o l m → ∃ j, j < m ∧ 0 < (l.sd j).size ∧ a < (l.sd j).o + (l.sd j).size
  | 0, _, h => absurd h (by show ¬ a < 0; omega)
  | m + 1, hs, h => by
    have h : a < Li.o l m + lenPt (l.f m) (l.to m) := h
    by_cases hz : lenPt (l.f m) (l.to m) = 0
    · obtain ⟨j, h1, h2⟩ := ex_side l h0 m (fun j hj => hs j (by omega)) (by omega)
      exact ⟨j, by omega, h2⟩
    · have := hs m (by omega)
      exact ⟨m, by omega, by show 0 < lenPt (l.f m) (l.to m); omega, h⟩
theorem Li.len0 {l : Li} (h : l.ok) {j : Nat} (hj : j < l.m) : 0 ≤ lenPt (l.f j) (l.to j) ∧ lenPt (l.f j) (l.to j) ≤ 1414 :=
  len_small (h.2 j (Nat.lt_of_lt_of_le hj (Li.m_le l))) (Li.to_ok h (Nat.lt_of_lt_of_le hj (Li.m_le l)))
theorem li_sides {l : Li} (h : l.ok) (k : Nat) : sides_in (l.m - k) (fun j => l.sd (j + k)) := by
  have hm := Li.m_le l
  have hn := h.1
  refine ⟨by omega, fun j hj => ?_⟩
  have hj : j + k < l.n := by omega
  have h1 := Li.o_ok h (j + k) (by omega)
  have h2 := Li.len0 h (j := j + k) (by omega)
  refine ⟨⟨small_up (h.2 _ hj), small_up (Li.to_ok h hj)⟩, ⟨h1.1, ?_⟩, h2.1, ?_⟩
  · show Li.o l (j + k) ≤ _; omega
  · show lenPt _ _ ≤ _; omega
theorem sk_shift {a : Int} {m : Nat} {s : Nat → Sd} : ∀ k, k ≤ m → (∀ j, j < k → (s j).size = 0 ∨ (s j).o + (s j).size < a) → sk s a m = sk (fun j => s (j + k)) a (m - k) + k
  | 0, _, _ => rfl
  | k + 1, hk, h => by
    rw [sk_shift k (by omega) (fun j hj => h j (by omega)), show m - k = (m - (k + 1)) + 1 by omega]
    show (if (s (0 + k)).size = 0 ∨ (s (0 + k)).o + (s (0 + k)).size < a then sk (fun j => s (j + 1 + k)) a (m - (k + 1)) + 1 else 0) + k = _
    rw [Nat.zero_add, if_pos (h k (by omega)), show (fun j => s (j + 1 + k)) = fun j => s (j + (k + 1)) from funext fun j => congrArg s (by omega)]
    omega
theorem L_shift {a b : Int} {m : Nat} {s : Nat → Sd} {k : Nat} (hk : k ≤ m) (h : ∀ j, j < k → (s j).size = 0 ∨ (s j).o + (s j).size < a) : TkG.L ⟨m - k, fun j => s (j + k), a, b⟩ = TkG.L ⟨m, s, a, b⟩ := by
  unfold TkG.L TkG.k
  show tk (fun j => s (j + sk (fun j => s (j + k)) a (m - k) + k)) a b (m - k - sk (fun j => s (j + k)) a (m - k)) [ptAt (s (sk (fun j => s (j + k)) a (m - k) + k)) a] = tk (fun j => s (j + sk s a m)) a b (m - sk s a m) [ptAt (s (sk s a m)) a]
  rw [sk_shift k hk h, show (fun j => s (j + sk (fun j => s (j + k)) a (m - k) + k)) = fun j => s (j + (sk (fun j => s (j + k)) a (m - k) + k)) from funext fun j => congrArg s (by omega), show m - (sk (fun j => s (j + k)) a (m - k) + k) = m - k - sk (fun j => s (j + k)) a (m - k) by omega]
theorem dI_app (D : List (List Pt)) (x : List Pt) (j : Nat) (h : j < (D ++ [x]).length) : (bif decide (j < D.length) then (dI D j).length else x.length) = (dI (D ++ [x]) j).length ∧
    ∀ r, r < (dI (D ++ [x]) j).length → (bif decide (j < D.length) then (ptI (dI D j) r).x else (ptI x r).x) = (ptI (dI (D ++ [x]) j) r).x ∧ (bif decide (j < D.length) then (ptI (dI D j) r).y else (ptI x r).y) = (ptI (dI (D ++ [x]) j) r).y := by
  by_cases hi : j < D.length
  · have e : dI (D ++ [x]) j = dI D j := by unfold dI; simp only [List.getD_eq_getElem?_getD, List.getElem?_append_left hi]
    rw [decide_eq_true hi, e]
    exact ⟨rfl, fun _ _ => ⟨rfl, rfl⟩⟩
  · have e0 : j = D.length := by simp at h; omega
    have e : dI (D ++ [x]) j = x := by unfold dI; subst e0; simp
    rw [decide_eq_false hi, e]
    exact ⟨rfl, fun _ _ => ⟨rfl, rfl⟩⟩
def spDash : FSpec := mkSpec 30 (γ := DaG) (fun | [.agg _ l, p, .int _ x] => some ⟨liD l, slLen p, inD p, x⟩ | _ => none) (fun g => [liS g.l, patS g, .int .i64 g.ph]) DaG.ok (fun g => .tup 2 (lst [dsS (g.out g.N), .int .i64 0]))
theorem ok_dash : SpecOK Try.prog spDash := by
  refine spec_sound (specs := [giv spCheckFi, spSides, spTake]) (all_ok (⟨giv_ok ok_checkFi, ok_sides, ok_take, trivial⟩)) (eqs := []) (fun _ _ h => (List.not_mem_nil h).elim) Aff.mixed Try.func30 rfl (by kernel_rfl) (fun _ _ => by kernel_rfl) (fun g => (⟨[(8, .inv (daSum g)), (18, .cut (daCut g)), (23, .inv (daInv g))], [(22, [.own 15 62 2])]⟩ : Ann)) (fun g => Nat.le_of_ble_eq_true (by kernel_rfl)) ?_
  rintro g hg
  refine vc_of (B := True ∧ True ∧ True ∧ True ∧ True ∧ (((Sx.Ask ((1 : Nat) = (1 : Nat)) ∧ ∀ (i : Nat), i < (1 : Nat) → (True ∧ Sx.Ask (g.l.n = g.l.n) ∧ ∀ (i : Nat), i < g.l.n → (True ∧ Sx.Ask (IntKind.i64 = IntKind.i64) ∧ Sx.Ask ((g.l.f i).x = (g.l.f i).x)) ∧ Sx.Ask (IntKind.i64 = IntKind.i64) ∧ Sx.Ask ((g.l.f i).y = (g.l.f i).y)) ∧ Sx.Ask (g.l.c = g.l.c)) ∧ True) ∧ Sx.Ask (Go.Proofs.Ytbmgclpgompjmaa.Dsi.Lns.mk (1 : Nat) fun (i : Nat) => g.l).fin) ∧ True ∧ True ∧ True ∧ True ∧ True ∧ True ∧ True ∧ Sx.Br (decide ((↑g.n : Int) < (1 : Int))) (True ∧ True ∧ True ∧ True ∧ (True ∧ Sx.Ask ((g.out g.N).length = (0 : Nat))) ∧ Sx.Ask (IntKind.i64 = IntKind.i64) ∧ Sx.Ask ((2 : Int) = (0 : Int))) (True ∧ True ∧ True ∧ True ∧ Sx.Br (decide ((16 : Int) < (↑g.n : Int))) (True ∧ True ∧ True ∧ (True ∧ Sx.Ask ((g.out g.N).length = (0 : Nat))) ∧ Sx.Ask (IntKind.i64 = IntKind.i64) ∧ Sx.Ask ((2 : Int) = (0 : Int))) (True ∧ True ∧ True ∧ True ∧ (∃ (g_1 : Nat), Sx.Ask ((daSum g).pre g_1) ∧ ((Sx.Ask (g.n = g.n) ∧ ∀ (i : Nat), i < g.n → True ∧ Sx.Ask (IntKind.i64 = IntKind.i64) ∧ Sx.Ask (g.p i = g.p i)) ∧ (Sx.Ask (IntKind.i64 = IntKind.i64) ∧ Sx.Ask (g.ph = g.ph)) ∧ Sx.Ask ((0 : Nat) = (0 : Nat)) ∧ (Sx.Ask (IntKind.i64 = IntKind.i64) ∧ Sx.Ask ((0 : Int) = g.sum g_1)) ∧ (Sx.Ask (g.n = g.n) ∧ ∀ (i : Nat), i < g.n → True ∧ Sx.Ask (IntKind.i64 = IntKind.i64) ∧ Sx.Ask (g.p i = g.p i)) ∧ (Sx.Ask (IntKind.i64 = IntKind.i64) ∧ Sx.Ask ((↑g.n : Int) = (↑g.n : Int))) ∧ (Sx.Ask (IntKind.i64 = IntKind.i64) ∧ Sx.Ask ((0 : Int) = (↑g_1 : Int))) ∧ True) ∧ ((True ∧ Sx.Ask (g.l.n = g.l.n) ∧ ∀ (i : Nat), i < g.l.n → (True ∧ Sx.Ask (IntKind.i64 = IntKind.i64) ∧ Sx.Ask ((g.l.f i).x = (g.l.f i).x)) ∧ Sx.Ask (IntKind.i64 = IntKind.i64) ∧ Sx.Ask ((g.l.f i).y = (g.l.f i).y)) ∧ Sx.Ask (g.l.c = g.l.c)) ∧ True) ∧ ∀ (g_1 : Nat), (daSum g).pre g_1 → True ∧ Sx.Br (decide ((↑g_1 : Int) < (↑g.n : Int))) (Sx.Ask ((0 : Int) ≤ (↑g_1 : Int) ∧ (↑g_1 : Int) < (↑g.n : Int)) ∧ True ∧ True ∧ True ∧ True ∧ True ∧ Sx.Br (decide (g.p (↑g_1 : Int).toNat < (1 : Int))) (True ∧ True ∧ True ∧ True ∧ (True ∧ Sx.Ask ((g.out g.N).length = (0 : Nat))) ∧ Sx.Ask (IntKind.i64 = IntKind.i64) ∧ Sx.Ask ((3 : Int) = (0 : Int))) (True ∧ True ∧ True ∧ Sx.Br (decide ((65535 : Int) < g.p (↑g_1 : Int).toNat)) (True ∧ True ∧ True ∧ (True ∧ Sx.Ask ((g.out g.N).length = (0 : Nat))) ∧ Sx.Ask (IntKind.i64 = IntKind.i64) ∧ Sx.Ask ((3 : Int) = (0 : Int))) (True ∧ True ∧ Sx.Ask ((-9223372036854775808 : Int) ≤ g.sum g_1 + g.p (↑g_1 : Int).toNat ∧ g.sum g_1 + g.p (↑g_1 : Int).toNat ≤ (9223372036854775807 : Int)) ∧ True ∧ Sx.Ask ((-9223372036854775808 : Int) ≤ (↑g_1 : Int) + (1 : Int) ∧ (↑g_1 : Int) + (1 : Int) ≤ (9223372036854775807 : Int)) ∧ True ∧ ∃ (g' : Nat), Sx.Ask ((daSum g).pre g') ∧ (((Sx.Ask (g.n = g.n) ∧ ∀ (i : Nat), i < g.n → True ∧ Sx.Ask (IntKind.i64 = IntKind.i64) ∧ Sx.Ask (g.p i = g.p i)) ∧ (Sx.Ask (IntKind.i64 = IntKind.i64) ∧ Sx.Ask (g.ph = g.ph)) ∧ Sx.Ask ((0 : Nat) = (0 : Nat)) ∧ (Sx.Ask (IntKind.i64 = IntKind.i64) ∧ Sx.Ask (g.sum g_1 + g.p (↑g_1 : Int).toNat = g.sum g')) ∧ (Sx.Ask (g.n = g.n) ∧ ∀ (i : Nat), i < g.n → True ∧ Sx.Ask (IntKind.i64 = IntKind.i64) ∧ Sx.Ask (g.p i = g.p i)) ∧ (Sx.Ask (IntKind.i64 = IntKind.i64) ∧ Sx.Ask ((↑g.n : Int) = (↑g.n : Int))) ∧ (Sx.Ask (IntKind.i64 = IntKind.i64) ∧ Sx.Ask ((↑g_1 : Int) + (1 : Int) = (↑g' : Int))) ∧ True) ∧ ((True ∧ Sx.Ask (g.l.n = g.l.n) ∧ ∀ (i : Nat), i < g.l.n → (True ∧ Sx.Ask (IntKind.i64 = IntKind.i64) ∧ Sx.Ask ((g.l.f i).x = (g.l.f i).x)) ∧ Sx.Ask (IntKind.i64 = IntKind.i64) ∧ Sx.Ask ((g.l.f i).y = (g.l.f i).y)) ∧ Sx.Ask (g.l.c = g.l.c)) ∧ True) ∧ Sx.Ask ((daSum g).meas g' < (daSum g).meas g_1)))) (True ∧ True ∧ True ∧ Sx.Br (decide (g.ph < (0 : Int))) (True ∧ True ∧ True ∧ True ∧ (True ∧ Sx.Ask ((g.out g.N).length = (0 : Nat))) ∧ Sx.Ask (IntKind.i64 = IntKind.i64) ∧ Sx.Ask ((3 : Int) = (0 : Int))) (True ∧ True ∧ True ∧ Sx.Br (decide ((1048576 : Int) < g.ph)) (True ∧ True ∧ True ∧ (True ∧ Sx.Ask ((g.out g.N).length = (0 : Nat))) ∧ Sx.Ask (IntKind.i64 = IntKind.i64) ∧ Sx.Ask ((3 : Int) = (0 : Int))) ((True ∧ True ∧ Sx.Ask ((2 : Int) ≠ (0 : Int)) ∧ True ∧ Sx.Br (decide ((↑g.n : Int).tmod (2 : Int) = (1 : Int))) (True ∧ Sx.Ask ((-9223372036854775808 : Int) ≤ g.sum g_1 * (2 : Int) ∧ g.sum g_1 * (2 : Int) ≤ (9223372036854775807 : Int)) ∧ True ∧ ∃ (g_2 : Unit), Sx.Ask ((daCut g).pre g_2) ∧ ((Sx.Ask (g.n = g.n) ∧ ∀ (i : Nat), i < g.n → True ∧ Sx.Ask (IntKind.i64 = IntKind.i64) ∧ Sx.Ask (g.p i = g.p i)) ∧ (Sx.Ask (IntKind.i64 = IntKind.i64) ∧ Sx.Ask (g.ph = g.ph)) ∧ Sx.Ask ((0 : Nat) = (0 : Nat)) ∧ (Sx.Ask (IntKind.i64 = IntKind.i64) ∧ Sx.Ask (g.sum g_1 * (2 : Int) = g.turn)) ∧ True) ∧ ((True ∧ Sx.Ask (g.l.n = g.l.n) ∧ ∀ (i : Nat), i < g.l.n → (True ∧ Sx.Ask (IntKind.i64 = IntKind.i64) ∧ Sx.Ask ((g.l.f i).x = (g.l.f i).x)) ∧ Sx.Ask (IntKind.i64 = IntKind.i64) ∧ Sx.Ask ((g.l.f i).y = (g.l.f i).y)) ∧ Sx.Ask (g.l.c = g.l.c)) ∧ True) (∃ (g_2 : Unit), Sx.Ask ((daCut g).pre g_2) ∧ ((Sx.Ask (g.n = g.n) ∧ ∀ (i : Nat), i < g.n → True ∧ Sx.Ask (IntKind.i64 = IntKind.i64) ∧ Sx.Ask (g.p i = g.p i)) ∧ (Sx.Ask (IntKind.i64 = IntKind.i64) ∧ Sx.Ask (g.ph = g.ph)) ∧ Sx.Ask ((0 : Nat) = (0 : Nat)) ∧ (Sx.Ask (IntKind.i64 = IntKind.i64) ∧ Sx.Ask (g.sum g_1 = g.turn)) ∧ True) ∧ ((True ∧ Sx.Ask (g.l.n = g.l.n) ∧ ∀ (i : Nat), i < g.l.n → (True ∧ Sx.Ask (IntKind.i64 = IntKind.i64) ∧ Sx.Ask ((g.l.f i).x = (g.l.f i).x)) ∧ Sx.Ask (IntKind.i64 = IntKind.i64) ∧ Sx.Ask ((g.l.f i).y = (g.l.f i).y)) ∧ Sx.Ask (g.l.c = g.l.c)) ∧ True)) ∧ ∀ (g_2 : Unit), (daCut g).pre g_2 → True ∧ ((((True ∧ Sx.Ask (g.l.n = g.l.n) ∧ ∀ (i : Nat), i < g.l.n → (True ∧ Sx.Ask (IntKind.i64 = IntKind.i64) ∧ Sx.Ask ((g.l.f i).x = (g.l.f i).x)) ∧ Sx.Ask (IntKind.i64 = IntKind.i64) ∧ Sx.Ask ((g.l.f i).y = (g.l.f i).y)) ∧ Sx.Ask (g.l.c = g.l.c)) ∧ True) ∧ Sx.Ask g.l.ok) ∧ True ∧ True ∧ True ∧ True ∧ True ∧ True ∧ True ∧ True ∧ True ∧ True ∧ True ∧ True ∧ Sx.Ask (g.turn ≠ (0 : Int)) ∧ Sx.Ask ((-9223372036854775808 : Int) ≤ (0 : Int) - g.ph.tmod g.turn ∧ (0 : Int) - g.ph.tmod g.turn ≤ (9223372036854775807 : Int)) ∧ True ∧ True ∧ (∃ (g_3 : Nat × Nat), Sx.Ask ((daInv g).pre g_3) ∧ ((Sx.Ask (g.n = g.n) ∧ ∀ (i : Nat), i < g.n → True ∧ Sx.Ask (IntKind.i64 = IntKind.i64) ∧ Sx.Ask (g.p i = g.p i)) ∧ (Sx.Ask (IntKind.i64 = IntKind.i64) ∧ Sx.Ask (g.l.o g.l.m = g.E)) ∧ Sx.Ask ((0 : Nat) = (0 : Nat)) ∧ Sx.Ask ((0 : Nat) = (0 : Nat)) ∧ True ∧ (Sx.Ask (IntKind.i64 = IntKind.i64) ∧ Sx.Ask ((0 : Int) - g.ph.tmod g.turn = g.at g_3.fst)) ∧ (Sx.Ask (IntKind.i64 = IntKind.i64) ∧ Sx.Ask ((0 : Int) = (↑g_3.fst : Int))) ∧ True) ∧ ((True ∧ Sx.Ask (g.l.n = g.l.n) ∧ ∀ (i : Nat), i < g.l.n → (True ∧ Sx.Ask (IntKind.i64 = IntKind.i64) ∧ Sx.Ask ((g.l.f i).x = (g.l.f i).x)) ∧ Sx.Ask (IntKind.i64 = IntKind.i64) ∧ Sx.Ask ((g.l.f i).y = (g.l.f i).y)) ∧ Sx.Ask (g.l.c = g.l.c)) ∧ (True ∧ Sx.Ask (g.l.m = g.l.m - g_3.snd) ∧ ∀ (i : Nat), i < g.l.m - g_3.snd → (((((True ∧ Sx.Ask (IntKind.i64 = IntKind.i64) ∧ Sx.Ask ((g.l.f i).x = (g.l.f (i + g_3.snd)).x)) ∧ Sx.Ask (IntKind.i64 = IntKind.i64) ∧ Sx.Ask ((g.l.f i).y = (g.l.f (i + g_3.snd)).y)) ∧ Sx.Ask (IntKind.i64 = IntKind.i64) ∧ Sx.Ask ((g.l.to i).x = (g.l.to (i + g_3.snd)).x)) ∧ Sx.Ask (IntKind.i64 = IntKind.i64) ∧ Sx.Ask ((g.l.to i).y = (g.l.to (i + g_3.snd)).y)) ∧ Sx.Ask (IntKind.i64 = IntKind.i64) ∧ Sx.Ask (g.l.o i = g.l.o (i + g_3.snd))) ∧ Sx.Ask (IntKind.i64 = IntKind.i64) ∧ Sx.Ask (Go.Proofs.Ytbmgclpgompjmaa.Dsh.lenPt (g.l.f i) (g.l.to i) = Go.Proofs.Ytbmgclpgompjmaa.Dsh.lenPt (g.l.f (i + g_3.snd)) (g.l.to (i + g_3.snd)))) ∧ (Sx.Ask ((0 : Nat) = (g.out g_3.fst).length) ∧ ∀ (i : Nat), i < (g.out g_3.fst).length → (True ∧ False) ∧ False) ∧ True) ∧ ∀ (g_3 : Nat × Nat), (daInv g).pre g_3 → True ∧ True ∧ True ∧ Sx.Br (decide (g.at g_3.fst < g.E)) (True ∧ True ∧ True ∧ True ∧ True ∧ Sx.Ask ((↑g.n : Int) ≠ (0 : Int)) ∧ Sx.Ask ((0 : Int) ≤ (↑g_3.fst : Int).tmod (↑g.n : Int) ∧ (↑g_3.fst : Int).tmod (↑g.n : Int) < (↑g.n : Int)) ∧ True ∧ Sx.Ask ((-9223372036854775808 : Int) ≤ g.at g_3.fst + g.p ((↑g_3.fst : Int).tmod (↑g.n : Int)).toNat ∧ g.at g_3.fst + g.p ((↑g_3.fst : Int).tmod (↑g.n : Int)).toNat ≤ (9223372036854775807 : Int)) ∧ True ∧ True ∧ True ∧ True ∧ True ∧ True ∧ True ∧ True ∧ True ∧ Sx.Ask ((2 : Int) ≠ (0 : Int)) ∧ True ∧ True ∧ Sx.Br (decide ((↑g_3.fst : Int).tmod (2 : Int) = (0 : Int))) (True ∧ True ∧ True ∧ True ∧ Sx.Br (decide ((if (0 : Int) > g.at g_3.fst then (0 : Int) else g.at g_3.fst) < if g.E < g.at g_3.fst + g.p ((↑g_3.fst : Int).tmod (↑g.n : Int)).toNat then g.E else g.at g_3.fst + g.p ((↑g_3.fst : Int).tmod (↑g.n : Int)).toNat)) (True ∧ True ∧ True ∧ Sx.Br (decide ((↑(g.out g_3.fst).length : Int) = (10000 : Int))) (True ∧ True ∧ True ∧ (True ∧ Sx.Ask ((g.out g.N).length = (0 : Nat))) ∧ Sx.Ask (IntKind.i64 = IntKind.i64) ∧ Sx.Ask ((2 : Int) = (0 : Int))) (True ∧ True ∧ True ∧ ((True ∧ (Sx.Ask ((0 : Nat) = (0 : Nat)) ∧ (Sx.Ask (IntKind.i64 = IntKind.i64) ∧ Sx.Ask ((if (0 : Int) > g.at g_3.fst then (0 : Int) else g.at g_3.fst) = if (0 : Int) > g.at g_3.fst then (0 : Int) else g.at g_3.fst)) ∧ (Sx.Ask (IntKind.i64 = IntKind.i64) ∧ Sx.Ask ((if g.E < g.at g_3.fst + g.p ((↑g_3.fst : Int).tmod (↑g.n : Int)).toNat then g.E else g.at g_3.fst + g.p ((↑g_3.fst : Int).tmod (↑g.n : Int)).toNat) = if g.E < g.at g_3.fst + g.p ((↑g_3.fst : Int).tmod (↑g.n : Int)).toNat then g.E else g.at g_3.fst + g.p ((↑g_3.fst : Int).tmod (↑g.n : Int)).toNat)) ∧ True) ∧ (True ∧ Sx.Ask (g.l.m - g_3.snd = g.l.m - g_3.snd) ∧ ∀ (i : Nat), i < g.l.m - g_3.snd → (((((True ∧ Sx.Ask (IntKind.i64 = IntKind.i64) ∧ Sx.Ask ((g.l.f (i + g_3.snd)).x = (g.l.f (i + g_3.snd)).x)) ∧ Sx.Ask (IntKind.i64 = IntKind.i64) ∧ Sx.Ask ((g.l.f (i + g_3.snd)).y = (g.l.f (i + g_3.snd)).y)) ∧ Sx.Ask (IntKind.i64 = IntKind.i64) ∧ Sx.Ask ((g.l.to (i + g_3.snd)).x = (g.l.to (i + g_3.snd)).x)) ∧ Sx.Ask (IntKind.i64 = IntKind.i64) ∧ Sx.Ask ((g.l.to (i + g_3.snd)).y = (g.l.to (i + g_3.snd)).y)) ∧ Sx.Ask (IntKind.i64 = IntKind.i64) ∧ Sx.Ask (g.l.o (i + g_3.snd) = g.l.o (i + g_3.snd))) ∧ Sx.Ask (IntKind.i64 = IntKind.i64) ∧ Sx.Ask (Go.Proofs.Ytbmgclpgompjmaa.Dsh.lenPt (g.l.f (i + g_3.snd)) (g.l.to (i + g_3.snd)) = Go.Proofs.Ytbmgclpgompjmaa.Dsh.lenPt (g.l.f (i + g_3.snd)) (g.l.to (i + g_3.snd)))) ∧ True) ∧ Sx.Ask (Go.Proofs.Ytbmgclpgompjmaa.Dsi.TkG.mk (g.l.m - g_3.snd) (fun (i : Nat) => Go.Proofs.Ytbmgclpgompjmaa.Dsh.Sd.mk (g.l.f (i + g_3.snd)) (g.l.to (i + g_3.snd)) (g.l.o (i + g_3.snd)) (Go.Proofs.Ytbmgclpgompjmaa.Dsh.lenPt (g.l.f (i + g_3.snd)) (g.l.to (i + g_3.snd)))) (if (0 : Int) > g.at g_3.fst then (0 : Int) else g.at g_3.fst) (if g.E < g.at g_3.fst + g.p ((↑g_3.fst : Int).tmod (↑g.n : Int)).toNat then g.E else g.at g_3.fst + g.p ((↑g_3.fst : Int).tmod (↑g.n : Int)).toNat)).ok) ∧ True ∧ True ∧ Sx.Ask ((g.out g_3.fst).length + (1 : Nat) ≤ (9223372036854775807 : Nat) ∧ ((g.out g_3.fst).length + (1 : Nat)) * (32 : Nat) ≤ (140737488355328 : Nat)) ∧ True ∧ True ∧ True ∧ True ∧ Sx.Ask ((-9223372036854775808 : Int) ≤ (↑g_3.fst : Int) + (1 : Int) ∧ (↑g_3.fst : Int) + (1 : Int) ≤ (9223372036854775807 : Int)) ∧ True ∧ ∃ (g' : Nat × Nat), Sx.Ask ((daInv g).pre g') ∧ (((Sx.Ask (g.n = g.n) ∧ ∀ (i : Nat), i < g.n → True ∧ Sx.Ask (IntKind.i64 = IntKind.i64) ∧ Sx.Ask (g.p i = g.p i)) ∧ (Sx.Ask (IntKind.i64 = IntKind.i64) ∧ Sx.Ask (g.E = g.E)) ∧ Sx.Ask ((0 : Nat) = (0 : Nat)) ∧ Sx.Ask ((0 : Nat) = (0 : Nat)) ∧ True ∧ (Sx.Ask (IntKind.i64 = IntKind.i64) ∧ Sx.Ask (g.at g_3.fst + g.p ((↑g_3.fst : Int).tmod (↑g.n : Int)).toNat = g.at g'.fst)) ∧ (Sx.Ask (IntKind.i64 = IntKind.i64) ∧ Sx.Ask ((↑g_3.fst : Int) + (1 : Int) = (↑g'.fst : Int))) ∧ True) ∧ ((True ∧ Sx.Ask (g.l.n = g.l.n) ∧ ∀ (i : Nat), i < g.l.n → (True ∧ Sx.Ask (IntKind.i64 = IntKind.i64) ∧ Sx.Ask ((g.l.f i).x = (g.l.f i).x)) ∧ Sx.Ask (IntKind.i64 = IntKind.i64) ∧ Sx.Ask ((g.l.f i).y = (g.l.f i).y)) ∧ Sx.Ask (g.l.c = g.l.c)) ∧ (True ∧ Sx.Ask (g.l.m - g_3.snd - (Go.Proofs.Ytbmgclpgompjmaa.Dsi.TkG.mk (g.l.m - g_3.snd) (fun (i : Nat) => Go.Proofs.Ytbmgclpgompjmaa.Dsh.Sd.mk (g.l.f (i + g_3.snd)) (g.l.to (i + g_3.snd)) (g.l.o (i + g_3.snd)) (Go.Proofs.Ytbmgclpgompjmaa.Dsh.lenPt (g.l.f (i + g_3.snd)) (g.l.to (i + g_3.snd)))) (if (0 : Int) > g.at g_3.fst then (0 : Int) else g.at g_3.fst) (if g.E < g.at g_3.fst + g.p ((↑g_3.fst : Int).tmod (↑g.n : Int)).toNat then g.E else g.at g_3.fst + g.p ((↑g_3.fst : Int).tmod (↑g.n : Int)).toNat)).k = g.l.m - g'.snd) ∧ ∀ (i : Nat), i < g.l.m - g'.snd → (((((True ∧ Sx.Ask (IntKind.i64 = IntKind.i64) ∧ Sx.Ask ((g.l.f (i + (Go.Proofs.Ytbmgclpgompjmaa.Dsi.TkG.mk (g.l.m - g_3.snd) (fun (i : Nat) => Go.Proofs.Ytbmgclpgompjmaa.Dsh.Sd.mk (g.l.f (i + g_3.snd)) (g.l.to (i + g_3.snd)) (g.l.o (i + g_3.snd)) (Go.Proofs.Ytbmgclpgompjmaa.Dsh.lenPt (g.l.f (i + g_3.snd)) (g.l.to (i + g_3.snd)))) (if (0 : Int) > g.at g_3.fst then (0 : Int) else g.at g_3.fst) (if g.E < g.at g_3.fst + g.p ((↑g_3.fst : Int).tmod (↑g.n : Int)).toNat then g.E else g.at g_3.fst + g.p ((↑g_3.fst : Int).tmod (↑g.n : Int)).toNat)).k + g_3.snd)).x = (g.l.f (i + g'.snd)).x)) ∧ Sx.Ask (IntKind.i64 = IntKind.i64) ∧ Sx.Ask ((g.l.f (i + (Go.Proofs.Ytbmgclpgompjmaa.Dsi.TkG.mk (g.l.m - g_3.snd) (fun (i : Nat) => Go.Proofs.Ytbmgclpgompjmaa.Dsh.Sd.mk (g.l.f (i + g_3.snd)) (g.l.to (i + g_3.snd)) (g.l.o (i + g_3.snd)) (Go.Proofs.Ytbmgclpgompjmaa.Dsh.lenPt (g.l.f (i + g_3.snd)) (g.l.to (i + g_3.snd)))) (if (0 : Int) > g.at g_3.fst then (0 : Int) else g.at g_3.fst) (if g.E < g.at g_3.fst + g.p ((↑g_3.fst : Int).tmod (↑g.n : Int)).toNat then g.E else g.at g_3.fst + g.p ((↑g_3.fst : Int).tmod (↑g.n : Int)).toNat)).k + g_3.snd)).y = (g.l.f (i + g'.snd)).y)) ∧ Sx.Ask (IntKind.i64 = IntKind.i64) ∧ Sx.Ask ((g.l.to (i + (Go.Proofs.Ytbmgclpgompjmaa.Dsi.TkG.mk (g.l.m - g_3.snd) (fun (i : Nat) => Go.Proofs.Ytbmgclpgompjmaa.Dsh.Sd.mk (g.l.f (i + g_3.snd)) (g.l.to (i + g_3.snd)) (g.l.o (i + g_3.snd)) (Go.Proofs.Ytbmgclpgompjmaa.Dsh.lenPt (g.l.f (i + g_3.snd)) (g.l.to (i + g_3.snd)))) (if (0 : Int) > g.at g_3.fst then (0 : Int) else g.at g_3.fst) (if g.E < g.at g_3.fst + g.p ((↑g_3.fst : Int).tmod (↑g.n : Int)).toNat then g.E else g.at g_3.fst + g.p ((↑g_3.fst : Int).tmod (↑g.n : Int)).toNat)).k + g_3.snd)).x = (g.l.to (i + g'.snd)).x)) ∧ Sx.Ask (IntKind.i64 = IntKind.i64) ∧ Sx.Ask ((g.l.to (i + (Go.Proofs.Ytbmgclpgompjmaa.Dsi.TkG.mk (g.l.m - g_3.snd) (fun (i : Nat) => Go.Proofs.Ytbmgclpgompjmaa.Dsh.Sd.mk (g.l.f (i + g_3.snd)) (g.l.to (i + g_3.snd)) (g.l.o (i + g_3.snd)) (Go.Proofs.Ytbmgclpgompjmaa.Dsh.lenPt (g.l.f (i + g_3.snd)) (g.l.to (i + g_3.snd)))) (if (0 : Int) > g.at g_3.fst then (0 : Int) else g.at g_3.fst) (if g.E < g.at g_3.fst + g.p ((↑g_3.fst : Int).tmod (↑g.n : Int)).toNat then g.E else g.at g_3.fst + g.p ((↑g_3.fst : Int).tmod (↑g.n : Int)).toNat)).k + g_3.snd)).y = (g.l.to (i + g'.snd)).y)) ∧ Sx.Ask (IntKind.i64 = IntKind.i64) ∧ Sx.Ask (g.l.o (i + (Go.Proofs.Ytbmgclpgompjmaa.Dsi.TkG.mk (g.l.m - g_3.snd) (fun (i : Nat) => Go.Proofs.Ytbmgclpgompjmaa.Dsh.Sd.mk (g.l.f (i + g_3.snd)) (g.l.to (i + g_3.snd)) (g.l.o (i + g_3.snd)) (Go.Proofs.Ytbmgclpgompjmaa.Dsh.lenPt (g.l.f (i + g_3.snd)) (g.l.to (i + g_3.snd)))) (if (0 : Int) > g.at g_3.fst then (0 : Int) else g.at g_3.fst) (if g.E < g.at g_3.fst + g.p ((↑g_3.fst : Int).tmod (↑g.n : Int)).toNat then g.E else g.at g_3.fst + g.p ((↑g_3.fst : Int).tmod (↑g.n : Int)).toNat)).k + g_3.snd) = g.l.o (i + g'.snd))) ∧ Sx.Ask (IntKind.i64 = IntKind.i64) ∧ Sx.Ask (Go.Proofs.Ytbmgclpgompjmaa.Dsh.lenPt (g.l.f (i + (Go.Proofs.Ytbmgclpgompjmaa.Dsi.TkG.mk (g.l.m - g_3.snd) (fun (i : Nat) => Go.Proofs.Ytbmgclpgompjmaa.Dsh.Sd.mk (g.l.f (i + g_3.snd)) (g.l.to (i + g_3.snd)) (g.l.o (i + g_3.snd)) (Go.Proofs.Ytbmgclpgompjmaa.Dsh.lenPt (g.l.f (i + g_3.snd)) (g.l.to (i + g_3.snd)))) (if (0 : Int) > g.at g_3.fst then (0 : Int) else g.at g_3.fst) (if g.E < g.at g_3.fst + g.p ((↑g_3.fst : Int).tmod (↑g.n : Int)).toNat then g.E else g.at g_3.fst + g.p ((↑g_3.fst : Int).tmod (↑g.n : Int)).toNat)).k + g_3.snd)) (g.l.to (i + (Go.Proofs.Ytbmgclpgompjmaa.Dsi.TkG.mk (g.l.m - g_3.snd) (fun (i : Nat) => Go.Proofs.Ytbmgclpgompjmaa.Dsh.Sd.mk (g.l.f (i + g_3.snd)) (g.l.to (i + g_3.snd)) (g.l.o (i + g_3.snd)) (Go.Proofs.Ytbmgclpgompjmaa.Dsh.lenPt (g.l.f (i + g_3.snd)) (g.l.to (i + g_3.snd)))) (if (0 : Int) > g.at g_3.fst then (0 : Int) else g.at g_3.fst) (if g.E < g.at g_3.fst + g.p ((↑g_3.fst : Int).tmod (↑g.n : Int)).toNat then g.E else g.at g_3.fst + g.p ((↑g_3.fst : Int).tmod (↑g.n : Int)).toNat)).k + g_3.snd)) = Go.Proofs.Ytbmgclpgompjmaa.Dsh.lenPt (g.l.f (i + g'.snd)) (g.l.to (i + g'.snd)))) ∧ (Sx.Ask ((g.out g_3.fst).length + (1 : Nat) = (g.out g'.fst).length) ∧ ∀ (i : Nat), i < (g.out g'.fst).length → (True ∧ Sx.Ask ((bif decide (i < (g.out g_3.fst).length) then (dI (g.out g_3.fst) i).length else (Go.Proofs.Ytbmgclpgompjmaa.Dsi.TkG.mk (g.l.m - g_3.snd) (fun (i : Nat) => Go.Proofs.Ytbmgclpgompjmaa.Dsh.Sd.mk (g.l.f (i + g_3.snd)) (g.l.to (i + g_3.snd)) (g.l.o (i + g_3.snd)) (Go.Proofs.Ytbmgclpgompjmaa.Dsh.lenPt (g.l.f (i + g_3.snd)) (g.l.to (i + g_3.snd)))) (if (0 : Int) > g.at g_3.fst then (0 : Int) else g.at g_3.fst) (if g.E < g.at g_3.fst + g.p ((↑g_3.fst : Int).tmod (↑g.n : Int)).toNat then g.E else g.at g_3.fst + g.p ((↑g_3.fst : Int).tmod (↑g.n : Int)).toNat)).L.length) = (dI (g.out g'.fst) i).length) ∧ ∀ (i_1 : Nat), i_1 < (dI (g.out g'.fst) i).length → (True ∧ Sx.Ask (IntKind.i64 = IntKind.i64) ∧ Sx.Ask ((bif decide (i < (g.out g_3.fst).length) then (Go.Proofs.Ytbmgclpgompjmaa.Dsi.ptI (dI (g.out g_3.fst) i) i_1).x else (Go.Proofs.Ytbmgclpgompjmaa.Dsi.ptI (Go.Proofs.Ytbmgclpgompjmaa.Dsi.TkG.mk (g.l.m - g_3.snd) (fun (i : Nat) => Go.Proofs.Ytbmgclpgompjmaa.Dsh.Sd.mk (g.l.f (i + g_3.snd)) (g.l.to (i + g_3.snd)) (g.l.o (i + g_3.snd)) (Go.Proofs.Ytbmgclpgompjmaa.Dsh.lenPt (g.l.f (i + g_3.snd)) (g.l.to (i + g_3.snd)))) (if (0 : Int) > g.at g_3.fst then (0 : Int) else g.at g_3.fst) (if g.E < g.at g_3.fst + g.p ((↑g_3.fst : Int).tmod (↑g.n : Int)).toNat then g.E else g.at g_3.fst + g.p ((↑g_3.fst : Int).tmod (↑g.n : Int)).toNat)).L i_1).x) = (Go.Proofs.Ytbmgclpgompjmaa.Dsi.ptI (dI (g.out g'.fst) i) i_1).x)) ∧ Sx.Ask (IntKind.i64 = IntKind.i64) ∧ Sx.Ask ((bif decide (i < (g.out g_3.fst).length) then (Go.Proofs.Ytbmgclpgompjmaa.Dsi.ptI (dI (g.out g_3.fst) i) i_1).y else (Go.Proofs.Ytbmgclpgompjmaa.Dsi.ptI (Go.Proofs.Ytbmgclpgompjmaa.Dsi.TkG.mk (g.l.m - g_3.snd) (fun (i : Nat) => Go.Proofs.Ytbmgclpgompjmaa.Dsh.Sd.mk (g.l.f (i + g_3.snd)) (g.l.to (i + g_3.snd)) (g.l.o (i + g_3.snd)) (Go.Proofs.Ytbmgclpgompjmaa.Dsh.lenPt (g.l.f (i + g_3.snd)) (g.l.to (i + g_3.snd)))) (if (0 : Int) > g.at g_3.fst then (0 : Int) else g.at g_3.fst) (if g.E < g.at g_3.fst + g.p ((↑g_3.fst : Int).tmod (↑g.n : Int)).toNat then g.E else g.at g_3.fst + g.p ((↑g_3.fst : Int).tmod (↑g.n : Int)).toNat)).L i_1).y) = (Go.Proofs.Ytbmgclpgompjmaa.Dsi.ptI (dI (g.out g'.fst) i) i_1).y)) ∧ Sx.Ask (false = false)) ∧ True) ∧ Sx.Ask ((daInv g).meas g' < (daInv g).meas g_3))) (True ∧ True ∧ True ∧ Sx.Ask ((-9223372036854775808 : Int) ≤ (↑g_3.fst : Int) + (1 : Int) ∧ (↑g_3.fst : Int) + (1 : Int) ≤ (9223372036854775807 : Int)) ∧ True ∧ ∃ (g' : Nat × Nat), Sx.Ask ((daInv g).pre g') ∧ (((Sx.Ask (g.n = g.n) ∧ ∀ (i : Nat), i < g.n → True ∧ Sx.Ask (IntKind.i64 = IntKind.i64) ∧ Sx.Ask (g.p i = g.p i)) ∧ (Sx.Ask (IntKind.i64 = IntKind.i64) ∧ Sx.Ask (g.E = g.E)) ∧ Sx.Ask ((0 : Nat) = (0 : Nat)) ∧ Sx.Ask ((0 : Nat) = (0 : Nat)) ∧ True ∧ (Sx.Ask (IntKind.i64 = IntKind.i64) ∧ Sx.Ask (g.at g_3.fst + g.p ((↑g_3.fst : Int).tmod (↑g.n : Int)).toNat = g.at g'.fst)) ∧ (Sx.Ask (IntKind.i64 = IntKind.i64) ∧ Sx.Ask ((↑g_3.fst : Int) + (1 : Int) = (↑g'.fst : Int))) ∧ True) ∧ ((True ∧ Sx.Ask (g.l.n = g.l.n) ∧ ∀ (i : Nat), i < g.l.n → (True ∧ Sx.Ask (IntKind.i64 = IntKind.i64) ∧ Sx.Ask ((g.l.f i).x = (g.l.f i).x)) ∧ Sx.Ask (IntKind.i64 = IntKind.i64) ∧ Sx.Ask ((g.l.f i).y = (g.l.f i).y)) ∧ Sx.Ask (g.l.c = g.l.c)) ∧ (True ∧ Sx.Ask (g.l.m - g_3.snd = g.l.m - g'.snd) ∧ ∀ (i : Nat), i < g.l.m - g'.snd → (((((True ∧ Sx.Ask (IntKind.i64 = IntKind.i64) ∧ Sx.Ask ((g.l.f (i + g_3.snd)).x = (g.l.f (i + g'.snd)).x)) ∧ Sx.Ask (IntKind.i64 = IntKind.i64) ∧ Sx.Ask ((g.l.f (i + g_3.snd)).y = (g.l.f (i + g'.snd)).y)) ∧ Sx.Ask (IntKind.i64 = IntKind.i64) ∧ Sx.Ask ((g.l.to (i + g_3.snd)).x = (g.l.to (i + g'.snd)).x)) ∧ Sx.Ask (IntKind.i64 = IntKind.i64) ∧ Sx.Ask ((g.l.to (i + g_3.snd)).y = (g.l.to (i + g'.snd)).y)) ∧ Sx.Ask (IntKind.i64 = IntKind.i64) ∧ Sx.Ask (g.l.o (i + g_3.snd) = g.l.o (i + g'.snd))) ∧ Sx.Ask (IntKind.i64 = IntKind.i64) ∧ Sx.Ask (Go.Proofs.Ytbmgclpgompjmaa.Dsh.lenPt (g.l.f (i + g_3.snd)) (g.l.to (i + g_3.snd)) = Go.Proofs.Ytbmgclpgompjmaa.Dsh.lenPt (g.l.f (i + g'.snd)) (g.l.to (i + g'.snd)))) ∧ (Sx.Ask ((g.out g_3.fst).length = (g.out g'.fst).length) ∧ ∀ (i : Nat), i < (g.out g'.fst).length → (True ∧ Sx.Ask ((dI (g.out g_3.fst) i).length = (dI (g.out g'.fst) i).length) ∧ ∀ (i_1 : Nat), i_1 < (dI (g.out g'.fst) i).length → (True ∧ Sx.Ask (IntKind.i64 = IntKind.i64) ∧ Sx.Ask ((Go.Proofs.Ytbmgclpgompjmaa.Dsi.ptI (dI (g.out g_3.fst) i) i_1).x = (Go.Proofs.Ytbmgclpgompjmaa.Dsi.ptI (dI (g.out g'.fst) i) i_1).x)) ∧ Sx.Ask (IntKind.i64 = IntKind.i64) ∧ Sx.Ask ((Go.Proofs.Ytbmgclpgompjmaa.Dsi.ptI (dI (g.out g_3.fst) i) i_1).y = (Go.Proofs.Ytbmgclpgompjmaa.Dsi.ptI (dI (g.out g'.fst) i) i_1).y)) ∧ Sx.Ask (false = false)) ∧ True) ∧ Sx.Ask ((daInv g).meas g' < (daInv g).meas g_3))) (True ∧ True ∧ True ∧ True ∧ Sx.Ask ((-9223372036854775808 : Int) ≤ (↑g_3.fst : Int) + (1 : Int) ∧ (↑g_3.fst : Int) + (1 : Int) ≤ (9223372036854775807 : Int)) ∧ True ∧ ∃ (g' : Nat × Nat), Sx.Ask ((daInv g).pre g') ∧ (((Sx.Ask (g.n = g.n) ∧ ∀ (i : Nat), i < g.n → True ∧ Sx.Ask (IntKind.i64 = IntKind.i64) ∧ Sx.Ask (g.p i = g.p i)) ∧ (Sx.Ask (IntKind.i64 = IntKind.i64) ∧ Sx.Ask (g.E = g.E)) ∧ Sx.Ask ((0 : Nat) = (0 : Nat)) ∧ Sx.Ask ((0 : Nat) = (0 : Nat)) ∧ True ∧ (Sx.Ask (IntKind.i64 = IntKind.i64) ∧ Sx.Ask (g.at g_3.fst + g.p ((↑g_3.fst : Int).tmod (↑g.n : Int)).toNat = g.at g'.fst)) ∧ (Sx.Ask (IntKind.i64 = IntKind.i64) ∧ Sx.Ask ((↑g_3.fst : Int) + (1 : Int) = (↑g'.fst : Int))) ∧ True) ∧ ((True ∧ Sx.Ask (g.l.n = g.l.n) ∧ ∀ (i : Nat), i < g.l.n → (True ∧ Sx.Ask (IntKind.i64 = IntKind.i64) ∧ Sx.Ask ((g.l.f i).x = (g.l.f i).x)) ∧ Sx.Ask (IntKind.i64 = IntKind.i64) ∧ Sx.Ask ((g.l.f i).y = (g.l.f i).y)) ∧ Sx.Ask (g.l.c = g.l.c)) ∧ (True ∧ Sx.Ask (g.l.m - g_3.snd = g.l.m - g'.snd) ∧ ∀ (i : Nat), i < g.l.m - g'.snd → (((((True ∧ Sx.Ask (IntKind.i64 = IntKind.i64) ∧ Sx.Ask ((g.l.f (i + g_3.snd)).x = (g.l.f (i + g'.snd)).x)) ∧ Sx.Ask (IntKind.i64 = IntKind.i64) ∧ Sx.Ask ((g.l.f (i + g_3.snd)).y = (g.l.f (i + g'.snd)).y)) ∧ Sx.Ask (IntKind.i64 = IntKind.i64) ∧ Sx.Ask ((g.l.to (i + g_3.snd)).x = (g.l.to (i + g'.snd)).x)) ∧ Sx.Ask (IntKind.i64 = IntKind.i64) ∧ Sx.Ask ((g.l.to (i + g_3.snd)).y = (g.l.to (i + g'.snd)).y)) ∧ Sx.Ask (IntKind.i64 = IntKind.i64) ∧ Sx.Ask (g.l.o (i + g_3.snd) = g.l.o (i + g'.snd))) ∧ Sx.Ask (IntKind.i64 = IntKind.i64) ∧ Sx.Ask (Go.Proofs.Ytbmgclpgompjmaa.Dsh.lenPt (g.l.f (i + g_3.snd)) (g.l.to (i + g_3.snd)) = Go.Proofs.Ytbmgclpgompjmaa.Dsh.lenPt (g.l.f (i + g'.snd)) (g.l.to (i + g'.snd)))) ∧ (Sx.Ask ((g.out g_3.fst).length = (g.out g'.fst).length) ∧ ∀ (i : Nat), i < (g.out g'.fst).length → (True ∧ Sx.Ask ((dI (g.out g_3.fst) i).length = (dI (g.out g'.fst) i).length) ∧ ∀ (i_1 : Nat), i_1 < (dI (g.out g'.fst) i).length → (True ∧ Sx.Ask (IntKind.i64 = IntKind.i64) ∧ Sx.Ask ((Go.Proofs.Ytbmgclpgompjmaa.Dsi.ptI (dI (g.out g_3.fst) i) i_1).x = (Go.Proofs.Ytbmgclpgompjmaa.Dsi.ptI (dI (g.out g'.fst) i) i_1).x)) ∧ Sx.Ask (IntKind.i64 = IntKind.i64) ∧ Sx.Ask ((Go.Proofs.Ytbmgclpgompjmaa.Dsi.ptI (dI (g.out g_3.fst) i) i_1).y = (Go.Proofs.Ytbmgclpgompjmaa.Dsi.ptI (dI (g.out g'.fst) i) i_1).y)) ∧ Sx.Ask (false = false)) ∧ True) ∧ Sx.Ask ((daInv g).meas g' < (daInv g).meas g_3))) (True ∧ True ∧ True ∧ True ∧ (True ∧ Sx.Ask ((g.out g_3.fst).length = (g.out g.N).length) ∧ ∀ (i : Nat), i < (g.out g.N).length → (True ∧ Sx.Ask ((dI (g.out g_3.fst) i).length = (dI (g.out g.N) i).length) ∧ ∀ (i_1 : Nat), i_1 < (dI (g.out g.N) i).length → (True ∧ Sx.Ask (IntKind.i64 = IntKind.i64) ∧ Sx.Ask ((Go.Proofs.Ytbmgclpgompjmaa.Dsi.ptI (dI (g.out g_3.fst) i) i_1).x = (Go.Proofs.Ytbmgclpgompjmaa.Dsi.ptI (dI (g.out g.N) i) i_1).x)) ∧ Sx.Ask (IntKind.i64 = IntKind.i64) ∧ Sx.Ask ((Go.Proofs.Ytbmgclpgompjmaa.Dsi.ptI (dI (g.out g_3.fst) i) i_1).y = (Go.Proofs.Ytbmgclpgompjmaa.Dsi.ptI (dI (g.out g.N) i) i_1).y)) ∧ Sx.Ask (false = false)) ∧ Sx.Ask (IntKind.i64 = IntKind.i64) ∧ Sx.Ask ((0 : Int) = (0 : Int))))))))) (by kernel_rfl) ?_
  simp only [ask_iff, br_iff, eq_self, true_and, and_true, implies_true, forall_const, decide_eq_true_eq, decide_eq_false_iff_not, ne_eq, Nat.mul_one, Nat.add_zero, Nat.zero_add]
  have hg' := hg
  obtain ⟨⟨hl, hn1, hn2⟩, hp, hph⟩ := hg
  have ht := g.turn_ok hg'
  have hE := g.E_ok hg'
  refine ⟨lns1 hl, fun h => absurd h (by omega), fun _ => ⟨fun h => absurd h (by omega), fun _ => ⟨⟨0, Nat.zero_le _, rfl, rfl⟩, fun i hi => ⟨fun h => ?_, fun h => ?_⟩⟩⟩⟩
  · have hpi := hp i (by omega)
    have hs := g.sum_ok hg' i (by omega)
    have ei : ((i : Int)).toNat = i := rfl
    rw [ei]
    refine ⟨by omega, fun h => absurd h (by omega), fun _ => ⟨fun h => absurd h (by omega), fun _ => ⟨by omega, by omega, i + 1, ?_, ⟨rfl, rfl⟩, ?_⟩⟩⟩
    · show i + 1 ≤ g.n; omega
    · show g.n - (i + 1) < g.n - i; omega
  refine ⟨fun h => absurd h (by omega), fun _ => ⟨fun h => absurd h (by omega), fun _ => ⟨?_, ?_⟩⟩⟩
  · have hi : i ≤ g.n := hi
    obtain rfl : i = g.n := by omega
    have hs := g.sum_ok hg' g.n hi
    have em : ((g.n : Int)).tmod 2 = ((g.n % 2 : Nat) : Int) := rfl
    rw [em]
    refine ⟨by decide, fun h => ⟨by omega, (), trivial, ?_⟩, fun h => ⟨(), trivial, ?_⟩⟩
    · unfold DaG.turn; rw [if_pos (by omega)]
    · unfold DaG.turn; rw [if_neg (by omega)]
  rintro _ _
  have et : g.ph.tmod g.turn = g.ph % g.turn := Int.tmod_eq_emod_of_nonneg hph.1
  have h0 := g.at_0 hg'
  have e0 : g.at 0 = -(g.ph % g.turn) := rfl
  rw [et]
  refine ⟨hl, by omega, by omega, ⟨(0, 0), ⟨Nat.zero_le _, fun j hj => absurd hj (Nat.not_lt_zero j), fun h => absurd h (Nat.lt_irrefl 0)⟩, ⟨rfl, by show _ = g.at 0; omega, rfl⟩, ⟨rfl, fun i _ => six (s := g.l.sd i) rfl⟩, rfl, fun i hi => absurd hi (Nat.not_lt_zero i)⟩, ?_⟩
  rintro ⟨i, k⟩ hi
  dsimp only
  have ea : (if 0 > g.at i then 0 else g.at i) = g.a i := rfl
  have er : ((i : Int).tmod (g.n : Int)).toNat = i % g.n := rfl
  have es : g.at i + g.p (i % g.n) = g.at (i + 1) := rfl
  have eb : (if g.E < g.at (i + 1) then g.E else g.at (i + 1)) = g.b i := rfl
  have ed : ∀ j, (⟨g.l.f j, g.l.to j, g.l.o j, lenPt (g.l.f j) (g.l.to j)⟩ : Sd) = g.l.sd j := fun _ => rfl
  simp only [er, es, eb, ea, ed]
  generalize hG : ({ m := g.l.m - k, s := fun i => g.l.sd (i + k), a := g.a i, b := g.b i } : TkG) = G
  obtain ⟨hk, hd, hpr⟩ : k ≤ g.l.m ∧ (∀ j, j < k → (g.l.sd j).size = 0 ∨ (g.l.sd j).o + (g.l.sd j).size < g.a i) ∧ (0 < i → g.at (i - 1) < g.E) := hi
  have hup := g.at_up hg' i
  have hau := g.a_up hg' i
  have hi0 : 2 * ((g.out i).length : Int) ≤ max (g.at i) 0 + 2 := (g.len_ok hg' i).1
  refine ⟨fun hlt => ?_, fun hge => ?_⟩
  · have hN := g.lt_N hg' hlt
    have hlo := g.at_lo hg' i
    have hms : g.N - (i + 1) < g.N - i := by omega
    have e2 : ((i : Int)).tmod 2 = ((i % 2 : Nat) : Int) := rfl
    have e3 : ((i : Int)).tmod (g.n : Int) = ((i % g.n : Nat) : Int) := rfl
    have hmod := Nat.mod_lt i (show g.n > 0 by omega)
    have hiN : (i : Int) ≤ 100000 := by unfold DaG.N at hN; omega
    have c1 : -9223372036854775808 ≤ (i : Int) + 1 ∧ (i : Int) + 1 ≤ 9223372036854775807 := by omega
    have stay : ¬ g.on i → ∃ g' : Nat × Nat, (daInv g).pre g' ∧ ((g.at (i + 1) = g.at g'.1 ∧ (i : Int) + 1 = g'.1) ∧ (g.l.m - k = g.l.m - g'.2 ∧ ∀ j, j < g.l.m - g'.2 → (((((g.l.f (j + k)).x = (g.l.f (j + g'.2)).x ∧ (g.l.f (j + k)).y = (g.l.f (j + g'.2)).y) ∧ (g.l.to (j + k)).x = (g.l.to (j + g'.2)).x) ∧ (g.l.to (j + k)).y = (g.l.to (j + g'.2)).y) ∧ g.l.o (j + k) = g.l.o (j + g'.2)) ∧ lenPt (g.l.f (j + k)) (g.l.to (j + k)) = lenPt (g.l.f (j + g'.2)) (g.l.to (j + g'.2))) ∧
        (g.out i).length = (g.out g'.1).length ∧ ∀ j, j < (g.out g'.1).length → (dI (g.out i) j).length = (dI (g.out g'.1) j).length ∧ ∀ r, r < (dI (g.out g'.1) j).length → (ptI (dI (g.out i) j) r).x = (ptI (dI (g.out g'.1) j) r).x ∧ (ptI (dI (g.out i) j) r).y = (ptI (dI (g.out g'.1) j) r).y) ∧ (daInv g).meas g' < (daInv g).meas (i, k) := fun hon => by
      have eo : g.out (i + 1) = g.out i := if_neg hon
      refine ⟨(i + 1, k), ⟨hk, fun j hj => (hd j hj).imp id fun h => Int.lt_of_lt_of_le h hau.1, fun _ => hlt⟩, ⟨⟨rfl, rfl⟩, ⟨rfl, fun j _ => six (s := g.l.sd (j + k)) rfl⟩, ?_⟩, hms⟩
      show (g.out i).length = (g.out (i + 1)).length ∧ ∀ j, j < (g.out (i + 1)).length → (dI (g.out i) j).length = (dI (g.out (i + 1)) j).length ∧ ∀ r, r < (dI (g.out (i + 1)) j).length → (ptI (dI (g.out i) j) r).x = (ptI (dI (g.out (i + 1)) j) r).x ∧ (ptI (dI (g.out i) j) r).y = (ptI (dI (g.out (i + 1)) j) r).y
      rw [eo]
      exact ⟨rfl, fun _ _ => ⟨rfl, fun _ _ => ⟨rfl, rfl⟩⟩⟩
    rw [e2, e3]
    refine ⟨by omega, by omega, by omega, by decide, fun hm => ⟨fun hab => ⟨fun h => absurd h (by omega), fun _ => ?_⟩, fun hab => ⟨c1, stay fun h => hab h.2⟩⟩, fun hm => ⟨c1, stay fun h => hm (by have := h.1; omega)⟩⟩
    have hon : g.on i := ⟨by omega, hab⟩
    have haE : g.a i < g.E := by unfold DaG.b at hab; split at hab <;> omega
    have hb : g.b i ≤ g.E := by unfold DaG.b; split <;> omega
    obtain ⟨j, j1, j2, j3⟩ := ex_side g.l hau.2 g.l.m (fun j hj => (Li.len0 hl hj).1) haE
    have hjk : k ≤ j := by
      rcases Nat.lt_or_ge j k with hc | hc
      · have := hd j hc; omega
      · exact hc
    have hGk : G.k ≤ G.m := (sk_spec _ _ _).1
    have hGm : G.m = g.l.m - k := by rw [← hG]
    have hGd := (sk_spec G.a G.m G.s).2.1
    have hGa : G.a = g.a i := by rw [← hG]
    have hGs : ∀ j, G.s j = g.l.sd (j + k) := by rw [← hG]; exact fun _ => rfl
    have eL : G.L = g.T i := by rw [← hG]; exact L_shift hk hd
    have eo : g.out (i + 1) = g.out i ++ [G.L] := by rw [eL]; exact if_pos hon
    have hGok : G.ok := by
      rw [← hG]
      refine ⟨⟨li_sides hl k, ⟨hau.2, by show g.a i ≤ _; omega⟩, by show 0 ≤ g.b i; omega, by show g.b i ≤ _; omega⟩, j - k, by show j - k < g.l.m - k; omega, ?_⟩
      show 0 < (g.l.sd (j - k + k)).size ∧ g.a i ≤ (g.l.sd (j - k + k)).o + (g.l.sd (j - k + k)).size
      rw [show j - k + k = j by omega]
      omega
    have hl2 : (g.out (i + 1)).length = (g.out i).length + 1 := by rw [eo]; simp
    refine ⟨hGok, by omega, c1, (i + 1, G.k + k), ⟨by show G.k + k ≤ _; omega, fun r hr => ?_, fun _ => hlt⟩, ⟨⟨rfl, rfl⟩, ⟨by show _ = g.l.m - (G.k + k); omega, fun r _ => six (s := g.l.sd (r + G.k + k)) (congrArg g.l.sd (by show r + G.k + k = r + (G.k + k); omega))⟩, ?_⟩, hms⟩
    · have hr : r < G.k + k := hr
      show _ ∨ _ < g.a (i + 1)
      rcases Nat.lt_or_ge r k with hc | hc
      · exact (hd r hc).imp id fun h => Int.lt_of_lt_of_le h hau.1
      · have := hGd (r - k) (by show r - k < G.k; omega)
        rw [hGs, hGa, show r - k + k = r by omega] at this
        exact this.imp id fun h => Int.lt_of_lt_of_le h hau.1
    · show (g.out i).length + 1 = (g.out (i + 1)).length ∧ ∀ j, j < (g.out (i + 1)).length → (bif decide (j < (g.out i).length) then (dI (g.out i) j).length else G.L.length) = (dI (g.out (i + 1)) j).length ∧ ∀ r, r < (dI (g.out (i + 1)) j).length → (bif decide (j < (g.out i).length) then (ptI (dI (g.out i) j) r).x else (ptI G.L r).x) = (ptI (dI (g.out (i + 1)) j) r).x ∧ (bif decide (j < (g.out i).length) then (ptI (dI (g.out i) j) r).y else (ptI G.L r).y) = (ptI (dI (g.out (i + 1)) j) r).y
      refine ⟨hl2.symm, ?_⟩
      rw [eo]
      exact fun j hj => dI_app _ _ j hj
  · have hiN : i ≤ g.N := by
      rcases Nat.eq_zero_or_pos i with h | h
      · omega
      · have := g.lt_N hg' (hpr h); omega
    rw [g.stopN hg' (by omega) hiN]
    exact ⟨rfl, fun _ _ => ⟨rfl, fun _ _ => ⟨rfl, rfl⟩⟩⟩
end Go.Proofs.Ytbmgclpgompjmaa.Dsj
