/- FillAreaBound: the plain law. -/
import Derived.Test.YtppdojjhegiffaaFlr
set_option linter.unusedSimpArgs false
set_option linter.unusedVariables false
namespace Go.Proofs.Ytppdojjhegiffaa.Fls
open Con Fla Flb Flc Fld Fle Flp Flf Flg Flr
/-- Within the square. -/
def Ed.sm (e : Ed) : Prop := ((-20 ≤ e.x ∧ e.x ≤ 20) ∧ -20 ≤ e.x + e.dx ∧ e.x + e.dx ≤ 20) ∧ -20 ≤ e.y ∧ e.en ≤ 20
theorem mkE_sm {a b : Pt} (ha : small 20 a) (hb : small 20 b) : ∀ e ∈ mkE a b, Ed.sm e := by
  intro e he
  obtain ⟨⟨a1, a2⟩, a3, a4⟩ := ha
  obtain ⟨⟨b1, b2⟩, b3, b4⟩ := hb
  unfold mkE at he
  split at he
  · rw [List.mem_singleton.1 he]
    exact ⟨⟨⟨a1, a2⟩, show -20 ≤ a.x + (b.x - a.x) by omega, show a.x + (b.x - a.x) ≤ 20 by omega⟩, a3, b4⟩
  · split at he
    · rw [List.mem_singleton.1 he]
      exact ⟨⟨⟨b1, b2⟩, show -20 ≤ b.x + (a.x - b.x) by omega, show b.x + (a.x - b.x) ≤ 20 by omega⟩, b3, a4⟩
    · exact (List.not_mem_nil he).elim
def lsm (g : Lns) : Prop := ∀ i, i < g.n → ∀ j, j < (g.f i).n → small 20 ((g.f i).f j)
theorem ed_sm {l : Li} (h : ∀ j, j < l.n → small 20 (l.f j)) : ∀ j, j ≤ l.n → ∀ e ∈ l.ed j, Ed.sm e
  | 0, _ => fun _ he => (List.not_mem_nil he).elim
  | j + 1, hj => fun e he => by
    rcases List.mem_append.1 he with he | he
    · exact ed_sm h j (by omega) e he
    · exact mkE_sm (h j (by omega)) (h _ (Nat.mod_lt _ (by omega))) e he
theorem lns_sm {g : Lns} (h : lsm g) : ∀ i, i ≤ g.n → ∀ e ∈ g.ed i, Ed.sm e
  | 0, _ => fun _ he => (List.not_mem_nil he).elim
  | i + 1, hi => fun e he => by
    rcases List.mem_append.1 he with he | he
    · exact lns_sm h i (by omega) e he
    · exact ed_sm (h i (by omega)) _ (Nat.le_refl _) e he
theorem first_in {e : Ed} (h : e.ok) (hs : Ed.sm e) {k : Nat} (hk : (k : Int) < e.dy) : -20 ≤ e.first (e.y + k) ∧ e.first (e.y + k) ≤ 20 := by
  obtain ⟨⟨⟨x1, x2⟩, x3, x4⟩, _⟩ := hs
  have f := first_spec h (e.y + k)
  rw [num_at] at f
  have hd := h.2.2.1.1
  have p1 := Int.mul_nonneg (show 0 ≤ e.x + 20 by omega) (show 0 ≤ 2 * e.dy - (2 * (k : Int) + 1) by omega)
  have p2 := Int.mul_nonneg (show 0 ≤ e.x + e.dx + 20 by omega) (show 0 ≤ 2 * (k : Int) + 1 by omega)
  have p3 := Int.mul_nonneg (show 0 ≤ 20 - e.x by omega) (show 0 ≤ 2 * e.dy - (2 * (k : Int) + 1) by omega)
  have p4 := Int.mul_nonneg (show 0 ≤ 20 - (e.x + e.dx) by omega) (show 0 ≤ 2 * (k : Int) + 1 by omega)
  have n1 : 2 * e.dy * e.x + e.dx * (2 * (k : Int) + 1) + 40 * e.dy = (e.x + 20) * (2 * e.dy - (2 * (k : Int) + 1)) + (e.x + e.dx + 20) * (2 * (k : Int) + 1) := by grind
  have n2 : 40 * e.dy - (2 * e.dy * e.x + e.dx * (2 * (k : Int) + 1)) = (20 - e.x) * (2 * e.dy - (2 * (k : Int) + 1)) + (20 - (e.x + e.dx)) * (2 * (k : Int) + 1) := by grind
  generalize e.first (e.y + k) = F at *
  have g1 : 2 * e.dy * (F + 21) = 2 * e.dy * F + 42 * e.dy := by grind
  have g2 : 2 * e.dy * (21 - F) = 42 * e.dy - 2 * e.dy * F := by grind
  refine ⟨?_, ?_⟩
  · refine Int.not_lt.1 fun hc => ?_
    have := Int.mul_le_mul_of_nonneg_left (show F + 21 ≤ 0 by omega) (show 0 ≤ 2 * e.dy by omega)
    rw [g1, Int.mul_zero] at this
    omega
  · refine Int.not_lt.1 fun hc => ?_
    have := Int.mul_le_mul_of_nonneg_left (show 21 - F ≤ 0 by omega) (show 0 ≤ 2 * e.dy by omega)
    rw [g2, Int.mul_zero] at this
    omega
def cell (e : Ed) (y x : Int) : Int := if Ed.on e y = true ∧ e.first y ≤ x then e.s else 0
def T (e : Ed) : Int := sumN (fun j => sumN (fun i => cell e ((j : Int) - 20) ((i : Int) - 20)) 41) 41
theorem row_T {e : Ed} (h : e.ok) (hs : Ed.sm e) (j : Nat) : sumN (fun i => cell e ((j : Int) - 20) ((i : Int) - 20)) 41 = if (e.y + 20).toNat ≤ j ∧ j < (e.y + 20).toNat + e.dy.toNat then e.s * (21 - e.first ((j : Int) - 20)) else 0 := by
  have hd := h.2.2.1
  have hy := hs.2
  have iff : Ed.on e ((j : Int) - 20) = true ↔ (e.y + 20).toNat ≤ j ∧ j < (e.y + 20).toNat + e.dy.toNat := by
    unfold Ed.on
    rw [decide_eq_true_iff]
    omega
  by_cases hon : Ed.on e ((j : Int) - 20) = true
  · have hin := iff.1 hon
    rw [if_pos hin]
    have hf : -20 ≤ e.first ((j : Int) - 20) ∧ e.first ((j : Int) - 20) ≤ 20 := by
      have := first_in h hs (k := j - (e.y + 20).toNat) (by omega)
      rw [show e.y + ((j - (e.y + 20).toNat : Nat) : Int) = (j : Int) - 20 by omega] at this
      exact this
    have e1 : sumN (fun i => cell e ((j : Int) - 20) ((i : Int) - 20)) 41 = sumN (fun i => e.s * (if e.first ((j : Int) - 20) + 20 ≤ (i : Int) then 1 else 0)) 41 := sumN_congr fun i _ => by
      show (if Ed.on e ((j : Int) - 20) = true ∧ e.first ((j : Int) - 20) ≤ (i : Int) - 20 then e.s else 0) = _
      by_cases hc : e.first ((j : Int) - 20) + 20 ≤ (i : Int)
      · rw [if_pos hc, if_pos ⟨hon, by omega⟩, Int.mul_one]
      · rw [if_neg hc, if_neg (fun h => hc (by omega)), Int.mul_zero]
    rw [e1, sumN_mul, count _ _ (by omega), if_neg (by omega)]
    congr 1
    show (41 : Int) - _ = _
    omega
  · rw [if_neg fun hc => hon (iff.2 hc)]
    have e1 : sumN (fun i => cell e ((j : Int) - 20) ((i : Int) - 20)) 41 = sumN (fun _ => 0) 41 := sumN_congr fun i _ => if_neg fun hc => hon hc.1
    rw [e1, sumN_zero0]
theorem T_eq {e : Ed} (h : e.ok) (hs : Ed.sm e) : T e = e.s * (21 * e.dy - rows e e.dy.toNat) := by
  have hd := h.2.2.1
  have hy := hs.2
  unfold T
  rw [sumN_congr (fun j _ => row_T h hs j), strip (fun j => e.s * (21 - e.first ((j : Int) - 20)))]
  rw [show min 41 ((e.y + 20).toNat + e.dy.toNat) - (e.y + 20).toNat = e.dy.toNat by omega, sumN_mul]
  congr 1
  rw [sumN_sub (fun _ => 21) (fun k => e.first ((((e.y + 20).toNat + k : Nat) : Int) - 20)), sumN_const]
  rw [show ((e.dy.toNat : Nat) : Int) = e.dy by omega]
  congr 1
  exact sumN_congr fun k _ => by rw [show (((e.y + 20).toNat + k : Nat) : Int) - 20 = e.y + k by omega]
theorem T_in {e : Ed} (h : e.ok) (hs : Ed.sm e) : -e.dy ≤ 2 * T e - 42 * htE e + arE e ∧ 2 * T e - 42 * htE e + arE e ≤ e.dy := by
  have r := edge_rows h
  rw [T_eq h hs]
  unfold htE arE
  rcases h.2.2.2 with q | q
  · rw [q]; simp only [Int.one_mul]; omega
  · rw [q]; simp only [Int.neg_mul, Int.one_mul, Int.mul_neg]; omega
def col (g : Lns) (y : Int) (i : Nat) : Int := sumN (fun i => wE (eI g.E) g.E.length y ((i : Int) - 20)) i
def tab (g : Lns) (j : Nat) : Int := sumN (fun j => col g ((j : Int) - 20) 41) j
theorem tab_T (g : Lns) : tab g 41 = sl T g.E := by
  rw [← sl_eI]
  unfold tab col wE
  have e1 : ∀ y : Int, sumN (fun i => sumN (fun k => cell (eI g.E k) y ((i : Int) - 20)) g.E.length) 41 = sumN (fun k => sumN (fun i => cell (eI g.E k) y ((i : Int) - 20)) 41) g.E.length := fun y => sumN_swap (fun k i => cell (eI g.E k) y ((i : Int) - 20)) g.E.length 41
  show sumN (fun j => sumN (fun i => sumN (fun k => cell (eI g.E k) ((j : Int) - 20) ((i : Int) - 20)) g.E.length) 41) 41 = _
  rw [sumN_congr (fun j _ => e1 ((j : Int) - 20))]
  exact sumN_swap (fun k j => sumN (fun i => cell (eI g.E k) ((j : Int) - 20) ((i : Int) - 20)) 41) g.E.length 41
theorem sl_neg (φ : Ed → Int) (L : List Ed) : sl (fun e => -φ e) L = -sl φ L := by
  induction L with
  | nil => rfl
  | cons e L ih => simp only [sl, ih]; omega
theorem sl_mul (c : Int) (φ : Ed → Int) (L : List Ed) : sl (fun e => c * φ e) L = c * sl φ L := by
  induction L with
  | nil => exact (Int.mul_zero c).symm
  | cons e L ih => simp only [sl, ih, Int.mul_add]
theorem area_bound {g : Lns} (h : g.fin) (hs : lsm g) : -lnH g g.n ≤ 2 * tab g 41 - lnAr g g.n ∧ 2 * tab g 41 - lnAr g g.n ≤ lnH g g.n := by
  have hok := Lns.ed_ok h g.n (Nat.le_refl _)
  have hsm := lns_sm hs g.n (Nat.le_refl _)
  have a1 : sl arE g.E = -lnAr g g.n := ar_lns g g.n
  have a2 : sl htE g.E = 0 := ht_lns g g.n
  have a3 : sl (·.dy) g.E = lnH g g.n := dy_lns g g.n
  have e1 : sl (fun e => 2 * T e - 42 * htE e + arE e) g.E = 2 * tab g 41 - lnAr g g.n := by
    have : sl (fun e => 2 * T e - 42 * htE e + arE e) g.E = sl (fun e => (2 * T e + (-42) * htE e) + arE e) g.E := sl_congr fun e _ => by omega
    rw [this, sl_add (fun e => 2 * T e + (-42) * htE e) arE, sl_add (fun e => 2 * T e) (fun e => (-42) * htE e), sl_mul 2 T, sl_mul (-42) htE, a1, a2, tab_T]
    omega
  have h1 := sl_le (L := g.E) (φ := fun e => -e.dy) (ψ := fun e => 2 * T e - 42 * htE e + arE e) fun e he => (T_in (hok e he) (hsm e he)).1
  have h2 := sl_le (L := g.E) (φ := fun e => 2 * T e - 42 * htE e + arE e) (ψ := (·.dy)) fun e he => (T_in (hok e he) (hsm e he)).2
  rw [sl_neg (·.dy), a3, e1] at h1
  rw [a3, e1] at h2
  exact ⟨h1, h2⟩
end Go.Proofs.Ytppdojjhegiffaa.Fls
