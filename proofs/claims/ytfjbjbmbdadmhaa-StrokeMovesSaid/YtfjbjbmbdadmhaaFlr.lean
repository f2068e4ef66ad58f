/- Winding numbers and the area: the plain law. -/
import Derived.Test.YtfjbjbmbdadmhaaFlg
set_option linter.unusedSimpArgs false
set_option linter.unusedVariables false
namespace Go.Proofs.Ytfjbjbmbdadmhaa.Flr
open Con Fla Flb Flc Fld Fle Flp Flf Flg
theorem sumN_add (φ ψ : Nat → Int) : ∀ n, sumN (fun i => φ i + ψ i) n = sumN φ n + sumN ψ n
  | 0 => rfl
  | n + 1 => by
    show sumN (fun i => φ i + ψ i) n + (φ n + ψ n) = sumN φ n + φ n + (sumN ψ n + ψ n)
    rw [sumN_add φ ψ n]
    omega
theorem sumN_mul (c : Int) (φ : Nat → Int) : ∀ n, sumN (fun i => c * φ i) n = c * sumN φ n
  | 0 => (Int.mul_zero c).symm
  | n + 1 => by
    show sumN (fun i => c * φ i) n + c * φ n = c * (sumN φ n + φ n)
    rw [sumN_mul c φ n, Int.mul_add]
/-- Rows of a strip. -/
theorem strip (F : Nat → Int) (a d : Nat) : ∀ n, sumN (fun j => if a ≤ j ∧ j < a + d then F j else 0) n = sumN (fun k => F (a + k)) (min n (a + d) - a)
  | 0 => by rw [show min 0 (a + d) - a = 0 by omega]; rfl
  | n + 1 => by
    show sumN (fun j => if a ≤ j ∧ j < a + d then F j else 0) n + (if a ≤ n ∧ n < a + d then F n else 0) = _
    rw [strip F a d n]
    by_cases h : a ≤ n ∧ n < a + d
    · rw [if_pos h, show min (n + 1) (a + d) - a = (min n (a + d) - a) + 1 by omega]
      show _ = _ + F (a + (min n (a + d) - a))
      rw [show a + (min n (a + d) - a) = n by omega]
    · rw [if_neg h, show min (n + 1) (a + d) - a = min n (a + d) - a by omega]
      omega
/-! One edge. -/
theorem first_spec {e : Ed} (h : e.ok) (y : Int) : e.num y ≤ 2 * e.dy * e.first y ∧ 2 * e.dy * e.first y < e.num y + 2 * e.dy := by
  have hd : 1 ≤ 2 * e.dy := by have := h.2.2.1.1; omega
  have q := Num.quo_spec (-(e.num y)) (2 * e.dy) hd
  unfold Ed.first
  rw [Int.mul_neg, Int.mul_comm (2 * e.dy)]
  omega
theorem num_at (e : Ed) (k : Nat) : e.num (e.y + k) = 2 * e.dy * e.x + e.dx * (2 * (k : Int) + 1) - e.dy := by
  unfold Ed.num
  rw [show e.y + (k : Int) - e.y = k by omega]
def rows (e : Ed) (m : Nat) : Int := sumN (fun k => e.first (e.y + k)) m
theorem rows_in {e : Ed} (h : e.ok) : ∀ m : Nat, (2 * e.dy * e.x) * (m : Int) + e.dx * ((m : Int) * m) - e.dy * m ≤ 2 * e.dy * rows e m ∧ 2 * e.dy * rows e m ≤ (2 * e.dy * e.x) * (m : Int) + e.dx * ((m : Int) * m) + e.dy * m
  | 0 => by simp [rows, sumN]
  | m + 1 => by
    have ih := rows_in h m
    have f := first_spec h (e.y + m)
    rw [num_at] at f
    have e1 : rows e (m + 1) = rows e m + e.first (e.y + m) := rfl
    have e2 : ((m + 1 : Nat) : Int) * ((m + 1 : Nat) : Int) = (m : Int) * m + (2 * (m : Int) + 1) := by
      show ((m : Int) + 1) * ((m : Int) + 1) = _
      rw [Int.add_mul, Int.mul_add]; omega
    have e3 : ((m + 1 : Nat) : Int) = (m : Int) + 1 := rfl
    rw [e1, e2, e3]
    simp only [Int.mul_add, Int.mul_one] at f ih ⊢
    omega
theorem edge_rows {e : Ed} (h : e.ok) : -e.dy ≤ 2 * rows e e.dy.toNat - e.dy * (2 * e.x + e.dx) ∧ 2 * rows e e.dy.toNat - e.dy * (2 * e.x + e.dx) ≤ e.dy := by
  have hd := h.2.2.1.1
  have r := rows_in h e.dy.toNat
  have ed : ((e.dy.toNat : Nat) : Int) = e.dy := by omega
  rw [ed] at r
  generalize rows e e.dy.toNat = F at *
  have k1 : e.dy * (2 * F - e.dy * (2 * e.x + e.dx)) = 2 * e.dy * F - (2 * e.dy * e.x * e.dy + e.dx * (e.dy * e.dy)) := by grind
  refine ⟨Int.le_of_mul_le_mul_left (a := e.dy) ?_ (by omega), Int.le_of_mul_le_mul_left (a := e.dy) ?_ (by omega)⟩
  · rw [k1, Int.mul_neg]; omega
  · rw [k1]; omega
/-! All edges. -/
theorem sl_add (φ ψ : Ed → Int) (L : List Ed) : sl (fun e => φ e + ψ e) L = sl φ L + sl ψ L := by
  induction L with
  | nil => rfl
  | cons e L ih => simp only [sl, ih]; omega
theorem sl_le {φ ψ : Ed → Int} : ∀ {L : List Ed}, (∀ e ∈ L, φ e ≤ ψ e) → sl φ L ≤ sl ψ L
  | [], _ => Int.le_refl _
  | e :: L, h => by
    have := sl_le (L := L) (fun e he => h e (List.mem_cons_of_mem _ he))
    have := h e List.mem_cons_self
    show φ e + sl φ L ≤ ψ e + sl ψ L
    omega
theorem sl_congr {φ ψ : Ed → Int} : ∀ {L : List Ed}, (∀ e ∈ L, φ e = ψ e) → sl φ L = sl ψ L
  | [], _ => rfl
  | e :: L, h => by
    show φ e + sl φ L = ψ e + sl ψ L
    rw [sl_congr (L := L) (fun e he => h e (List.mem_cons_of_mem _ he)), h e List.mem_cons_self]
/-- What an edge gives to twice the area, to the sum of its signed heights, to the heights. -/
def arE (e : Ed) : Int := e.s * (e.dy * (2 * e.x + e.dx))
def abH (a b : Pt) : Int := if 0 ≤ b.y - a.y then b.y - a.y else -(b.y - a.y)
theorem ar_mkE (a b : Pt) : sl arE (mkE a b) = a.x * a.y * (-1) - b.x * b.y * (-1) - cr a b := by
  unfold mkE
  split
  · show 1 * ((b.y - a.y) * (2 * a.x + (b.x - a.x))) + 0 = _
    unfold cr
    grind
  · split
    · show -1 * ((a.y - b.y) * (2 * b.x + (a.x - b.x))) + 0 = _
      unfold cr
      grind
    · show (0 : Int) = _
      have : a.y = b.y := by omega
      unfold cr
      rw [this]
      grind
theorem dy_mkE (a b : Pt) : sl (·.dy) (mkE a b) = abH a b := by
  unfold mkE abH
  split
  · show b.y - a.y + 0 = _
    rw [if_pos (by omega)]; omega
  · split
    · show a.y - b.y + 0 = _
      rw [if_neg (by omega)]; omega
    · show (0 : Int) = _
      split <;> omega
theorem sl_li2 {φ : Ed → Int} {ψ : Pt → Pt → Int} (h : ∀ a b, sl φ (mkE a b) = ψ a b) (l : Li) : ∀ j, sl φ (l.ed j) = sumN (fun i => ψ (l.f i) (l.f ((i + 1) % l.n))) j
  | 0 => rfl
  | j + 1 => by
    show sl φ (l.ed j ++ _) = _ + _
    rw [sl_app, sl_li2 h l j, h]
theorem liAr_sum (l : Li) : ∀ j, liAr l j = sumN (fun i => cr (l.f i) (l.f ((i + 1) % l.n))) j
  | 0 => rfl
  | j + 1 => by
    show liAr l j + _ = _ + _
    rw [liAr_sum l j]
theorem ar_li (l : Li) : sl arE (l.ed l.n) = -liAr l l.n := by
  rw [sl_li2 ar_mkE, liAr_sum]
  have e : sumN (fun i => (l.f i).x * (l.f i).y * (-1) - (l.f ((i + 1) % l.n)).x * (l.f ((i + 1) % l.n)).y * (-1) - cr (l.f i) (l.f ((i + 1) % l.n))) l.n
      = sumN (fun i => (l.f i).x * (l.f i).y * (-1) - (l.f ((i + 1) % l.n)).x * (l.f ((i + 1) % l.n)).y * (-1)) l.n - sumN (fun i => cr (l.f i) (l.f ((i + 1) % l.n))) l.n :=
    sumN_sub (fun i => (l.f i).x * (l.f i).y * (-1) - (l.f ((i + 1) % l.n)).x * (l.f ((i + 1) % l.n)).y * (-1)) (fun i => cr (l.f i) (l.f ((i + 1) % l.n))) l.n
  rw [e, sumN_sub (fun i => (l.f i).x * (l.f i).y * (-1)) (fun i => (l.f ((i + 1) % l.n)).x * (l.f ((i + 1) % l.n)).y * (-1)), cyc (fun i => (l.f i).x * (l.f i).y * (-1))]
  omega
theorem ar_lns (g : Lns) : ∀ i, sl arE (g.ed i) = -lnAr g i
  | 0 => rfl
  | i + 1 => by
    show sl arE (g.ed i ++ _) = -(lnAr g i + _)
    rw [sl_app, ar_lns g i, ar_li]
    omega
def liH (l : Li) : Nat → Int
  | 0 => 0
  | j + 1 => liH l j + abH (l.f j) (l.f ((j + 1) % l.n))
def lnH (g : Lns) : Nat → Int
  | 0 => 0
  | i + 1 => lnH g i + liH (g.f i) (g.f i).n
theorem dy_li (l : Li) : ∀ j, sl (·.dy) (l.ed j) = liH l j
  | 0 => rfl
  | j + 1 => by
    show sl (·.dy) (l.ed j ++ _) = liH l j + _
    rw [sl_app, dy_li l j, dy_mkE]
theorem dy_lns (g : Lns) : ∀ i, sl (·.dy) (g.ed i) = lnH g i
  | 0 => rfl
  | i + 1 => by
    show sl (·.dy) (g.ed i ++ _) = lnH g i + _
    rw [sl_app, dy_lns g i, dy_li]
end Go.Proofs.Ytfjbjbmbdadmhaa.Flr
