/- FillConvexArea: the plain law. -/
import Derived.Test.YtfjbjbmbdadmhaaFlr
import Derived.Test.YtfjbjbmbdadmhaaRgn
set_option linter.unusedSimpArgs false
set_option linter.unusedVariables false
namespace Go.Proofs.Ytfjbjbmbdadmhaa.Flu
set_option maxRecDepth 100000
open Con Rga Rgl Rgn Fla Flb Flc Fld Fle Flp Flf Flg Flr
/-! Every set of cells within the square has a valid list of runs. -/
theorem exists_runs' {χ : Int → Int → Bool} {lo : Int} {N : Nat} (hlo : lo = -8192) (hN : (N : Int) = 16384) (h : ∀ y x, χ y x = true → (lo ≤ y ∧ y < lo + N) ∧ lo ≤ x ∧ x < lo + N) : ∃ L, vld L ∧ ∀ y x, mem L y x = χ y x := by
  have cells : ∀ (y : Int), lo ≤ y → y < lo + N → (∃ L, vld L ∧ ∀ y' x, mem L y' x = (χ y' x && decide (y' < y))) → ∀ n : Nat, n ≤ N → ∃ L, vld L ∧ ∀ y' x, mem L y' x = (χ y' x && (decide (y' < y) || decide (y' = y ∧ x < lo + n))) := by
    intro y h1 h2 hL n
    induction n with
    | zero =>
      intro _
      obtain ⟨L, hv, hm⟩ := hL
      refine ⟨L, hv, fun y' x => ?_⟩
      rw [hm]
      cases hc : χ y' x with
      | false => rfl
      | true =>
        have := h _ _ hc
        have e : decide (y' = y ∧ x < lo + ((0 : Nat) : Int)) = false := decide_eq_false (by omega)
        rw [e, Bool.or_false]
    | succ n ih =>
      intro hn
      obtain ⟨L, hv, hm⟩ := ih (by omega)
      by_cases hc : χ y (lo + n) = true
      · have haft : aft L y (lo + n) := by
          intro r hr
          have hmem : r ∈ L := List.mem_of_getLast? hr
          have ho := hv.1 r hmem
          have hin : mem L r.y r.x0 = true := (mem_iff _ _ _).2 ⟨r, hmem, rfl, Int.le_refl _, ho.2⟩
          rw [hm, Bool.and_eq_true, Bool.or_eq_true, decide_eq_true_iff, decide_eq_true_iff] at hin
          omega
        obtain ⟨q1, q2, _⟩ := add_ok hv (r := ⟨y, lo + n, lo + n + 1⟩) (fun _ => ⟨⟨⟨by show -8192 ≤ y; omega, by show y < 8192; omega⟩, ⟨show -8192 ≤ lo + (n : Int) by omega, show lo + (n : Int) ≤ 8192 by omega⟩, show -8192 ≤ lo + (n : Int) + 1 by omega, show lo + (n : Int) + 1 ≤ 8192 by omega⟩, show lo + (n : Int) < lo + (n : Int) + 1 by omega⟩) haft
        refine ⟨_, q1, fun y' x => ?_⟩
        rw [q2, hm]
        have hir : inR ⟨y, lo + n, lo + n + 1⟩ y' x = decide (y = y' ∧ lo + (n : Int) ≤ x ∧ x < lo + n + 1) := rfl
        rw [hir]
        by_cases e : y' = y ∧ x = lo + n
        · obtain ⟨rfl, rfl⟩ := e
          rw [hc, decide_eq_true (show y' = y' ∧ lo + (n : Int) ≤ lo + n ∧ lo + (n : Int) < lo + n + 1 by omega), decide_eq_true (show y' = y' ∧ lo + (n : Int) < lo + ((n + 1 : Nat) : Int) by omega)]
          simp
        · rw [decide_eq_false (show ¬ (y = y' ∧ lo + (n : Int) ≤ x ∧ x < lo + n + 1) by omega), Bool.or_false]
          congr 2
          rw [Bool.eq_iff_iff, decide_eq_true_iff, decide_eq_true_iff]
          omega
      · refine ⟨L, hv, fun y' x => ?_⟩
        rw [hm]
        by_cases e : y' = y ∧ x = lo + n
        · obtain ⟨rfl, rfl⟩ := e
          rw [Bool.not_eq_true] at hc
          rw [hc]; rfl
        · congr 2
          rw [Bool.eq_iff_iff, decide_eq_true_iff, decide_eq_true_iff]
          omega
  have rws : ∀ n : Nat, n ≤ N → ∃ L, vld L ∧ ∀ y' x, mem L y' x = (χ y' x && decide (y' < lo + n)) := by
    intro n
    induction n with
    | zero =>
      intro _
      refine ⟨[], vld_nil, fun y' x => ?_⟩
      show false = _
      cases hc : χ y' x with
      | false => rfl
      | true =>
        have := h _ _ hc
        rw [decide_eq_false (by omega)]; rfl
    | succ n ih =>
      intro hn
      obtain ⟨L, hv, hm⟩ := cells (lo + n) (by omega) (by omega) (ih (by omega)) N (Nat.le_refl _)
      refine ⟨L, hv, fun y' x => ?_⟩
      rw [hm]
      cases hc : χ y' x with
      | false => rfl
      | true =>
        have := h _ _ hc
        rw [Bool.true_and, Bool.true_and, Bool.eq_iff_iff, Bool.or_eq_true, decide_eq_true_iff, decide_eq_true_iff, decide_eq_true_iff]
        omega
  obtain ⟨L, hv, hm⟩ := rws N (Nat.le_refl _)
  refine ⟨L, hv, fun y x => ?_⟩
  rw [hm]
  cases hc : χ y x with
  | false => rfl
  | true =>
    have := h _ _ hc
    rw [decide_eq_true (by omega)]; rfl
theorem exists_runs {χ : Int → Int → Bool} (h : ∀ y x, χ y x = true → (-8192 ≤ y ∧ y < 8192) ∧ -8192 ≤ x ∧ x < 8192) : ∃ L, vld L ∧ ∀ y x, mem L y x = χ y x := by
  obtain ⟨N, hN⟩ : ∃ N : Nat, (N : Int) = 16384 := ⟨16384, rfl⟩
  exact exists_runs' (lo := -8192) rfl hN fun y x hc => by have := h y x hc; omega
theorem ofSet_mem {χ : Int → Int → Bool} (h : ∀ y x, χ y x = true → (-8192 ≤ y ∧ y < 8192) ∧ -8192 ≤ x ∧ x < 8192) (y x : Int) : mem (ofSet χ) y x = χ y x := by
  obtain ⟨L, h1, h2⟩ := exists_runs h
  rw [ofSet_eq h1 h2, h2]
theorem chi_sq {ins : Int → Bool} {f : Nat → Ed} {n : Nat} (y x : Int) (h : chi ins f n y x = true) : (-8192 ≤ y ∧ y < 8192) ∧ -8192 ≤ x ∧ x < 8192 := by
  unfold chi at h
  rw [Bool.and_eq_true, decide_eq_true_iff] at h
  exact h.1
theorem fill_mem (ins : Int → Bool) (g : Lns) (y x : Int) : mem (fillL ins g) y x = chi ins (eI g.E) g.E.length y x := ofSet_mem chi_sq y x
theorem fill_vld (ins : Int → Bool) (g : Lns) : vld (fillL ins g) := ofSet_vld _
theorem fill_area (ins : Int → Bool) (g : Lns) : areaL (fillL ins g) = cnt (chi ins (eI g.E) g.E.length) := by
  rw [area_cnt _ (fill_vld ins g)]
  congr 1
  funext y x
  exact fill_mem ins g y x
/-! Sides on a row. -/
/-- The first cell behind the side from a to b. -/
def fy (a b : Pt) (y : Int) : Int := if a.y < b.y then Ed.first ⟨a.x, a.y, b.y, b.x - a.x, b.y - a.y, 1⟩ y else Ed.first ⟨b.x, b.y, a.y, a.x - b.x, a.y - b.y, -1⟩ y
def cellE (y x : Int) (e : Ed) : Int := if Ed.on e y = true ∧ e.first y ≤ x then e.s else 0
def wgt (y : Int) (e : Ed) : Int := if Ed.on e y = true then e.s * e.first y else 0
theorem cell_mkE (y x : Int) (a b : Pt) : sl (cellE y x) (mkE a b) = if fy a b y ≤ x then up y a - up y b else 0 := by
  unfold mkE fy
  split
  · show cellE y x _ + 0 = _
    unfold cellE up Ed.on
    simp only [decide_eq_true_eq]
    generalize Ed.first _ y = F
    repeat' split
    all_goals omega
  · split
    · show cellE y x _ + 0 = _
      unfold cellE up Ed.on
      simp only [decide_eq_true_eq]
      generalize Ed.first _ y = F
      repeat' split
      all_goals omega
    · show (0 : Int) = _
      unfold up
      repeat' split
      all_goals omega
theorem wgt_mkE (y : Int) (a b : Pt) : sl (wgt y) (mkE a b) = (up y a - up y b) * fy a b y := by
  unfold mkE fy
  split
  · show wgt y _ + 0 = _
    unfold wgt up Ed.on
    simp only [decide_eq_true_eq]
    generalize Ed.first _ y = F
    repeat' split
    all_goals first | omega | (exfalso; omega)
  · split
    · show wgt y _ + 0 = _
      unfold wgt up Ed.on
      simp only [decide_eq_true_eq]
      generalize Ed.first _ y = F
      repeat' split
      all_goals first | omega | (exfalso; omega)
    · show (0 : Int) = _
      unfold up
      repeat' split
      all_goals first | (simp; done) | (exfalso; omega)
/-! Which side is left of which. -/
theorem first_mono {e e' : Ed} (h : e.ok) (h' : e'.ok) {y : Int} (hn : (e.num y + e.dy) * e'.dy ≤ (e'.num y + e'.dy) * e.dy) : e.first y ≤ e'.first y := by
  have f := first_spec h y
  have f' := first_spec h' y
  have d := h.2.2.1.1
  have d' := h'.2.2.1.1
  refine Int.not_lt.1 fun hc => ?_
  generalize e.first y = F at *
  generalize e'.first y = F' at *
  have a0 := Int.mul_le_mul_of_nonneg_left (show F' + 1 ≤ F by omega) (show 0 ≤ 2 * e'.dy by omega)
  rw [Int.mul_add, Int.mul_one] at a0
  have a1 : 2 * e.dy * F - e.dy < e.num y + e.dy := by omega
  have a2 : e'.num y + e'.dy ≤ 2 * e'.dy * F - e'.dy := by omega
  have b1 := Int.mul_lt_mul_of_pos_right a1 (show 0 < e'.dy by omega)
  have b2 := Int.mul_le_mul_of_nonneg_right a2 (show 0 ≤ e.dy by omega)
  have c : (2 * e.dy * F - e.dy) * e'.dy = (2 * e'.dy * F - e'.dy) * e.dy := by grind
  omega
def Dt (a b c : Pt) : Int := cr a b + cr b c + cr c a
theorem pair {a b c : Pt} {y : Int} (ha : small 4000 a) (hb : small 4000 b) (hc : small 4000 c) (hu : up y a = up y c) (hne : up y a ≠ up y b) :
    (0 ≤ Dt a b c → (up y a - up y b) * (fy a b y - fy b c y) ≤ 0) ∧ (Dt a b c ≤ 0 → 0 ≤ (up y a - up y b) * (fy a b y - fy b c y)) := by
  obtain ⟨⟨a1, a2⟩, a3, a4⟩ := ha
  obtain ⟨⟨b1, b2⟩, b3, b4⟩ := hb
  obtain ⟨⟨c1, c2⟩, c3, c4⟩ := hc
  unfold up at hu hne ⊢
  by_cases hy : a.y ≤ y
  · rw [if_pos hy] at hu hne ⊢
    have hcy : c.y ≤ y := Classical.byContradiction fun h => by rw [if_neg h] at hu; cases hu
    have hby : ¬ b.y ≤ y := fun h => by rw [if_pos h] at hne; exact hne rfl
    rw [if_neg hby]
    unfold fy
    rw [if_pos (by omega), if_neg (by omega)]
    have o1 : Ed.ok ⟨a.x, a.y, b.y, b.x - a.x, b.y - a.y, 1⟩ := ⟨⟨⟨by show -32767 ≤ a.x; omega, by show a.x ≤ 32767; omega⟩, ⟨by show -32767 ≤ a.y; omega, by show a.y ≤ 32767; omega⟩, by show b.y ≤ 32767; omega⟩, ⟨by show -65534 ≤ b.x - a.x; omega, by show b.x - a.x ≤ 65534; omega⟩, ⟨by show 1 ≤ b.y - a.y; omega, by show b.y = a.y + (b.y - a.y); omega⟩, .inl rfl⟩
    have o2 : Ed.ok ⟨c.x, c.y, b.y, b.x - c.x, b.y - c.y, -1⟩ := ⟨⟨⟨by show -32767 ≤ c.x; omega, by show c.x ≤ 32767; omega⟩, ⟨by show -32767 ≤ c.y; omega, by show c.y ≤ 32767; omega⟩, by show b.y ≤ 32767; omega⟩, ⟨by show -65534 ≤ b.x - c.x; omega, by show b.x - c.x ≤ 65534; omega⟩, ⟨by show 1 ≤ b.y - c.y; omega, by show b.y = c.y + (b.y - c.y); omega⟩, .inr rfl⟩
    have id1 : (Ed.num ⟨a.x, a.y, b.y, b.x - a.x, b.y - a.y, 1⟩ y + (b.y - a.y)) * (b.y - c.y) - (Ed.num ⟨c.x, c.y, b.y, b.x - c.x, b.y - c.y, -1⟩ y + (b.y - c.y)) * (b.y - a.y) = -((2 * (b.y - y) - 1) * Dt a b c) := by
      unfold Ed.num Dt cr
      grind
    refine ⟨fun hD => ?_, fun hD => ?_⟩
    · have := Int.mul_nonneg (show 0 ≤ 2 * (b.y - y) - 1 by omega) hD
      have := first_mono o1 o2 (y := y) (by show (_ + (b.y - a.y)) * (b.y - c.y) ≤ (_ + (b.y - c.y)) * (b.y - a.y); omega)
      omega
    · have := Int.mul_nonneg (show 0 ≤ 2 * (b.y - y) - 1 by omega) (show 0 ≤ -Dt a b c by omega)
      rw [Int.mul_neg] at this
      have := first_mono o2 o1 (y := y) (by show (_ + (b.y - c.y)) * (b.y - a.y) ≤ (_ + (b.y - a.y)) * (b.y - c.y); omega)
      omega
  · rw [if_neg hy] at hu hne ⊢
    have hcy : ¬ c.y ≤ y := fun h => by rw [if_pos h] at hu; cases hu
    have hby : b.y ≤ y := Classical.byContradiction fun h => by rw [if_neg h] at hne; exact hne rfl
    rw [if_pos hby]
    unfold fy
    rw [if_neg (by omega), if_pos (by omega)]
    have o1 : Ed.ok ⟨b.x, b.y, a.y, a.x - b.x, a.y - b.y, -1⟩ := ⟨⟨⟨by show -32767 ≤ b.x; omega, by show b.x ≤ 32767; omega⟩, ⟨by show -32767 ≤ b.y; omega, by show b.y ≤ 32767; omega⟩, by show a.y ≤ 32767; omega⟩, ⟨by show -65534 ≤ a.x - b.x; omega, by show a.x - b.x ≤ 65534; omega⟩, ⟨by show 1 ≤ a.y - b.y; omega, by show a.y = b.y + (a.y - b.y); omega⟩, .inr rfl⟩
    have o2 : Ed.ok ⟨b.x, b.y, c.y, c.x - b.x, c.y - b.y, 1⟩ := ⟨⟨⟨by show -32767 ≤ b.x; omega, by show b.x ≤ 32767; omega⟩, ⟨by show -32767 ≤ b.y; omega, by show b.y ≤ 32767; omega⟩, by show c.y ≤ 32767; omega⟩, ⟨by show -65534 ≤ c.x - b.x; omega, by show c.x - b.x ≤ 65534; omega⟩, ⟨by show 1 ≤ c.y - b.y; omega, by show c.y = b.y + (c.y - b.y); omega⟩, .inl rfl⟩
    have id1 : (Ed.num ⟨b.x, b.y, a.y, a.x - b.x, a.y - b.y, -1⟩ y + (a.y - b.y)) * (c.y - b.y) - (Ed.num ⟨b.x, b.y, c.y, c.x - b.x, c.y - b.y, 1⟩ y + (c.y - b.y)) * (a.y - b.y) = (2 * (y - b.y) + 1) * Dt a b c := by
      unfold Ed.num Dt cr
      grind
    refine ⟨fun hD => ?_, fun hD => ?_⟩
    · have := Int.mul_nonneg (show 0 ≤ 2 * (y - b.y) + 1 by omega) hD
      have := first_mono o2 o1 (y := y) (by show (_ + (c.y - b.y)) * (a.y - b.y) ≤ (_ + (a.y - b.y)) * (c.y - b.y); omega)
      omega
    · have := Int.mul_nonneg (show 0 ≤ 2 * (y - b.y) + 1 by omega) (show 0 ≤ -Dt a b c by omega)
      rw [Int.mul_neg] at this
      have := first_mono o1 o2 (y := y) (by show (_ + (a.y - b.y)) * (c.y - b.y) ≤ (_ + (c.y - b.y)) * (a.y - b.y); omega)
      omega
theorem up01 (y : Int) (p : Pt) : up y p = 0 ∨ up y p = 1 := by unfold up; split <;> simp
/-! A row of a triangle. -/
def Wt (p q r : Pt) (y : Int) : Int := (up y p - up y q) * fy p q y + (up y q - up y r) * fy q r y + (up y r - up y p) * fy r p y
def wt3 (p q r : Pt) (y x : Int) : Int := (if fy p q y ≤ x then up y p - up y q else 0) + (if fy q r y ≤ x then up y q - up y r else 0) + (if fy r p y ≤ x then up y r - up y p else 0)
def absI (x : Int) : Int := if 0 ≤ x then x else -x
theorem Dt_rot (p q r : Pt) : Dt q r p = Dt p q r := by unfold Dt; omega
theorem Wt_sign {p q r : Pt} (hp : small 4000 p) (hq : small 4000 q) (hr : small 4000 r) (y : Int) : (0 ≤ Dt p q r → Wt p q r y ≤ 0) ∧ (Dt p q r ≤ 0 → 0 ≤ Wt p q r y) := by
  have d1 := Dt_rot p q r
  have d2 := Dt_rot q r p
  have k1 := pair (y := y) hp hq hr
  have k2 := pair (y := y) hq hr hp
  have k3 := pair (y := y) hr hp hq
  rw [d1] at k2
  rw [d2, d1] at k3
  unfold Wt
  rcases up01 y p with e1 | e1 <;> rcases up01 y q with e2 | e2 <;> rcases up01 y r with e3 | e3 <;> simp only [e1, e2, e3] at k1 k2 k3 ⊢ <;> simp at k1 k2 k3 ⊢ <;> first | omega | (constructor <;> intro h <;> omega)
theorem first_M {e : Ed} (h : e.ok) {M y : Int} (hx : -M ≤ e.x ∧ e.x ≤ M) (hx2 : -M ≤ e.x + e.dx ∧ e.x + e.dx ≤ M) (hy : e.y ≤ y ∧ y < e.en) : -M ≤ e.first y ∧ e.first y ≤ M := by
  have f := first_spec h y
  have hd := h.2.2.1
  have en : e.num y = 2 * e.dy * e.x + e.dx * (2 * (y - e.y) + 1) - e.dy := rfl
  have ht : 1 ≤ 2 * (y - e.y) + 1 ∧ 2 * (y - e.y) + 1 ≤ 2 * e.dy := by omega
  rw [en] at f
  generalize 2 * (y - e.y) + 1 = t at *
  have p1 := Int.mul_nonneg (show 0 ≤ e.x + M by omega) (show 0 ≤ 2 * e.dy - t by omega)
  have p2 := Int.mul_nonneg (show 0 ≤ e.x + e.dx + M by omega) (show 0 ≤ t by omega)
  have p3 := Int.mul_nonneg (show 0 ≤ M - e.x by omega) (show 0 ≤ 2 * e.dy - t by omega)
  have p4 := Int.mul_nonneg (show 0 ≤ M - (e.x + e.dx) by omega) (show 0 ≤ t by omega)
  have n1 : 2 * e.dy * e.x + e.dx * t + 2 * e.dy * M = (e.x + M) * (2 * e.dy - t) + (e.x + e.dx + M) * t := by grind
  have n2 : 2 * e.dy * M - (2 * e.dy * e.x + e.dx * t) = (M - e.x) * (2 * e.dy - t) + (M - (e.x + e.dx)) * t := by grind
  generalize e.first y = F at *
  have g1 : 2 * e.dy * (F + M + 1) = 2 * e.dy * F + 2 * e.dy * M + 2 * e.dy := by grind
  have g2 : 2 * e.dy * (M + 1 - F) = 2 * e.dy * M + 2 * e.dy - 2 * e.dy * F := by grind
  refine ⟨?_, ?_⟩
  · refine Int.not_lt.1 fun hc => ?_
    have := Int.mul_le_mul_of_nonneg_left (show F + M + 1 ≤ 0 by omega) (show 0 ≤ 2 * e.dy by omega)
    rw [g1, Int.mul_zero] at this
    omega
  · refine Int.not_lt.1 fun hc => ?_
    have := Int.mul_le_mul_of_nonneg_left (show M + 1 - F ≤ 0 by omega) (show 0 ≤ 2 * e.dy by omega)
    rw [g2, Int.mul_zero] at this
    omega
theorem fy_in {a b : Pt} (ha : small 4000 a) (hb : small 4000 b) {y : Int} (hne : up y a ≠ up y b) : -8192 ≤ fy a b y ∧ fy a b y ≤ 8192 := by
  obtain ⟨⟨a1, a2⟩, a3, a4⟩ := ha
  obtain ⟨⟨b1, b2⟩, b3, b4⟩ := hb
  unfold up at hne
  unfold fy
  by_cases hy : a.y ≤ y
  · rw [if_pos hy] at hne
    have hby : ¬ b.y ≤ y := fun h => by rw [if_pos h] at hne; exact hne rfl
    rw [if_pos (by omega)]
    have o1 : Ed.ok ⟨a.x, a.y, b.y, b.x - a.x, b.y - a.y, 1⟩ := ⟨⟨⟨by show -32767 ≤ a.x; omega, by show a.x ≤ 32767; omega⟩, ⟨by show -32767 ≤ a.y; omega, by show a.y ≤ 32767; omega⟩, by show b.y ≤ 32767; omega⟩, ⟨by show -65534 ≤ b.x - a.x; omega, by show b.x - a.x ≤ 65534; omega⟩, ⟨by show 1 ≤ b.y - a.y; omega, by show b.y = a.y + (b.y - a.y); omega⟩, .inl rfl⟩
    have := first_M o1 (M := 4000) (y := y) ⟨a1, a2⟩ ⟨by show -4000 ≤ a.x + (b.x - a.x); omega, by show a.x + (b.x - a.x) ≤ 4000; omega⟩ ⟨hy, by show y < b.y; omega⟩
    omega
  · rw [if_neg hy] at hne
    have hby : b.y ≤ y := Classical.byContradiction fun h => by rw [if_neg h] at hne; exact hne rfl
    rw [if_neg (by omega)]
    have o1 : Ed.ok ⟨b.x, b.y, a.y, a.x - b.x, a.y - b.y, -1⟩ := ⟨⟨⟨by show -32767 ≤ b.x; omega, by show b.x ≤ 32767; omega⟩, ⟨by show -32767 ≤ b.y; omega, by show b.y ≤ 32767; omega⟩, by show a.y ≤ 32767; omega⟩, ⟨by show -65534 ≤ a.x - b.x; omega, by show a.x - b.x ≤ 65534; omega⟩, ⟨by show 1 ≤ a.y - b.y; omega, by show a.y = b.y + (a.y - b.y); omega⟩, .inr rfl⟩
    have := first_M o1 (M := 4000) (y := y) ⟨b1, b2⟩ ⟨by show -4000 ≤ b.x + (a.x - b.x); omega, by show b.x + (a.x - b.x) ≤ 4000; omega⟩ ⟨hby, by show y < a.y; omega⟩
    omega
theorem two {F F' s : Int} (h : -8192 ≤ F ∧ F ≤ 8192) (h' : -8192 ≤ F' ∧ F' ≤ 8192) (hs : s = 1 ∨ s = -1) {w : Int → Int} (hw : ∀ x, w x = (if F ≤ x then s else 0) + (if F' ≤ x then -s else 0)) :
    sumR (fun x => b2i (decide (w x ≠ 0))) (-8192) 16384 = absI (s * (F - F')) := by
  have run : ∀ a b : Int, -8192 ≤ a → a ≤ b → b ≤ 8192 → sumR (fun x => b2i (decide (a ≤ x ∧ x < b))) (-8192) 16384 = b - a := fun a b h1 h2 h3 => by
    rw [sumR_run a b (-8192) h2]
    split
    · omega
    · split
      · omega
      · repeat' split
        all_goals omega
  by_cases hle : F ≤ F'
  · rw [sumR_congr (g := fun x => b2i (decide (F ≤ x ∧ x < F'))) _ (fun x _ _ => by
      congr 1
      rw [Bool.eq_iff_iff, decide_eq_true_iff, decide_eq_true_iff, hw]
      split <;> split <;> omega), run F F' h.1 hle h'.2]
    unfold absI
    rcases hs with rfl | rfl <;> split <;> omega
  · rw [sumR_congr (g := fun x => b2i (decide (F' ≤ x ∧ x < F))) _ (fun x _ _ => by
      congr 1
      rw [Bool.eq_iff_iff, decide_eq_true_iff, decide_eq_true_iff, hw]
      split <;> split <;> omega), run F' F h'.1 (by omega) h.2]
    unfold absI
    rcases hs with rfl | rfl <;> split <;> omega
theorem row_cnt {p q r : Pt} (hp : small 4000 p) (hq : small 4000 q) (hr : small 4000 r) (y : Int) : sumR (fun x => b2i (decide (wt3 p q r y x ≠ 0))) (-8192) 16384 = absI (Wt p q r y) := by
  have b1 := fy_in (y := y) hp hq
  have b2 := fy_in (y := y) hq hr
  have b3 := fy_in (y := y) hr hp
  have none : ∀ w : Int → Int, (∀ x, w x = 0) → sumR (fun x => b2i (decide (w x ≠ 0))) (-8192) 16384 = 0 := fun w hw => (sumR_congr (g := fun _ => 0) _ (fun x _ _ => by rw [hw]; rfl)).trans (sumR_zero _ _)
  have e : ∀ x, wt3 p q r y x = (if fy p q y ≤ x then up y p - up y q else 0) + (if fy q r y ≤ x then up y q - up y r else 0) + (if fy r p y ≤ x then up y r - up y p else 0) := fun _ => rfl
  have eW : Wt p q r y = (up y p - up y q) * fy p q y + (up y q - up y r) * fy q r y + (up y r - up y p) * fy r p y := rfl
  generalize wt3 p q r y = w at *
  rw [eW]
  clear eW
  generalize fy p q y = f1 at *
  generalize fy q r y = f2 at *
  generalize fy r p y = f3 at *
  rcases up01 y p with e1 | e1 <;> rcases up01 y q with e2 | e2 <;> rcases up01 y r with e3 | e3 <;> simp only [e1, e2, e3] at b1 b2 b3 e ⊢
  · rw [none w (fun x => by rw [e]; split <;> split <;> split <;> rfl)]; simp [absI]
  · rw [two (s := -1) (b2 (by decide)) (b3 (by decide)) (.inr rfl) (fun x => by rw [e]; split <;> split <;> split <;> omega)]; congr 1; omega
  · rw [two (s := -1) (b1 (by decide)) (b2 (by decide)) (.inr rfl) (fun x => by rw [e]; split <;> split <;> split <;> omega)]; congr 1; omega
  · rw [two (s := -1) (b1 (by decide)) (b3 (by decide)) (.inr rfl) (fun x => by rw [e]; split <;> split <;> split <;> omega)]; congr 1; omega
  · rw [two (s := 1) (b1 (by decide)) (b3 (by decide)) (.inl rfl) (fun x => by rw [e]; split <;> split <;> split <;> omega)]; congr 1; omega
  · rw [two (s := 1) (b1 (by decide)) (b2 (by decide)) (.inl rfl) (fun x => by rw [e]; split <;> split <;> split <;> omega)]; congr 1; omega
  · rw [two (s := 1) (b2 (by decide)) (b3 (by decide)) (.inl rfl) (fun x => by rw [e]; split <;> split <;> split <;> omega)]; congr 1; omega
  · rw [none w (fun x => by rw [e]; split <;> split <;> split <;> rfl)]; simp [absI]
/-! All rows. -/
theorem sumR_N (f : Int → Int) (lo : Int) : ∀ n : Nat, sumR f lo n = sumN (fun j => f (lo + j)) n
  | 0 => rfl
  | n + 1 => by
    show sumR f lo n + f (lo + n) = sumN (fun j => f (lo + j)) n + f (lo + n)
    rw [sumR_N f lo n]
theorem sumR_sl (φ : Int → Ed → Int) (lo : Int) (n : Nat) : ∀ L : List Ed, sumR (fun y => sl (φ y) L) lo n = sl (fun e => sumR (fun y => φ y e) lo n) L
  | [] => sumR_zero lo n
  | e :: L => by
    show sumR (fun y => φ y e + sl (φ y) L) lo n = _ + _
    rw [sumR_add (fun y => φ y e) (fun y => sl (φ y) L), sumR_sl φ lo n L]
theorem wgt_rows {e : Ed} (h : e.ok) (hy : -8192 ≤ e.y ∧ e.en ≤ 8192) : sumR (fun y => wgt y e) (-8192) 16384 = e.s * rows e e.dy.toNat := by
  have hd := h.2.2.1
  rw [sumR_N]
  have e1 : sumN (fun j : Nat => wgt (-8192 + (j : Int)) e) 16384 = sumN (fun j => if (e.y + 8192).toNat ≤ j ∧ j < (e.y + 8192).toNat + e.dy.toNat then e.s * e.first (-8192 + (j : Int)) else 0) 16384 := sumN_congr fun j _ => by
    unfold wgt Ed.on
    simp only [decide_eq_true_eq]
    by_cases hc : e.y ≤ -8192 + (j : Int) ∧ -8192 + (j : Int) < e.en
    · rw [if_pos hc, if_pos (by omega)]
    · rw [if_neg hc, if_neg (by omega)]
  rw [e1, strip (fun j => e.s * e.first (-8192 + (j : Int)))]
  rw [show min 16384 ((e.y + 8192).toNat + e.dy.toNat) - (e.y + 8192).toNat = e.dy.toNat by omega, sumN_mul]
  congr 1
  exact sumN_congr fun k _ => by rw [show -8192 + (((e.y + 8192).toNat + k : Nat) : Int) = e.y + k by omega]
structure IsTri (g : Lns) (p q r : Pt) : Prop where
  n : g.n = 1
  m : (g.f 0).n = 3
  p0 : (g.f 0).f 0 = p
  p1 : (g.f 0).f 1 = q
  p2 : (g.f 0).f 2 = r
theorem IsTri.E {g : Lns} {p q r : Pt} (h : IsTri g p q r) : g.E = (mkE p q ++ mkE q r) ++ mkE r p := by
  unfold Lns.E
  rw [h.n]
  show [] ++ (g.f 0).ed (g.f 0).n = _
  rw [h.m]
  show [] ++ (((([] : List Ed) ++ mkE ((g.f 0).f 0) ((g.f 0).f ((0 + 1) % (g.f 0).n))) ++ mkE ((g.f 0).f 1) ((g.f 0).f ((1 + 1) % (g.f 0).n))) ++ mkE ((g.f 0).f 2) ((g.f 0).f ((2 + 1) % (g.f 0).n))) = _
  rw [h.m]
  show [] ++ (((([] : List Ed) ++ mkE ((g.f 0).f 0) ((g.f 0).f 1)) ++ mkE ((g.f 0).f 1) ((g.f 0).f 2)) ++ mkE ((g.f 0).f 2) ((g.f 0).f 0)) = _
  rw [h.p0, h.p1, h.p2]
  rfl
theorem IsTri.fin {g : Lns} {p q r : Pt} (h : IsTri g p q r) (hp : small 4000 p) (hq : small 4000 q) (hr : small 4000 r) : g.fin := by
  have up : ∀ {p : Pt}, small 4000 p → small 32767 p := fun h => ⟨⟨by have := h.1.1; omega, by have := h.1.2; omega⟩, by have := h.2.1; omega, by have := h.2.2; omega⟩
  refine ⟨by rw [h.n]; decide, fun i hi => ?_⟩
  obtain rfl : i = 0 := by have := h.n; omega
  refine ⟨by rw [h.m]; decide, fun i hi => ?_⟩
  rw [h.m] at hi
  match i, hi with
  | 0, _ => rw [h.p0]; exact up hp
  | 1, _ => rw [h.p1]; exact up hq
  | 2, _ => rw [h.p2]; exact up hr
theorem IsTri.len {g : Lns} {p q r : Pt} (h : IsTri g p q r) : g.E.length ≤ 3 := by
  rw [h.E, List.length_append, List.length_append]
  have := mkE_len p q
  have := mkE_len q r
  have := mkE_len r p
  omega
theorem mkE_y {a b : Pt} (ha : small 4000 a) (hb : small 4000 b) : ∀ e ∈ mkE a b, -8192 ≤ e.y ∧ e.en ≤ 8192 := by
  intro e he
  obtain ⟨_, a3, a4⟩ := ha
  obtain ⟨_, b3, b4⟩ := hb
  unfold mkE at he
  split at he
  · rw [List.mem_singleton.1 he]
    exact ⟨show -8192 ≤ a.y by omega, show b.y ≤ 8192 by omega⟩
  · split at he
    · rw [List.mem_singleton.1 he]
      exact ⟨show -8192 ≤ b.y by omega, show a.y ≤ 8192 by omega⟩
    · exact (List.not_mem_nil he).elim
theorem tri {g : Lns} {p q r : Pt} (h : IsTri g p q r) (hp : small 4000 p) (hq : small 4000 q) (hr : small 4000 r) :
    ∃ S : Int, (areaL (fillL ins1 g) = S ∨ areaL (fillL ins1 g) = -S) ∧ -lnH g g.n ≤ 2 * S + lnAr g g.n ∧ 2 * S + lnAr g g.n ≤ lnH g g.n := by
  have hf := h.fin hp hq hr
  have hok := Lns.ed_ok hf g.n (Nat.le_refl _)
  have hok : ∀ e ∈ g.E, e.ok := hok
  have hyy : ∀ e ∈ g.E, -8192 ≤ e.y ∧ e.en ≤ 8192 := fun e he => by
    rw [h.E] at he
    rcases List.mem_append.1 he with he | he
    · rcases List.mem_append.1 he with he | he
      · exact mkE_y hp hq e he
      · exact mkE_y hq hr e he
    · exact mkE_y hr hp e he
  have hw : ∀ y x, wE (eI g.E) g.E.length y x = wt3 p q r y x := fun y x => by
    have : wE (eI g.E) g.E.length y x = sl (cellE y x) g.E := sl_eI (cellE y x) g.E
    rw [this, h.E, sl_app, sl_app, cell_mkE, cell_mkE, cell_mkE]
    rfl
  have hW : ∀ y, sl (wgt y) g.E = Wt p q r y := fun y => by
    rw [h.E, sl_app, sl_app, wgt_mkE, wgt_mkE, wgt_mkE]
    rfl
  have hc : areaL (fillL ins1 g) = sumR (fun y => absI (Wt p q r y)) (-8192) 16384 := by
    rw [fill_area]
    unfold cnt
    refine sumR_congr _ fun y y1 y2 => ?_
    rw [← row_cnt hp hq hr y]
    refine sumR_congr _ fun x x1 x2 => ?_
    congr 1
    unfold chi ins1
    rw [decide_eq_true (show (-8192 ≤ y ∧ y < 8192) ∧ -8192 ≤ x ∧ x < 8192 by omega), Bool.true_and, hw]
  have hS : sumR (fun y => Wt p q r y) (-8192) 16384 = sl (fun e => e.s * rows e e.dy.toNat) g.E := by
    rw [sumR_congr (g := fun y => sl (wgt y) g.E) _ (fun y _ _ => (hW y).symm), sumR_sl wgt]
    exact sl_congr fun e he => wgt_rows (hok e he) (hyy e he)
  have a1 : sl arE g.E = -lnAr g g.n := ar_lns g g.n
  have a3 : sl (·.dy) g.E = lnH g g.n := dy_lns g g.n
  have sneg : ∀ (φ : Ed → Int) (L : List Ed), sl (fun e => -φ e) L = -sl φ L := fun φ L => by
    induction L with
    | nil => rfl
    | cons e L ih => simp only [sl, ih]; omega
  have smul : ∀ (φ : Ed → Int) (L : List Ed), sl (fun e => 2 * φ e) L = 2 * sl φ L := fun φ L => by
    induction L with
    | nil => rfl
    | cons e L ih => simp only [sl, ih]; omega
  have key : ∀ e ∈ g.E, -e.dy ≤ 2 * (e.s * rows e e.dy.toNat) + -arE e ∧ 2 * (e.s * rows e e.dy.toNat) + -arE e ≤ e.dy := fun e he => by
    have r := edge_rows (hok e he)
    unfold arE
    rcases (hok e he).2.2.2 with q | q
    · rw [q]; simp only [Int.one_mul]; omega
    · rw [q]; simp only [Int.neg_mul, Int.one_mul]; omega
  have k1 := sl_le (L := g.E) (φ := fun e => -e.dy) (ψ := fun e => 2 * (e.s * rows e e.dy.toNat) + -arE e) fun e he => (key e he).1
  have k2 := sl_le (L := g.E) (φ := fun e => 2 * (e.s * rows e e.dy.toNat) + -arE e) (ψ := (·.dy)) fun e he => (key e he).2
  rw [sneg (·.dy), a3, sl_add (fun e => 2 * (e.s * rows e e.dy.toNat)) (fun e => -arE e), smul (fun e => e.s * rows e e.dy.toNat), sneg arE, a1] at k1
  rw [a3, sl_add (fun e => 2 * (e.s * rows e e.dy.toNat)) (fun e => -arE e), smul (fun e => e.s * rows e e.dy.toNat), sneg arE, a1] at k2
  refine ⟨sl (fun e => e.s * rows e e.dy.toNat) g.E, ?_, by omega, by omega⟩
  rw [hc, ← hS]
  have neg : ∀ n : Nat, sumR (fun y => -Wt p q r y) (-8192) n = -sumR (fun y => Wt p q r y) (-8192) n := fun n => by
    induction n with
    | zero => rfl
    | succ n ih =>
      show sumR (fun y => -Wt p q r y) (-8192) n + -Wt p q r (-8192 + n) = -(sumR (fun y => Wt p q r y) (-8192) n + Wt p q r (-8192 + n))
      rw [ih]; omega
  rcases Int.le_total 0 (Dt p q r) with hD | hD
  · refine .inr ?_
    rw [← neg]
    refine sumR_congr _ fun y _ _ => ?_
    have := (Wt_sign hp hq hr y).1 hD
    unfold absI
    split <;> omega
  · refine .inl ?_
    refine sumR_congr _ fun y _ _ => ?_
    have := (Wt_sign hp hq hr y).2 hD
    unfold absI
    rw [if_pos this]
end Go.Proofs.Ytfjbjbmbdadmhaa.Flu
