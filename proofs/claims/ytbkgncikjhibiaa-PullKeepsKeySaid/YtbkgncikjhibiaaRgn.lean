/- Regions: areas, shifts, joining of sorted runs (plain law). -/
import Derived.Test.YtbkgncikjhibiaaRgm
set_option linter.unusedSimpArgs false
set_option linter.unusedVariables false
namespace Go.Proofs.Ytbkgncikjhibiaa.Rgn
open Rga Rgl Rgm
/-! Sums over a square. -/
def sumR (f : Int → Int) (lo : Int) : Nat → Int
  | 0 => 0
  | n + 1 => sumR f lo n + f (lo + n)
theorem sumR_congr {f g : Int → Int} {lo : Int} : ∀ n : Nat, (∀ x, lo ≤ x → x < lo + n → f x = g x) → sumR f lo n = sumR g lo n
  | 0, _ => rfl
  | n + 1, h => by
    unfold sumR
    rw [sumR_congr n (fun x h1 h2 => h x h1 (by omega)), h (lo + n) (by omega) (by omega)]
theorem sumR_add (f g : Int → Int) (lo : Int) : ∀ n : Nat, sumR (fun x => f x + g x) lo n = sumR f lo n + sumR g lo n
  | 0 => rfl
  | n + 1 => by
    unfold sumR
    rw [sumR_add f g lo n]
    omega
theorem sumR_zero (lo : Int) : ∀ n : Nat, sumR (fun _ => 0) lo n = 0
  | 0 => rfl
  | n + 1 => by unfold sumR; rw [sumR_zero lo n]; rfl
def b2i (b : Bool) : Int := if b then 1 else 0
theorem sumR_run (a b lo : Int) (hab : a ≤ b) : ∀ n : Nat, sumR (fun x => b2i (decide (a ≤ x ∧ x < b))) lo n = (if lo + n ≤ a then 0 else if b ≤ lo then 0 else (if b ≤ lo + n then b else lo + n) - (if lo ≤ a then a else lo))
  | 0 => by
    show (0 : Int) = _
    split
    · rfl
    · split
      · rfl
      · split <;> split <;> omega
  | n + 1 => by
    unfold sumR
    rw [sumR_run a b lo hab n]
    have e : (((n + 1 : Nat)) : Int) = n + 1 := by omega
    rw [e]
    by_cases h : a ≤ lo + n ∧ lo + n < b
    · rw [decide_eq_true h]
      show _ + 1 = _
      omega
    · rw [decide_eq_false h]
      show _ + 0 = _
      omega
theorem sumR_at (c v lo : Int) : ∀ n : Nat, sumR (fun y => if y = c then v else 0) lo n = if lo ≤ c ∧ c < lo + n then v else 0
  | 0 => by
    show (0 : Int) = _
    split
    · omega
    · rfl
  | n + 1 => by
    unfold sumR
    rw [sumR_at c v lo n]
    have e : (((n + 1 : Nat)) : Int) = n + 1 := by omega
    rw [e]
    by_cases h1 : lo + n = c
    · rw [if_neg (by omega), if_pos h1, if_pos (by omega)]; omega
    · rw [if_neg h1]
      by_cases h2 : lo ≤ c ∧ c < lo + n
      · rw [if_pos h2, if_pos (by omega)]; omega
      · rw [if_neg h2, if_neg (by omega)]; rfl
/-- The number of cells of a set in the square of all cells. -/
def cnt (χ : Int → Int → Bool) : Int := sumR (fun y => sumR (fun x => b2i (χ y x)) (-8192) 16384) (-8192) 16384
theorem cnt_lin {p q r s : Int → Int → Bool} (h : ∀ y x, b2i (p y x) + b2i (q y x) = b2i (r y x) + b2i (s y x)) : cnt p + cnt q = cnt r + cnt s := by
  unfold cnt
  rw [← sumR_add, ← sumR_add]
  refine sumR_congr _ (fun y _ _ => ?_)
  rw [← sumR_add, ← sumR_add]
  exact sumR_congr _ (fun x _ _ => h y x)
theorem cnt_none : cnt (fun _ _ => false) = 0 := by
  unfold cnt
  have e : ∀ y : Int, sumR (fun x => b2i ((fun _ _ => false : Int → Int → Bool) y x)) (-8192) 16384 = 0 := fun y => (sumR_congr (g := fun _ => 0) _ (fun _ _ _ => rfl)).trans (sumR_zero _ _)
  exact (sumR_congr (g := fun _ => 0) _ (fun y _ _ => e y)).trans (sumR_zero _ _)
theorem cnt_run {r : Rn} (h : okR r) : cnt (inR r) = r.x1 - r.x0 := by
  obtain ⟨⟨⟨h1, h2⟩, ⟨h3, h4⟩, h5, h6⟩, h7⟩ := h
  unfold cnt
  rw [sumR_congr (g := fun y => if y = r.y then r.x1 - r.x0 else 0) _ (fun y _ _ => ?_), sumR_at, if_pos (by omega)]
  by_cases hy : y = r.y
  · rw [sumR_congr (g := fun x => b2i (decide (r.x0 ≤ x ∧ x < r.x1))) _ (fun x _ _ => ?_), sumR_run _ _ _ (by omega)]
    · omega
    · unfold inR
      congr 1
      rw [Bool.eq_iff_iff, decide_eq_true_iff, decide_eq_true_iff]
      omega
  · rw [sumR_congr (g := fun _ => 0) _ (fun x _ _ => ?_), sumR_zero, if_neg hy]
    unfold inR
    rw [decide_eq_false (by omega)]
    rfl
def areaL : List Rn → Int
  | [] => 0
  | r :: L => (r.x1 - r.x0) + areaL L
theorem areaL_app : ∀ (L M : List Rn), areaL (L ++ M) = areaL L + areaL M
  | [], M => by show _ = 0 + _; rw [Int.zero_add]; rfl
  | r :: L, M => by
    show (r.x1 - r.x0) + areaL (L ++ M) = (r.x1 - r.x0) + areaL L + areaL M
    rw [areaL_app L M]; omega
/-- The area is the number of cells. -/
theorem area_cnt : ∀ (L : List Rn), vld L → areaL L = cnt (mem L)
  | [], _ => (cnt_none).symm
  | r :: L, h => by
    have h3 := vld_cons.1 h
    show (r.x1 - r.x0) + areaL L = _
    rw [area_cnt L h3.2.2, ← cnt_run h3.1]
    have e := cnt_lin (p := inR r) (q := mem L) (r := mem (r :: L)) (s := fun _ _ => false) (fun y x => by
      rw [mem_cons]
      by_cases hr : inR r y x = true
      · have : mem L y x = false := by
          rw [← Bool.not_eq_true]
          intro hm
          have := beyond h hm
          have := (inR_iff _ _ _).1 hr
          omega
        rw [hr, this]; rfl
      · rw [Bool.not_eq_true] at hr
        rw [hr]
        show 0 + b2i (mem L y x) = b2i (mem L y x) + 0
        omega)
    rw [e, cnt_none, Int.add_zero]
/-- The areas of union, intersection, difference. -/
theorem areas {A B U I D X : List Rn} (hA : vld A) (hB : vld B) (hU : vld U) (hI : vld I) (hD : vld D) (hX : vld X)
    (eU : ∀ y x, mem U y x = (mem A y x || mem B y x)) (eI : ∀ y x, mem I y x = (mem A y x && mem B y x)) (eD : ∀ y x, mem D y x = (mem A y x && !mem B y x)) (eX : ∀ y x, mem X y x = (mem A y x != mem B y x)) :
    areaL U = areaL A + areaL B - areaL I ∧ areaL D = areaL A - areaL I ∧ areaL X = areaL U - areaL I := by
  rw [area_cnt A hA, area_cnt B hB, area_cnt U hU, area_cnt I hI, area_cnt D hD, area_cnt X hX]
  have h1 : cnt (mem U) + cnt (mem I) = cnt (mem A) + cnt (mem B) := cnt_lin (fun y x => by rw [eU, eI]; cases mem A y x <;> cases mem B y x <;> rfl)
  have h2 : cnt (mem D) + cnt (mem I) = cnt (mem A) + cnt (fun _ _ => false) := cnt_lin (fun y x => by rw [eD, eI]; cases mem A y x <;> cases mem B y x <;> rfl)
  have h3 : cnt (mem X) + cnt (mem I) = cnt (mem U) + cnt (fun _ _ => false) := cnt_lin (fun y x => by rw [eX, eI, eU]; cases mem A y x <;> cases mem B y x <;> rfl)
  rw [cnt_none] at h2 h3
  omega
theorem area_nonneg : ∀ (L : List Rn), (∀ r ∈ L, okR r) → 0 ≤ areaL L ∧ areaL L ≤ 16384 * L.length
  | [], _ => ⟨Int.le_refl _, Int.le_refl _⟩
  | r :: L, h => by
    have h1 := area_nonneg L (fun s hs => h s (List.mem_cons_of_mem _ hs))
    have h2 := h r (List.mem_cons_self ..)
    unfold okR at h2
    show 0 ≤ (r.x1 - r.x0) + areaL L ∧ (r.x1 - r.x0) + areaL L ≤ 16384 * ((L.length + 1 : Nat) : Int)
    omega
/-! Runs by index. -/
def Lf (f : Nat → Rn) (n : Nat) : List Rn := (List.range n).map f
theorem Lf_succ (f : Nat → Rn) (n : Nat) : Lf f (n + 1) = Lf f n ++ [f n] := by
  unfold Lf
  rw [List.range_succ, List.map_append]
  rfl
theorem Lf_len (f : Nat → Rn) (n : Nat) : (Lf f n).length = n := by simp [Lf]
theorem Lf_get (f : Nat → Rn) {n i : Nat} (h : i < n) : rI (Lf f n) i = f i := Rg.rI (g := ⟨n, f⟩) h
theorem Lf_congr {f g : Nat → Rn} {n : Nat} (h : ∀ i, i < n → f i = g i) : Lf f n = Lf g n := List.map_congr_left (fun i hi => h i (List.mem_range.1 hi))
theorem Lf_rI (L : List Rn) : Lf (rI L) L.length = L := Rg.L_of L
theorem add_new {L : List Rn} {r : Rn} (hr : r.x0 < r.x1) (h : ∀ s, L.getLast? = some s → ltR s r) : addR L r = L ++ [r] := by
  rcases last_cases L with rfl | ⟨P, s, rfl⟩
  · rw [add_nil, if_pos hr]; rfl
  · have hs := h s (by simp)
    unfold ltR at hs
    rw [add_snoc, if_pos hr, if_neg (by omega)]
theorem Lf_last {f : Nat → Rn} {n : Nat} {s : Rn} (h : (Lf f n).getLast? = some s) : 0 < n ∧ s = f (n - 1) := by
  cases n with
  | zero => cases h
  | succ n =>
    rw [Lf_succ] at h
    simp at h
    exact ⟨Nat.succ_pos n, h.symm⟩
/-- Adding the next run of a sequence of separate ones. -/
theorem add_next {f : Nat → Rn} {n : Nat} (hr : (f n).x0 < (f n).x1) (h : 0 < n → ltR (f (n - 1)) (f n)) : addR (Lf f n) (f n) = Lf f (n + 1) := by
  rw [Lf_succ]
  refine add_new hr (fun s hs => ?_)
  obtain ⟨h0, rfl⟩ := Lf_last hs
  exact h h0
/-! Shifted runs. -/
def shR (dx dy : Int) (r : Rn) : Rn := ⟨r.y + dy, r.x0 + dx, r.x1 + dx⟩
def shL (dx dy : Int) (L : List Rn) : List Rn := L.map (shR dx dy)
theorem sh_area (dx dy : Int) : ∀ L : List Rn, areaL (shL dx dy L) = areaL L
  | [] => rfl
  | r :: L => by
    show (r.x1 + dx - (r.x0 + dx)) + areaL (shL dx dy L) = (r.x1 - r.x0) + areaL L
    rw [sh_area dx dy L]; omega
theorem sh_back (dx dy : Int) (L : List Rn) : shL (-dx) (-dy) (shL dx dy L) = L := by
  unfold shL
  rw [List.map_map]
  refine (List.map_congr_left (fun r _ => ?_)).trans (List.map_id L)
  show Rn.mk (r.y + dy + -dy) (r.x0 + dx + -dx) (r.x1 + dx + -dx) = r
  rw [show r.y + dy + -dy = r.y by omega, show r.x0 + dx + -dx = r.x0 by omega, show r.x1 + dx + -dx = r.x1 by omega]
theorem sh_vld {dx dy : Int} {L : List Rn} (h : vld L) (hb : ∀ r ∈ L, okR (shR dx dy r)) : vld (shL dx dy L) := by
  refine ⟨fun r hr => ?_, ?_⟩
  · obtain ⟨s, hs, rfl⟩ := List.mem_map.1 hr
    exact hb s hs
  · refine List.pairwise_map.2 (h.2.imp (fun {r s} hrs => ?_))
    unfold ltR at *
    show r.y + dy < s.y + dy ∨ (r.y + dy = s.y + dy ∧ r.x1 + dx < s.x0 + dx)
    omega
/-! Joining sorted runs. -/
/-- Sorted by row and beginning. -/
def le0 (r s : Rn) : Prop := r.y < s.y ∨ (r.y = s.y ∧ r.x0 ≤ s.x0)
structure JoP (f : Nat → Rn) (n i : Nat) (L : List Rn) : Prop where
  hi : i ≤ n
  hL : vld L
  hm : ∀ y x, mem L y x = mem (Lf f i) y x
  ha : ∀ k, i ≤ k → k < n → aft L (f k).y (f k).x0
theorem jo_start (f : Nat → Rn) (n : Nat) : JoP f n 0 [] := ⟨Nat.zero_le _, vld_nil, fun _ _ => rfl, fun _ _ _ => aft_nil⟩
theorem jo_step {f : Nat → Rn} {n i : Nat} {L : List Rn} (ok : ∀ k, k < n → okR (f k)) (srt : ∀ j k, j < k → k < n → le0 (f j) (f k)) (h : JoP f n i L) (hi : i < n) : JoP f n (i + 1) (addR L (f i)) := by
  obtain ⟨v, m, a⟩ := add_ok h.hL (fun _ => ok i hi) (h.ha i (Nat.le_refl _) hi)
  refine ⟨hi, v, fun y x => ?_, fun k hk hkn => a _ _ ?_⟩
  · rw [m, h.hm, Lf_succ, mem_app, mem_one]
  · have := srt i k hk hkn
    unfold le0 at this
    exact this
theorem mem_congr {L M : List Rn} (h : ∀ r, r ∈ L ↔ r ∈ M) (y x : Int) : mem L y x = mem M y x := by
  rw [Bool.eq_iff_iff, mem_iff, mem_iff]
  exact ⟨fun ⟨r, a, b⟩ => ⟨r, (h r).1 a, b⟩, fun ⟨r, a, b⟩ => ⟨r, (h r).2 a, b⟩⟩
end Go.Proofs.Ytbkgncikjhibiaa.Rgn
