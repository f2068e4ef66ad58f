/- Winding numbers by crossings: the plain law of scan. -/
import Derived.Test.YtfjbjbmbdadmhaaFle
set_option linter.unusedSimpArgs false
set_option linter.unusedVariables false
namespace Go.Proofs.Ytfjbjbmbdadmhaa.Flp
open Rga Rgl Fla Flb Flc Fld Fle
def wE (f : Nat → Ed) (n : Nat) (y x : Int) : Int := sumN (fun k => if Ed.on (f k) y = true ∧ (f k).first y ≤ x then (f k).s else 0) n
def tot (f : Nat → Ed) (n : Nat) (y : Int) : Int := sumN (fun k => if Ed.on (f k) y = true then (f k).s else 0) n
def chi (ins : Int → Bool) (f : Nat → Ed) (n : Nat) (y x : Int) : Bool := decide ((-8192 ≤ y ∧ y < 8192) ∧ -8192 ≤ x ∧ x < 8192) && ins (wE f n y x)
/-- The edges that are active below row y, of the first i. -/
def act (f : Nat → Ed) (y : Int) (i : Nat) : List Ed := ((List.range i).map f).filter fun e => decide (y < e.en)
def pre (C : List Cr) (j : Nat) : Int := sumN (fun k => (cI C k).s) j
def ws : List Cr → Int → Int
  | [], _ => 0
  | c :: r, x => (if c.x ≤ x then c.s else 0) + ws r x
def wt : List Cr → Int
  | [] => 0
  | c :: r => c.s + wt r
theorem ws_perm {C D : List Cr} (h : C.Perm D) (x : Int) : ws C x = ws D x := by
  induction h with
  | nil => rfl
  | cons a _ ih => simp only [ws, ih]
  | swap a b l => simp only [ws]; omega
  | trans _ _ h1 h2 => rw [h1, h2]
theorem wt_perm {C D : List Cr} (h : C.Perm D) : wt C = wt D := by
  induction h with
  | nil => rfl
  | cons a _ ih => simp only [wt, ih]
  | swap a b l => simp only [wt]; omega
  | trans _ _ h1 h2 => rw [h1, h2]
theorem ws_app (C D : List Cr) (x : Int) : ws (C ++ D) x = ws C x + ws D x := by
  induction C with
  | nil => simp [ws]
  | cons c C ih => simp only [List.cons_append, ws, ih]; omega
theorem wt_app (C D : List Cr) : wt (C ++ D) = wt C + wt D := by
  induction C with
  | nil => simp [wt]
  | cons c C ih => simp only [List.cons_append, wt, ih]; omega
theorem sumN_head (φ : Nat → Int) : ∀ n, sumN φ (n + 1) = φ 0 + sumN (fun k => φ (k + 1)) n
  | 0 => by simp [sumN]
  | n + 1 => by
    show sumN φ (n + 1) + φ (n + 1) = φ 0 + (sumN (fun k => φ (k + 1)) n + φ (n + 1))
    rw [sumN_head φ n]
    omega
theorem ws_sum (x : Int) : ∀ C : List Cr, ws C x = sumN (fun k => if (cI C k).x ≤ x then (cI C k).s else 0) C.length
  | [] => rfl
  | c :: C => by
    rw [List.length_cons, sumN_head]
    show _ = (if c.x ≤ x then c.s else 0) + sumN (fun k => if (cI C k).x ≤ x then (cI C k).s else 0) C.length
    rw [← ws_sum x C]
    rfl
theorem wt_sum : ∀ C : List Cr, wt C = pre C C.length
  | [] => rfl
  | c :: C => by
    show c.s + wt C = sumN (fun k => (cI (c :: C) k).s) (C.length + 1)
    rw [sumN_head, wt_sum C]
    rfl
theorem ws_cro (f : Nat → Ed) (y x : Int) : ∀ n, ws (cro f y n) x = wE f n y x
  | 0 => rfl
  | n + 1 => by
    show ws (cro f y n ++ _) x = wE f n y x + (if Ed.on (f n) y = true ∧ (f n).first y ≤ x then (f n).s else 0)
    rw [ws_app, ws_cro f y x n]
    congr 1
    by_cases h : Ed.on (f n) y = true
    · rw [if_pos h]
      by_cases h2 : (f n).first y ≤ x
      · rw [if_pos ⟨h, h2⟩]; simp [ws, h2]
      · rw [if_neg (fun hc => h2 hc.2)]; simp [ws, h2]
    · rw [if_neg h, if_neg (fun hc => h hc.1)]; rfl
theorem wt_cro (f : Nat → Ed) (y : Int) : ∀ n, wt (cro f y n) = tot f n y
  | 0 => rfl
  | n + 1 => by
    show wt (cro f y n ++ _) = tot f n y + (if Ed.on (f n) y = true then (f n).s else 0)
    rw [wt_app, wt_cro f y n]
    congr 1
    by_cases h : Ed.on (f n) y = true
    · rw [if_pos h, if_pos h]; simp [wt]
    · rw [if_neg h, if_neg h]; rfl
theorem map_cI (L : List Cr) : (⟨L.length, cI L⟩ : Cg).L = L := by
  unfold Cg.L
  apply List.ext_getElem
  · simp
  · intro i h1 h2
    simp [cI, List.getD_eq_getElem?_getD, List.getElem?_eq_getElem h2]
theorem crs_perm (f : Nat → Ed) (y : Int) (n : Nat) : (crs f y n).Perm (cro f y n) := by
  have := srt_perm ⟨(cro f y n).length, cI (cro f y n)⟩
  rw [map_cI] at this
  exact this
theorem crs_len (f : Nat → Ed) (y : Int) (n : Nat) : (crs f y n).length = (cro f y n).length := (crs_perm f y n).length_eq
theorem crs_sorted (f : Nat → Ed) (y : Int) (n : Nat) {i j : Nat} (hij : i < j) (hj : j < (crs f y n).length) : (cI (crs f y n) i).x ≤ (cI (crs f y n) j).x :=
  Fld.srt_sorted ⟨(cro f y n).length, cI (cro f y n)⟩ hij (by rw [crs_len] at hj; exact hj)
/-! Sums over the active edges. -/
def sl (φ : Ed → Int) : List Ed → Int
  | [] => 0
  | e :: r => φ e + sl φ r
theorem sl_app (φ : Ed → Int) (L M : List Ed) : sl φ (L ++ M) = sl φ L + sl φ M := by
  induction L with
  | nil => simp [sl]
  | cons e L ih => simp only [List.cons_append, sl, ih]; omega
theorem sl_eI (φ : Ed → Int) : ∀ L : List Ed, sumN (fun k => φ (eI L k)) L.length = sl φ L
  | [] => rfl
  | e :: L => by
    rw [List.length_cons, sumN_head]
    show φ e + sumN (fun k => φ (eI L k)) L.length = φ e + sl φ L
    rw [sl_eI φ L]
theorem sl_filter (φ : Ed → Int) (p : Ed → Bool) (h : ∀ e, p e = false → φ e = 0) (L : List Ed) : sl φ (L.filter p) = sl φ L := by
  induction L with
  | nil => rfl
  | cons e L ih =>
    by_cases hp : p e = true
    · rw [List.filter_cons_of_pos hp]; simp only [sl, ih]
    · rw [List.filter_cons_of_neg hp]
      simp only [sl, ih]
      rw [h e (by simpa using hp)]
      omega
theorem sl_map (φ : Ed → Int) (f : Nat → Ed) : ∀ i, sl φ ((List.range i).map f) = sumN (fun k => φ (f k)) i
  | 0 => rfl
  | i + 1 => by
    rw [List.range_succ, List.map_append, sl_app, sl_map φ f i]
    show _ + (φ (f i) + 0) = _ + _
    rw [Int.add_zero]
theorem sumN_zero {φ : Nat → Int} {i : Nat} : ∀ {n : Nat}, i ≤ n → (∀ k, i ≤ k → k < n → φ k = 0) → sumN φ n = sumN φ i
  | 0, h, _ => by rw [Nat.le_zero.1 h]
  | n + 1, h, hz => by
    by_cases hi : i = n + 1
    · rw [hi]
    · show sumN φ n + φ n = _
      rw [sumN_zero (n := n) (by omega) (fun k h1 h2 => hz k h1 (by omega)), hz n (by omega) (by omega)]
      omega
theorem act_sum (g : SoG) {y : Int} {i : Nat} (hi : i ≤ g.n) (up : ∀ k, i ≤ k → k < g.n → y < (srtE g k).y) (φ : Ed → Int) (h : ∀ e, Ed.on e y = false → φ e = 0) :
    sumN (fun k => φ (eI (act (srtE g) y i) k)) (act (srtE g) y i).length = sumN (fun k => φ (g.f k)) g.n := by
  rw [sl_eI, act, sl_filter φ _ (fun e he => h e (decide_eq_false fun hc => by have := of_decide_eq_false he; omega)), sl_map, ← sum_srt g φ]
  refine (sumN_zero hi fun k h1 h2 => h _ (decide_eq_false fun hc => ?_)).symm
  have := up k h1 h2
  omega
/-- The crossings of row y. -/
def row (g : SoG) (y : Int) (i : Nat) : List Cr := crs (eI (act (srtE g) y i)) y (act (srtE g) y i).length
theorem row_ws (g : SoG) {y : Int} {i : Nat} (hi : i ≤ g.n) (up : ∀ k, i ≤ k → k < g.n → y < (srtE g k).y) (x : Int) : ws (row g y i) x = wE g.f g.n y x := by
  unfold row
  rw [ws_perm (crs_perm _ _ _), ws_cro]
  exact act_sum g hi up (fun e => if Ed.on e y = true ∧ e.first y ≤ x then e.s else 0) (fun e he => if_neg (by rw [he]; simp))
theorem row_wt (g : SoG) {y : Int} {i : Nat} (hi : i ≤ g.n) (up : ∀ k, i ≤ k → k < g.n → y < (srtE g k).y) : wt (row g y i) = tot g.f g.n y := by
  unfold row
  rw [wt_perm (crs_perm _ _ _), wt_cro]
  exact act_sum g hi up (fun e => if Ed.on e y = true then e.s else 0) (fun e he => if_neg (by rw [he]; simp))
/-- Between two crossings the winding number is the sum up to the first of them. -/
theorem seg {C : List Cr} (srt : ∀ i j, i < j → j < C.length → (cI C i).x ≤ (cI C j).x) {j : Nat} {x : Int} (hj : j ≤ C.length) (h1 : 0 < j → (cI C (j - 1)).x ≤ x) (h2 : j < C.length → x < (cI C j).x) : ws C x = pre C j := by
  rw [ws_sum, sumN_zero hj (fun k hk hkn => if_neg (by
    have := h2 (by omega)
    by_cases c : k = j
    · rw [c]; omega
    · have := srt j k (by omega) hkn
      omega))]
  refine sumN_congr fun k hk => if_pos ?_
  have := h1 (by omega)
  by_cases c : k = j - 1
  · rw [c]; exact this
  · have := srt k (j - 1) (by omega) (by omega)
    omega
theorem act_succ (f : Nat → Ed) (y : Int) (i : Nat) : act f y (i + 1) = act f y i ++ if y < (f i).en then [f i] else [] := by
  unfold act
  rw [List.range_succ, List.map_append, List.filter_append]
  congr 1
  by_cases h : y < (f i).en <;> simp [h]
theorem act_len (f : Nat → Ed) (y : Int) (i : Nat) : (act f y i).length ≤ i := by
  unfold act
  refine Nat.le_trans (List.length_filter_le _ _) ?_
  simp
theorem map_eI (L : List Ed) : (List.range L.length).map (eI L) = L := by
  apply List.ext_getElem
  · simp
  · intro i h1 h2
    simp [eI, List.getD_eq_getElem?_getD, List.getElem?_eq_getElem h2]
theorem kept_act (f : Nat → Ed) (y : Int) (i : Nat) : kept ⟨(act f (y - 1) i).length, eI (act f (y - 1) i), y⟩ (act f (y - 1) i).length = act f y i := by
  unfold kept
  show ((List.range (act f (y - 1) i).length).map (eI (act f (y - 1) i))).filter _ = _
  rw [map_eI]
  unfold act
  rw [List.filter_filter]
  congr 1
  funext e
  by_cases h : y < e.en
  · have : y - 1 < e.en := by omega
    have h2 : ¬ e.en ≤ y := by omega
    simp [h, this, h2]
  · have h2 : e.en ≤ y := by omega
    simp [h, h2]
theorem act_mem {f : Nat → Ed} {y : Int} {i : Nat} {e : Ed} (h : e ∈ act f y i) : ∃ k, k < i ∧ f k = e := by
  obtain ⟨k, hk, rfl⟩ := List.mem_map.1 (List.mem_filter.1 h).1
  exact ⟨k, List.mem_range.1 hk, rfl⟩
theorem eI_mem {L : List Ed} {k : Nat} (h : k < L.length) : eI L k ∈ L := by
  unfold eI
  rw [List.getD_eq_getElem?_getD, List.getElem?_eq_getElem h]
  exact List.getElem_mem h
theorem act_nil {f : Nat → Ed} {y : Int} {i : Nat} (h : (act f y i).length = 0) {k : Nat} (hk : k < i) : (f k).en ≤ y := by
  refine Int.not_lt.1 fun hc => ?_
  have : f k ∈ act f y i := List.mem_filter.2 ⟨List.mem_map.2 ⟨k, List.mem_range.2 hk, rfl⟩, decide_eq_true hc⟩
  rw [List.length_eq_zero_iff.1 h] at this
  cases this
end Go.Proofs.Ytfjbjbmbdadmhaa.Flp
