/- Turning and mirroring rasters: plain laws, without the program. -/
import Derived.Test.YtmedlibkhlgdjaaRas
namespace Go.Proofs.Ytmedlibkhlgdjaa.Rap
open Go.RowKit Sx Num Aff Ras
/-- The pixel in column x of row y. -/
def A (g : Grid) (x y : Int) : Int := g.pix (y * g.w + x).toNat
structure Same (a b : Grid) : Prop where
  w : a.w = b.w
  h : a.h = b.h
  len : a.len = b.len
  px : ∀ x y, 0 ≤ x → x < a.w → 0 ≤ y → y < a.h → A a x y = A b x y
theorem out_ok {g : BuildG} (hs : (1 ≤ g.w ∧ g.w ≤ 1024) ∧ 1 ≤ g.h ∧ g.h ≤ 1024) : g.out.ok :=
  ⟨hs, by show (((g.w * g.h).toNat : Nat) : Int) = g.w * g.h; exact Int.toNat_of_nonneg (Int.mul_nonneg (by omega) (by omega))⟩
theorem A_out (W H : Int) (c : Cl) {x y : Int} (hx : 0 ≤ x) (hx' : x < W) (hy : 0 ≤ y) : A (BuildG.out ⟨W, H, c⟩) x y = clV c x y := by
  have := div_mod_at (w := W) (x := x) (y := y) (by omega) hx hx' hy
  show clV c (((y * W + x).toNat : Int) % W) (((y * W + x).toNat : Int) / W) = _
  rw [this.1, this.2]
theorem same_B {a b : Grid} (ha : a.ok) (h : Same a b) : sameB a b = true := by
  obtain ⟨h1, h2, h3, h4⟩ := h
  obtain ⟨⟨⟨w1, w2⟩, p1, p2⟩, hl⟩ := ha
  unfold sameB
  rw [decide_eq_true h1, decide_eq_true h2, decide_eq_true h3, Bool.true_and, Bool.true_and, Bool.true_and]
  refine eqAll_iff.2 fun i hi => ?_
  have hi2 : (i : Int) < a.w * a.h := by omega
  have m1 := Int.emod_nonneg (i : Int) (b := a.w) (by omega)
  have m2 := Int.emod_lt_of_pos (i : Int) (b := a.w) (by omega)
  have d1 := Int.ediv_nonneg (Int.natCast_nonneg i) (show 0 ≤ a.w by omega)
  have d2 : (i : Int) / a.w < a.h := Int.ediv_lt_of_lt_mul (by omega) (by rw [Int.mul_comm]; exact hi2)
  have e : (i : Int) / a.w * a.w + (i : Int) % a.w = i := by
    have := Int.emod_add_mul_ediv (i : Int) a.w
    rw [Int.mul_comm] at this
    omega
  have := h4 _ _ m1 m2 d1 d2
  unfold A at this
  rw [← h1, e, Int.toNat_natCast] at this
  exact this
theorem turn_dims (g : Grid) (k : Int) : (turnG g k).w = (if k % 4 = 1 ∨ k % 4 = 3 then g.h else g.w) ∧ (turnG g k).h = (if k % 4 = 1 ∨ k % 4 = 3 then g.w else g.h) := by
  unfold turnG
  have : k % 4 = 0 ∨ k % 4 = 1 ∨ k % 4 = 2 ∨ k % 4 = 3 := by omega
  rcases this with h | h | h | h <;> simp [h, BuildG.out]
theorem turn_ok {g : Grid} (hg : g.ok) (k : Int) : (turnG g k).ok := by
  have : k % 4 = 0 ∨ k % 4 = 1 ∨ k % 4 = 2 ∨ k % 4 = 3 := by omega
  unfold turnG
  obtain ⟨⟨hw, hh⟩, hl⟩ := id hg
  rcases this with h | h | h | h <;> simp only [h] <;> first | exact hg | exact out_ok ⟨hh, hw⟩ | exact out_ok ⟨hw, hh⟩
theorem turn_len {g : Grid} (hg : g.ok) (k : Int) : ((turnG g k).len : Int) = g.w * g.h := by
  have h1 := (turn_ok hg k).2
  have h2 := turn_dims g k
  rw [h1, h2.1, h2.2]
  split
  · exact Int.mul_comm _ _
  · rfl
theorem A_eq {g : Grid} {x y x' y' : Int} (hx : x = x') (hy : y = y') : A g x y = A g x' y' := by rw [hx, hy]
theorem T0 {g : Grid} {k : Int} (h : k % 4 = 0) : turnG g k = g := by unfold turnG; simp [h]
theorem T1 {g : Grid} {k : Int} (h : k % 4 = 1) : turnG g k = BuildG.out ⟨g.h, g.w, .t1 g⟩ := by unfold turnG; simp [h]
theorem T2 {g : Grid} {k : Int} (h : k % 4 = 2) : turnG g k = BuildG.out ⟨g.w, g.h, .t2 g⟩ := by unfold turnG; simp [h]
theorem T3 {g : Grid} {k : Int} (h : k % 4 = 3) : turnG g k = BuildG.out ⟨g.h, g.w, .t3 g⟩ := by unfold turnG; simp [h]
theorem A1 (g : Grid) {x y : Int} (hx : 0 ≤ x) (hx' : x < g.h) (hy : 0 ≤ y) : A (BuildG.out ⟨g.h, g.w, .t1 g⟩) x y = A g y (g.h - 1 - x) := by rw [A_out _ _ _ hx hx' hy]; rfl
theorem A2 (g : Grid) {x y : Int} (hx : 0 ≤ x) (hx' : x < g.w) (hy : 0 ≤ y) : A (BuildG.out ⟨g.w, g.h, .t2 g⟩) x y = A g (g.w - 1 - x) (g.h - 1 - y) := by
  rw [A_out _ _ _ hx hx' hy]
  simp only [A, clV, clI]
  congr 2
  omega
theorem A3 (g : Grid) {x y : Int} (hx : 0 ≤ x) (hx' : x < g.h) (hy : 0 ≤ y) : A (BuildG.out ⟨g.h, g.w, .t3 g⟩) x y = A g (g.w - 1 - y) x := by
  rw [A_out _ _ _ hx hx' hy]
  simp only [A, clV, clI]
  congr 2
  omega
theorem AM (g : Grid) {x y : Int} (hx : 0 ≤ x) (hx' : x < g.w) (hy : 0 ≤ y) : A (mirG g) x y = A g (g.w - 1 - x) y := by
  unfold mirG
  rw [A_out _ _ _ hx hx' hy]
  simp only [A, clV, clI]
  congr 2
  omega
theorem turn_add {g : Grid} (hg : g.ok) (j k : Int) : Same (turnG (turnG g j) k) (turnG g (j + k)) := by
  have l1 := turn_len (turn_ok hg j) k
  have l2 := turn_len hg (j + k)
  have l3 := turn_len hg j
  have l4 := (turn_ok hg j).2
  have hj : j % 4 = 0 ∨ j % 4 = 1 ∨ j % 4 = 2 ∨ j % 4 = 3 := by omega
  have hk : k % 4 = 0 ∨ k % 4 = 1 ∨ k % 4 = 2 ∨ k % 4 = 3 := by omega
  have hl : (turnG (turnG g j) k).len = (turnG g (j + k)).len := by omega
  clear l1 l2 l3 l4
  rcases hj with h | h | h | h
  · rw [T0 h] at *
    rcases hk with h' | h' | h' | h'
    · rw [T0 h', T0 (show (j + k) % 4 = 0 by omega)] at *
      exact ⟨rfl, rfl, hl, fun _ _ _ _ _ _ => rfl⟩
    · rw [T1 h', T1 (show (j + k) % 4 = 1 by omega)] at *
      exact ⟨rfl, rfl, hl, fun _ _ _ _ _ _ => rfl⟩
    · rw [T2 h', T2 (show (j + k) % 4 = 2 by omega)] at *
      exact ⟨rfl, rfl, hl, fun _ _ _ _ _ _ => rfl⟩
    · rw [T3 h', T3 (show (j + k) % 4 = 3 by omega)] at *
      exact ⟨rfl, rfl, hl, fun _ _ _ _ _ _ => rfl⟩
  · rw [T1 h] at *
    rcases hk with h' | h' | h' | h'
    · rw [T0 h', T1 (show (j + k) % 4 = 1 by omega)] at *
      exact ⟨rfl, rfl, hl, fun _ _ _ _ _ _ => rfl⟩
    · rw [T1 h', T2 (show (j + k) % 4 = 2 by omega)] at *
      refine ⟨rfl, rfl, hl, fun x y hx hx' hy hy' => ?_⟩
      have hx2 : x < g.w := hx'
      have hy2 : y < g.h := hy'
      have e1 : A _ x y = A (BuildG.out ⟨g.h, g.w, .t1 g⟩) y (g.w - 1 - x) := A1 (BuildG.out ⟨g.h, g.w, .t1 g⟩) hx (show x < g.w by omega) hy
      rw [e1]
      rw [A1 g (x := y) (y := (g.w - 1 - x)) (by omega) (by omega) (by omega)]
      have e3 := A2 g hx hx2 hy
      rw [e3]
      all_goals exact A_eq (by omega) (by omega)
    · rw [T2 h', T3 (show (j + k) % 4 = 3 by omega)] at *
      refine ⟨rfl, rfl, hl, fun x y hx hx' hy hy' => ?_⟩
      have hx2 : x < g.h := hx'
      have hy2 : y < g.w := hy'
      have e1 : A _ x y = A (BuildG.out ⟨g.h, g.w, .t1 g⟩) (g.h - 1 - x) (g.w - 1 - y) := A2 (BuildG.out ⟨g.h, g.w, .t1 g⟩) hx (show x < g.h by omega) hy
      rw [e1]
      rw [A1 g (x := (g.h - 1 - x)) (y := (g.w - 1 - y)) (by omega) (by omega) (by omega)]
      have e3 := A3 g hx hx2 hy
      rw [e3]
      all_goals exact A_eq (by omega) (by omega)
    · rw [T3 h', T0 (show (j + k) % 4 = 0 by omega)] at *
      refine ⟨rfl, rfl, hl, fun x y hx hx' hy hy' => ?_⟩
      have hx2 : x < g.w := hx'
      have hy2 : y < g.h := hy'
      have e1 : A _ x y = A (BuildG.out ⟨g.h, g.w, .t1 g⟩) (g.h - 1 - y) x := A3 (BuildG.out ⟨g.h, g.w, .t1 g⟩) hx (show x < g.w by omega) hy
      rw [e1]
      rw [A1 g (x := (g.h - 1 - y)) (y := x) (by omega) (by omega) (by omega)]
      all_goals exact A_eq (by omega) (by omega)
  · rw [T2 h] at *
    rcases hk with h' | h' | h' | h'
    · rw [T0 h', T2 (show (j + k) % 4 = 2 by omega)] at *
      exact ⟨rfl, rfl, hl, fun _ _ _ _ _ _ => rfl⟩
    · rw [T1 h', T3 (show (j + k) % 4 = 3 by omega)] at *
      refine ⟨rfl, rfl, hl, fun x y hx hx' hy hy' => ?_⟩
      have hx2 : x < g.h := hx'
      have hy2 : y < g.w := hy'
      have e1 : A _ x y = A (BuildG.out ⟨g.w, g.h, .t2 g⟩) y (g.h - 1 - x) := A1 (BuildG.out ⟨g.w, g.h, .t2 g⟩) hx (show x < g.h by omega) hy
      rw [e1]
      rw [A2 g (x := y) (y := (g.h - 1 - x)) (by omega) (by omega) (by omega)]
      have e3 := A3 g hx hx2 hy
      rw [e3]
      all_goals exact A_eq (by omega) (by omega)
    · rw [T2 h', T0 (show (j + k) % 4 = 0 by omega)] at *
      refine ⟨rfl, rfl, hl, fun x y hx hx' hy hy' => ?_⟩
      have hx2 : x < g.w := hx'
      have hy2 : y < g.h := hy'
      have e1 : A _ x y = A (BuildG.out ⟨g.w, g.h, .t2 g⟩) (g.w - 1 - x) (g.h - 1 - y) := A2 (BuildG.out ⟨g.w, g.h, .t2 g⟩) hx (show x < g.w by omega) hy
      rw [e1]
      rw [A2 g (x := (g.w - 1 - x)) (y := (g.h - 1 - y)) (by omega) (by omega) (by omega)]
      all_goals exact A_eq (by omega) (by omega)
    · rw [T3 h', T1 (show (j + k) % 4 = 1 by omega)] at *
      refine ⟨rfl, rfl, hl, fun x y hx hx' hy hy' => ?_⟩
      have hx2 : x < g.h := hx'
      have hy2 : y < g.w := hy'
      have e1 : A _ x y = A (BuildG.out ⟨g.w, g.h, .t2 g⟩) (g.w - 1 - y) x := A3 (BuildG.out ⟨g.w, g.h, .t2 g⟩) hx (show x < g.h by omega) hy
      rw [e1]
      rw [A2 g (x := (g.w - 1 - y)) (y := x) (by omega) (by omega) (by omega)]
      have e3 := A1 g hx hx2 hy
      rw [e3]
      all_goals exact A_eq (by omega) (by omega)
  · rw [T3 h] at *
    rcases hk with h' | h' | h' | h'
    · rw [T0 h', T3 (show (j + k) % 4 = 3 by omega)] at *
      exact ⟨rfl, rfl, hl, fun _ _ _ _ _ _ => rfl⟩
    · rw [T1 h', T0 (show (j + k) % 4 = 0 by omega)] at *
      refine ⟨rfl, rfl, hl, fun x y hx hx' hy hy' => ?_⟩
      have hx2 : x < g.w := hx'
      have hy2 : y < g.h := hy'
      have e1 : A _ x y = A (BuildG.out ⟨g.h, g.w, .t3 g⟩) y (g.w - 1 - x) := A1 (BuildG.out ⟨g.h, g.w, .t3 g⟩) hx (show x < g.w by omega) hy
      rw [e1]
      rw [A3 g (x := y) (y := (g.w - 1 - x)) (by omega) (by omega) (by omega)]
      all_goals exact A_eq (by omega) (by omega)
    · rw [T2 h', T1 (show (j + k) % 4 = 1 by omega)] at *
      refine ⟨rfl, rfl, hl, fun x y hx hx' hy hy' => ?_⟩
      have hx2 : x < g.h := hx'
      have hy2 : y < g.w := hy'
      have e1 : A _ x y = A (BuildG.out ⟨g.h, g.w, .t3 g⟩) (g.h - 1 - x) (g.w - 1 - y) := A2 (BuildG.out ⟨g.h, g.w, .t3 g⟩) hx (show x < g.h by omega) hy
      rw [e1]
      rw [A3 g (x := (g.h - 1 - x)) (y := (g.w - 1 - y)) (by omega) (by omega) (by omega)]
      have e3 := A1 g hx hx2 hy
      rw [e3]
      all_goals exact A_eq (by omega) (by omega)
    · rw [T3 h', T2 (show (j + k) % 4 = 2 by omega)] at *
      refine ⟨rfl, rfl, hl, fun x y hx hx' hy hy' => ?_⟩
      have hx2 : x < g.w := hx'
      have hy2 : y < g.h := hy'
      have e1 : A _ x y = A (BuildG.out ⟨g.h, g.w, .t3 g⟩) (g.h - 1 - y) x := A3 (BuildG.out ⟨g.h, g.w, .t3 g⟩) hx (show x < g.w by omega) hy
      rw [e1]
      rw [A3 g (x := (g.h - 1 - y)) (y := x) (by omega) (by omega) (by omega)]
      have e3 := A2 g hx hx2 hy
      rw [e3]
      all_goals exact A_eq (by omega) (by omega)
theorem mirrors {g : Grid} (hg : g.ok) : Same (mirG (turnG (mirG g) 2)) (turnG g 2) := by
  rw [T2 (g := mirG g) (k := 2) (by decide), T2 (g := g) (k := 2) (by decide)]
  refine ⟨rfl, rfl, rfl, fun x y hx hx' hy hy' => ?_⟩
  have hx2 : x < g.w := hx'
  have hy2 : y < g.h := hy'
  have e1 : A (mirG (BuildG.out ⟨(mirG g).w, (mirG g).h, .t2 (mirG g)⟩)) x y = A (BuildG.out ⟨(mirG g).w, (mirG g).h, .t2 (mirG g)⟩) (g.w - 1 - x) y := AM _ hx hx2 hy
  rw [e1, A2 (mirG g) (x := g.w - 1 - x) (y := y) (by omega) (show g.w - 1 - x < g.w by omega) (by omega)]
  have e2 : A (mirG g) ((mirG g).w - 1 - (g.w - 1 - x)) ((mirG g).h - 1 - y) = A g (g.w - 1 - (g.w - 1 - (g.w - 1 - x))) (g.h - 1 - y) := AM g (show 0 ≤ g.w - 1 - (g.w - 1 - x) by omega) (show g.w - 1 - (g.w - 1 - x) < g.w by omega) (show 0 ≤ g.h - 1 - y by omega)
  rw [e2, A2 g hx hx2 hy]
  all_goals exact A_eq (by omega) (by omega)
theorem mir_okG {g : Grid} (hg : g.ok) : (mirG g).ok := out_ok ⟨hg.1.1, hg.1.2⟩
end Go.Proofs.Ytmedlibkhlgdjaa.Rap
