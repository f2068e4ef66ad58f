/- The normal of a side: its length, its direction: plain. -/
import Derived.Test.YtfjbjbmbdadmhaaStm
set_option linter.unusedSimpArgs false
set_option linter.unusedVariables false
namespace Go.Proofs.Ytfjbjbmbdadmhaa.Stv
open Go.RowKit Sx Num Aff Con Fla Flg Sta Stb Stc Sto Ste Stm Stl
set_option maxRecDepth 100000
theorem nr_err (a : Int) {l : Int} (h : 1 ≤ l) : -l ≤ 2 * (nr a l * l - a) ∧ 2 * (nr a l * l - a) ≤ l := by
  have := nr_spec a l h
  omega
theorem size_in (x : Int) : (-(sizeI x) ≤ x ∧ x ≤ sizeI x) ∧ 0 ≤ sizeI x := by unfold sizeI; split <;> omega
theorem size_of {x M : Int} (h : -M ≤ x ∧ x ≤ M) : sizeI x ≤ M := by unfold sizeI; split <;> omega
theorem mul_size {e l x : Int} (h : -l ≤ e ∧ e ≤ l) : -(l * sizeI x) ≤ e * x ∧ e * x ≤ l * sizeI x := Fla.mul_in h (size_in x).1
def nv (w : Int) (d : Pt) : Pt := ⟨half w (lenD d) (0 - d.y), half w (lenD d) d.x⟩
theorem nv_dot {w : Int} {d : Pt} (hd : d.x ≠ 0 ∨ d.y ≠ 0) : -(sizeI d.x + sizeI d.y) ≤ 2 * ((nv w d).x * d.x + (nv w d).y * d.y) ∧ 2 * ((nv w d).x * d.x + (nv w d).y * d.y) ≤ sizeI d.x + sizeI d.y := by
  have hl := len_pos hd
  show -(sizeI d.x + sizeI d.y) ≤ 2 * (nr (512 * w * (0 - d.y)) (lenD d) * d.x + nr (512 * w * d.x) (lenD d) * d.y) ∧ 2 * (nr (512 * w * (0 - d.y)) (lenD d) * d.x + nr (512 * w * d.x) (lenD d) * d.y) ≤ sizeI d.x + sizeI d.y
  have e1 := nr_err (512 * w * (0 - d.y)) hl
  have e2 := nr_err (512 * w * d.x) hl
  generalize lenD d = l at *
  generalize nr (512 * w * (0 - d.y)) l = h1 at *
  generalize nr (512 * w * d.x) l = h2 at *
  have m1 := mul_size (x := d.x) e1
  have m2 := mul_size (x := d.y) e2
  have key : l * (2 * (h1 * d.x + h2 * d.y)) = 2 * (h1 * l - 512 * w * (0 - d.y)) * d.x + 2 * (h2 * l - 512 * w * d.x) * d.y := by grind
  have e3 : l * (sizeI d.x + sizeI d.y) = l * sizeI d.x + l * sizeI d.y := Int.mul_add _ _ _
  have e4 : l * -(sizeI d.x + sizeI d.y) = -(l * (sizeI d.x + sizeI d.y)) := Int.mul_neg _ _
  exact ⟨Int.le_of_mul_le_mul_left (a := l) (by omega) (by omega), Int.le_of_mul_le_mul_left (a := l) (by omega) (by omega)⟩
theorem nv_len {w : Int} {d : Pt} (hw : 1 ≤ w ∧ w ≤ 1024) (hd : d.x ≠ 0 ∨ d.y ≠ 0) :
    4 * ((nv w d).x * (nv w d).x + (nv w d).y * (nv w d).y) ≤ (w + 3) * (w + 3) ∧ (4 ≤ w → (w - 3) * (w - 3) ≤ 4 * ((nv w d).x * (nv w d).x + (nv w d).y * (nv w d).y)) := by
  have hl := len_pos hd
  have lx := len_x d
  have ly := len_y d
  have hl2 : 1024 ≤ lenD d := by omega
  have hdd : 0 ≤ dotP d d := by unfold dotP; have := sqn d.x; have := sqn d.y; omega
  have hs := isq_spec (1048576 * dotP d d).toNat
  have eD : (((1048576 * dotP d d).toNat : Nat) : Int) = 1048576 * dotP d d := by omega
  have eL : lenD d = ((isq (1048576 * dotP d d).toNat : Nat) : Int) := rfl
  have s1 : lenD d * lenD d ≤ 1048576 * dotP d d := by
    rw [← eD, eL, ← Int.natCast_mul]
    exact Int.ofNat_le.2 hs.1
  have s2 : 1048576 * dotP d d ≤ (lenD d + 1) * (lenD d + 1) := by
    rw [← eD, eL, show ((isq (1048576 * dotP d d).toNat : Nat) : Int) + 1 = ((isq (1048576 * dotP d d).toNat + 1 : Nat) : Int) from rfl, ← Int.natCast_mul]
    exact Int.ofNat_le.2 (Nat.le_of_lt hs.2)
  clear eL eD hs
  show 4 * (nr (512 * w * (0 - d.y)) (lenD d) * nr (512 * w * (0 - d.y)) (lenD d) + nr (512 * w * d.x) (lenD d) * nr (512 * w * d.x) (lenD d)) ≤ (w + 3) * (w + 3) ∧ (4 ≤ w → (w - 3) * (w - 3) ≤ 4 * (nr (512 * w * (0 - d.y)) (lenD d) * nr (512 * w * (0 - d.y)) (lenD d) + nr (512 * w * d.x) (lenD d) * nr (512 * w * d.x) (lenD d)))
  have e1 := nr_err (512 * w * (0 - d.y)) hl
  have e2 := nr_err (512 * w * d.x) hl
  unfold dotP at s1 s2
  generalize lenD d = l at *
  generalize nr (512 * w * (0 - d.y)) l = h1 at *
  generalize nr (512 * w * d.x) l = h2 at *
  have eA : 2 * (512 * w * (0 - d.y)) = 1024 * w * (0 - d.y) := by grind
  have eB : 2 * (512 * w * d.x) = 1024 * w * d.x := by grind
  generalize hA : 1024 * w * (0 - d.y) = A at *
  generalize hB : 1024 * w * d.x = B at *
  generalize hE1 : 2 * (h1 * l) - A = E1
  generalize hE2 : 2 * (h2 * l) - B = E2
  have b1 : -l ≤ E1 ∧ E1 ≤ l := by omega
  have b2 : -l ≤ E2 ∧ E2 ≤ l := by omega
  generalize hD : d.x * d.x + d.y * d.y = D at *
  have hAB : A * A + B * B = w * w * (1048576 * D) := by rw [← hA, ← hB, ← hD]; grind
  have key : l * l * (4 * (h1 * h1 + h2 * h2)) = A * A + B * B + 2 * (E1 * A + E2 * B) + (E1 * E1 + E2 * E2) := by rw [← hE1, ← hE2]; grind
  have m1 := mul_size (x := A) b1
  have m2 := mul_size (x := B) b2
  have q1 := Fla.mul_in b1 b1
  have q2 := Fla.mul_in b2 b2
  have n1 := sqn E1
  have n2 := sqn E2
  have pA := (size_in A).2
  have pB := (size_in B).2
  have aA : sizeI A * sizeI A = A * A := by unfold sizeI; split <;> grind
  have aB : sizeI B * sizeI B = B * B := by unfold sizeI; split <;> grind
  have eP : l * (sizeI A + sizeI B) = l * sizeI A + l * sizeI B := Int.mul_add _ _ _
  generalize hP : sizeI A + sizeI B = P at *
  have hP2 : P * P ≤ 2 * (A * A + B * B) := by
    have := sqn (sizeI A - sizeI B)
    have e : (sizeI A - sizeI B) * (sizeI A - sizeI B) = 2 * (sizeI A * sizeI A + sizeI B * sizeI B) - P * P := by rw [← hP]; grind
    omega
  have ww := sqn w
  have w1 : w * w * (1048576 * D) ≤ w * w * ((l + 1) * (l + 1)) := Int.mul_le_mul_of_nonneg_left s2 ww
  have w2 : w * w * (l * l) ≤ w * w * (1048576 * D) := Int.mul_le_mul_of_nonneg_left s1 ww
  have c0 := sqn (w * (l + 1))
  have c1 : (w * (l + 1)) * (w * (l + 1)) = w * w * ((l + 1) * (l + 1)) := by grind
  have hwl : 0 ≤ w * (l + 1) := Int.mul_nonneg (by omega) (by omega)
  have hP3 := sq_le' (a := 2 * P) (b := 3 * (w * (l + 1))) (by omega) (by
    have f1 : 2 * P * (2 * P) = 4 * (P * P) := by grind
    have f2 : 3 * (w * (l + 1)) * (3 * (w * (l + 1))) = 9 * ((w * (l + 1)) * (w * (l + 1))) := by grind
    omega)
  have lP : l * (2 * P) ≤ l * (3 * (w * (l + 1))) := Int.mul_le_mul_of_nonneg_left hP3.2 (by omega)
  have g1 : l * (2 * P) = 2 * (l * P) := by grind
  have g2 : l * (3 * (w * (l + 1))) = 3 * (w * (l * l)) + 3 * (w * l) := by grind
  have g3 : w * w * ((l + 1) * (l + 1)) = w * w * (l * l) + 2 * (w * w * l) + w * w := by grind
  have i1 : w * (w * l) ≤ w * (l * l) := Int.mul_le_mul_of_nonneg_left (Int.mul_le_mul_of_nonneg_right (by omega) (by omega)) (by omega)
  have i1' : w * (w * l) = w * w * l := by grind
  have i2 : w * l ≤ l * l := Int.mul_le_mul_of_nonneg_right (by omega) (by omega)
  have i3 : w * w ≤ l * l := Int.mul_le_mul (by omega) (by omega) (by omega) (by omega)
  have ll : 0 < l * l := Int.mul_pos (by omega) (by omega)
  have t1 : l * l * ((w + 3) * (w + 3)) = w * w * (l * l) + 6 * (w * (l * l)) + 9 * (l * l) := by grind
  refine ⟨Int.le_of_mul_le_mul_left (a := l * l) (by omega) ll, fun h4 => Int.le_of_mul_le_mul_left (a := l * l) ?_ ll⟩
  have t2 : l * l * ((w - 3) * (w - 3)) = w * w * (l * l) - 6 * (w * (l * l)) + 9 * (l * l) := by grind
  have t3 : 4 * (l * l) ≤ w * (l * l) := Int.mul_le_mul_of_nonneg_right h4 (by omega)
  have t4 : 1 * l ≤ (w - 3) * l := Int.mul_le_mul_of_nonneg_right (by omega) (by omega)
  have t5 : l * (1 * l) ≤ l * ((w - 3) * l) := Int.mul_le_mul_of_nonneg_left t4 (by omega)
  have t6 : l * ((w - 3) * l) = w * (l * l) - 3 * (l * l) := by grind
  have t7 : l * (1 * l) = l * l := by grind
  omega
/-! A line of two points. -/
structure IsS (l : Li) (a b : Pt) : Prop where
  n : l.n = 2
  p0 : l.f 0 = a
  p1 : l.f 1 = b
  s : l.c = false
def sN (w : Int) : Sty := ⟨w, 0, 0, 16⟩
theorem IsS.clean {l : Li} {a b : Pt} (h : IsS l a b) (hne : ¬ eqPt a b) : clean l = [a, b] := by
  have e1 : dd l.f 1 = [l.f 0] := if_pos (.inl rfl)
  have e2 : dd l.f 2 = if (dd l.f 1).length = 0 ∨ ¬ eqPt (lastP (dd l.f 1)) (l.f 1) then dd l.f 1 ++ [l.f 1] else dd l.f 1 := rfl
  rw [e1] at e2
  have e3 : lastP [l.f 0] = l.f 0 := rfl
  rw [e3, h.p0, h.p1, if_pos (.inr hne)] at e2
  unfold Sta.clean
  rw [h.s, if_neg (by decide), h.n, e2]
  rfl
def ON (w : Int) (a b : Pt) : Olr := (o0 (sN w)).add 4 (sPart (mkSid w a b))
theorem IsS.ln {l : Li} {a b : Pt} (h : IsS l a b) (hne : ¬ eqPt a b) (w : Int) : lnO (sN w) l = ON w a b := by
  have hc := h.clean hne
  have eN : sdN l 2 = 1 := by unfold sdN; rw [hc, h.s]; rfl
  have eS : sdA w l 0 = mkSid w a b := by rw [sdA_eq, hc]; rfl
  unfold lnO Olr.ln
  rw [hc]
  show (if 2 < 2 then _ else Olr.ends (Olr.jns (Olr.sds (o0 (sN w)) (sdA w l) (sdN l 2)) (sdA w l) (sdN l 2 - 1)) l (sdA w l) (sdN l 2)) = _
  rw [if_neg (by decide), eN]
  show (if l.c = true then _ else ((o0 (sN w)).add 4 (sPart (sdA w l 0))).cp (sdA w l 0) (sdA w l 0)) = _
  rw [h.s, if_neg (by decide), eS]
  rfl
theorem IsS.out {l : Li} {a b : Pt} (h : IsS l a b) (hne : ¬ eqPt a b) (w : Int) : outX (sN w) l = (ON w a b).flip 1 := by
  rw [outX_eq]
  unfold outO
  rw [h.ln hne]
  rfl
/-- The four points, in one order or in the other. -/
theorem IsS.pts {l : Li} {a b : Pt} (h : IsS l a b) (hne : ¬ eqPt a b) (w : Int) :
    (((outX (sN w) l).p 0 0 = addP a (nv w (subP b a)) ∧ (outX (sN w) l).p 0 1 = addP b (nv w (subP b a))) ∧ (outX (sN w) l).p 0 2 = subP b (nv w (subP b a)) ∧ (outX (sN w) l).p 0 3 = subP a (nv w (subP b a))) ∨
    (((outX (sN w) l).p 0 0 = subP a (nv w (subP b a)) ∧ (outX (sN w) l).p 0 1 = subP b (nv w (subP b a))) ∧ (outX (sN w) l).p 0 2 = addP b (nv w (subP b a)) ∧ (outX (sN w) l).p 0 3 = addP a (nv w (subP b a))) := by
  rw [h.out hne]
  have e : ∀ j, ((ON w a b).flip 1).p 0 j = ⟨bif decide (0 < 1 ∧ neg (ON w a b) 0) then ((ON w a b).p 0 (4 - 1 - j)).x else ((ON w a b).p 0 j).x, bif decide (0 < 1 ∧ neg (ON w a b) 0) then ((ON w a b).p 0 (4 - 1 - j)).y else ((ON w a b).p 0 j).y⟩ := fun j => rfl
  by_cases hn : 0 < 1 ∧ neg (ON w a b) 0
  · right
    rw [e, e, e, e, decide_eq_true hn]
    exact ⟨⟨rfl, rfl⟩, rfl, rfl⟩
  · left
    rw [e, e, e, e, decide_eq_false hn]
    exact ⟨⟨rfl, rfl⟩, rfl, rfl⟩
structure Par (w : Int) (a b : Pt) (T : Nat → Pt) : Prop where
  x02 : (T 0).x + (T 2).x = a.x + b.x
  y02 : (T 0).y + (T 2).y = a.y + b.y
  x13 : (T 1).x + (T 3).x = a.x + b.x
  y13 : (T 1).y + (T 3).y = a.y + b.y
  u : -1200 ≤ (T 0).x - (T 3).x ∧ (T 0).x - (T 3).x ≤ 1200
  v : -1200 ≤ (T 0).y - (T 3).y ∧ (T 0).y - (T 3).y ≤ 1200
  dot : sizeI (((T 0).x - (T 3).x) * (b.x - a.x) + ((T 0).y - (T 3).y) * (b.y - a.y)) ≤ sizeI (b.x - a.x) + sizeI (b.y - a.y)
  up : ((T 0).x - (T 3).x) * ((T 0).x - (T 3).x) + ((T 0).y - (T 3).y) * ((T 0).y - (T 3).y) ≤ (w + 3) * (w + 3)
  lo : 4 ≤ w → (w - 3) * (w - 3) ≤ ((T 0).x - (T 3).x) * ((T 0).x - (T 3).x) + ((T 0).y - (T 3).y) * ((T 0).y - (T 3).y)
theorem IsS.par {l : Li} {a b : Pt} (h : IsS l a b) (hne : ¬ eqPt a b) {w : Int} (hw : 1 ≤ w ∧ w ≤ 1024) : Par w a b ((outX (sN w) l).p 0) := by
  have hd : (subP b a).x ≠ 0 ∨ (subP b a).y ≠ 0 := by
    by_cases hx : a.x = b.x
    · refine .inr fun hy => hne ⟨hx, ?_⟩
      have hy : b.y - a.y = 0 := hy
      omega
    · refine .inl fun hy => hx ?_
      have hy : b.x - a.x = 0 := hy
      omega
  have l1 := len_pos hd
  have lx := len_x (subP b a)
  have ly := len_y (subP b a)
  have n1 : -600 ≤ (nv w (subP b a)).x ∧ (nv w (subP b a)).x ≤ 600 := half_in (by omega) l1 (by omega)
  have n2 : -600 ≤ (nv w (subP b a)).y ∧ (nv w (subP b a)).y ≤ 600 := half_in (by omega) l1 lx
  have kd := nv_dot (w := w) hd
  have kl := nv_len hw hd
  have hp := h.pts hne w
  generalize nv w (subP b a) = n at *
  generalize (outX (sN w) l).p 0 = T at *
  have ex : (subP b a).x = b.x - a.x := rfl
  have ey : (subP b a).y = b.y - a.y := rfl
  rw [ex, ey] at kd
  have one : ∀ s : Int, s = 1 ∨ s = -1 → (T 0).x = a.x + s * n.x → (T 0).y = a.y + s * n.y → (T 1).x = b.x + s * n.x → (T 1).y = b.y + s * n.y → (T 2).x = b.x - s * n.x → (T 2).y = b.y - s * n.y → (T 3).x = a.x - s * n.x → (T 3).y = a.y - s * n.y → Par w a b T := fun s hs h0 h1 h2 h3 h4 h5 h6 h7 => by
    have u : (T 0).x - (T 3).x = 2 * (s * n.x) := by omega
    have v : (T 0).y - (T 3).y = 2 * (s * n.y) := by omega
    have sb : -600 ≤ s * n.x ∧ s * n.x ≤ 600 := by rcases hs with rfl | rfl <;> omega
    have sc : -600 ≤ s * n.y ∧ s * n.y ≤ 600 := by rcases hs with rfl | rfl <;> omega
    have ss : s * s = 1 := by rcases hs with rfl | rfl <;> rfl
    have q : 2 * (s * n.x) * (2 * (s * n.x)) + 2 * (s * n.y) * (2 * (s * n.y)) = 4 * (n.x * n.x + n.y * n.y) := by
      have : 2 * (s * n.x) * (2 * (s * n.x)) + 2 * (s * n.y) * (2 * (s * n.y)) = s * s * (4 * (n.x * n.x + n.y * n.y)) := by grind
      rw [this, ss, Int.one_mul]
    have d : 2 * (s * n.x) * (b.x - a.x) + 2 * (s * n.y) * (b.y - a.y) = s * (2 * (n.x * (b.x - a.x) + n.y * (b.y - a.y))) := by grind
    refine ⟨by omega, by omega, by omega, by omega, by omega, by omega, ?_, ?_, ?_⟩
    · rw [u, v, d]
      refine size_of ?_
      rcases hs with rfl | rfl <;> omega
    · rw [u, v, q]
      exact kl.1
    · rw [u, v, q]
      exact kl.2
  rcases hp with ⟨⟨h0, h1⟩, h2, h3⟩ | ⟨⟨h0, h1⟩, h2, h3⟩
  · refine one 1 (.inl rfl) ?_ ?_ ?_ ?_ ?_ ?_ ?_ ?_
    · rw [h0, Int.one_mul]; rfl
    · rw [h0, Int.one_mul]; rfl
    · rw [h1, Int.one_mul]; rfl
    · rw [h1, Int.one_mul]; rfl
    · rw [h2, Int.one_mul]; rfl
    · rw [h2, Int.one_mul]; rfl
    · rw [h3, Int.one_mul]; rfl
    · rw [h3, Int.one_mul]; rfl
  · have e : ∀ x y : Int, x - y = x + -1 * y := fun x y => by omega
    have e' : ∀ x y : Int, x + y = x - -1 * y := fun x y => by omega
    refine one (-1) (.inr rfl) ?_ ?_ ?_ ?_ ?_ ?_ ?_ ?_
    · rw [h0, ← e]; rfl
    · rw [h0, ← e]; rfl
    · rw [h1, ← e]; rfl
    · rw [h1, ← e]; rfl
    · rw [h2, ← e']; rfl
    · rw [h2, ← e']; rfl
    · rw [h3, ← e']; rfl
    · rw [h3, ← e']; rfl
theorem IsS.full {l : Li} {a b : Pt} (h : IsS l a b) (hne : ¬ eqPt a b) {w : Int} (hw : 1 ≤ w ∧ w ≤ 1024) (ha : small 8000 a) (hb : small 8000 b) : OuG.ok ⟨l, sN w⟩ ∧ Lns.fin ⟨1, fun _ => l⟩ := by
  have wa := sm_le ha (show (8000 : Int) ≤ 32767 by omega)
  have wb := sm_le hb (show (8000 : Int) ≤ 32767 by omega)
  have hin : ∀ j, j < l.n → small 32767 (l.f j) := fun j hj => by
    rw [h.n] at hj
    match j, hj with
    | 0, _ => rw [h.p0]; exact wa
    | 1, _ => rw [h.p1]; exact wb
  have hs : Sty.ok (sN w) := ⟨⟨hw, show (0 : Int) ≤ 0 by decide, show (0 : Int) ≤ 2 by decide⟩, ⟨show (0 : Int) ≤ 0 by decide, show (0 : Int) ≤ 2 by decide⟩, show (16 : Int) ≤ 16 by decide, show (16 : Int) ≤ 1024 by decide⟩
  obtain ⟨-, -, hnn, -⟩ := sid_ok (w := w) (by omega) wa wb hne
  refine ⟨⟨⟨⟨by rw [h.n]; decide, hin⟩, hs⟩, ?_⟩, show 1 ≤ 1024 by decide, fun i _ => ⟨by show l.n ≤ 1024; rw [h.n]; decide, hin⟩⟩
  show (lnO (sN w) l).lns.fin
  rw [h.ln hne]
  refine ⟨show 0 + 1 ≤ 1024 by decide, fun t ht => ?_⟩
  have ht : t < 1 := ht
  obtain rfl : t = 0 := by omega
  refine ⟨show 4 ≤ 1024 by decide, fun j hj => ?_⟩
  have hj : j < 4 := hj
  exact sm4 (sm_addP _ ha hnn (by omega)) (sm_addP _ hb hnn (by omega)) (sm_subP _ hb hnn (by omega)) (sm_subP _ ha hnn (by omega)) j hj
end Go.Proofs.Ytfjbjbmbdadmhaa.Stv
