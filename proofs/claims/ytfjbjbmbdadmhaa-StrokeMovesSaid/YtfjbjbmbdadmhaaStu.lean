/- The stroke of shifted lines: fill, discs, the whole: plain. -/
import Derived.Test.YtfjbjbmbdadmhaaStv
set_option linter.unusedSimpArgs false
set_option linter.unusedVariables false
namespace Go.Proofs.Ytfjbjbmbdadmhaa.Str
open Go.RowKit Sx Num Aff Con Fla Flg Sta Stb Stc Sto Ste Stm Stl Stv
set_option maxRecDepth 100000
/-- The square of the normal's length, for a width w of at most 60. -/
structure Nrm (w q : Int) : Prop where
  lo : 10000 * (w * w) - 28314 * w ≤ 40000 * q
  hi : 40000 * q ≤ 10000 * (w * w) + 29487 * w + 20000
theorem nv_nrm {w : Int} {d : Pt} (hw : 1 ≤ w ∧ w ≤ 60) (hd : d.x ≠ 0 ∨ d.y ≠ 0) : Nrm w ((nv w d).x * (nv w d).x + (nv w d).y * (nv w d).y) := by
  have hl := len_pos hd
  have lx := len_x d
  have ly := len_y d
  have hl2 : 1024 ≤ lenD d := by omega
  have hdd : 0 ≤ dotP d d := by unfold dotP; have := sqn d.x; have := sqn d.y; omega
  have hs := isq_spec (1048576 * dotP d d).toNat
  have eD : (((1048576 * dotP d d).toNat : Nat) : Int) = 1048576 * dotP d d := by omega
  have eL : lenD d = ((isq (1048576 * dotP d d).toNat : Nat) : Int) := rfl
  have s1 : lenD d * lenD d ≤ 1048576 * dotP d d := by
    rw [← eD, eL, ← Int.natCast_mul]
    exact Int.ofNat_le.2 hs.1
  have s2 : 1048576 * dotP d d ≤ (lenD d + 1) * (lenD d + 1) := by
    rw [← eD, eL, show ((isq (1048576 * dotP d d).toNat : Nat) : Int) + 1 = ((isq (1048576 * dotP d d).toNat + 1 : Nat) : Int) from rfl, ← Int.natCast_mul]
    exact Int.ofNat_le.2 (Nat.le_of_lt hs.2)
  clear eL eD hs
  show Nrm w (nr (512 * w * (0 - d.y)) (lenD d) * nr (512 * w * (0 - d.y)) (lenD d) + nr (512 * w * d.x) (lenD d) * nr (512 * w * d.x) (lenD d))
  have e1 := nr_err (512 * w * (0 - d.y)) hl
  have e2 := nr_err (512 * w * d.x) hl
  unfold dotP at s1 s2
  generalize lenD d = l at *
  generalize nr (512 * w * (0 - d.y)) l = h1 at *
  generalize nr (512 * w * d.x) l = h2 at *
  have eA : 2 * (512 * w * (0 - d.y)) = 1024 * w * (0 - d.y) := by grind
  have eB : 2 * (512 * w * d.x) = 1024 * w * d.x := by grind
  generalize hA : 1024 * w * (0 - d.y) = A at *
  generalize hB : 1024 * w * d.x = B at *
  generalize hE1 : 2 * (h1 * l) - A = E1
  generalize hE2 : 2 * (h2 * l) - B = E2
  have b1 : -l ≤ E1 ∧ E1 ≤ l := by omega
  have b2 : -l ≤ E2 ∧ E2 ≤ l := by omega
  generalize hD : d.x * d.x + d.y * d.y = D at *
  have hAB : A * A + B * B = w * w * (1048576 * D) := by rw [← hA, ← hB, ← hD]; grind
  have key : l * l * (4 * (h1 * h1 + h2 * h2)) = A * A + B * B + 2 * (E1 * A + E2 * B) + (E1 * E1 + E2 * E2) := by rw [← hE1, ← hE2]; grind
  have m1 := mul_size (x := A) b1
  have m2 := mul_size (x := B) b2
  have q1 := Fla.mul_in b1 b1
  have q2 := Fla.mul_in b2 b2
  have n1 := sqn E1
  have n2 := sqn E2
  have pA := (size_in A).2
  have pB := (size_in B).2
  have aA : sizeI A * sizeI A = A * A := by unfold sizeI; split <;> grind
  have aB : sizeI B * sizeI B = B * B := by unfold sizeI; split <;> grind
  have eP : l * (sizeI A + sizeI B) = l * sizeI A + l * sizeI B := Int.mul_add _ _ _
  generalize hP : sizeI A + sizeI B = P at *
  have hP2 : P * P ≤ 2 * (A * A + B * B) := by
    have := sqn (sizeI A - sizeI B)
    have e : (sizeI A - sizeI B) * (sizeI A - sizeI B) = 2 * (sizeI A * sizeI A + sizeI B * sizeI B) - P * P := by rw [← hP]; grind
    omega
  have ww := sqn w
  have w1 : w * w * (1048576 * D) ≤ w * w * ((l + 1) * (l + 1)) := Int.mul_le_mul_of_nonneg_left s2 ww
  have w2 : w * w * (l * l) ≤ w * w * (1048576 * D) := Int.mul_le_mul_of_nonneg_left s1 ww
  have c0 := sqn (w * (l + 1))
  have c1 : (w * (l + 1)) * (w * (l + 1)) = w * w * ((l + 1) * (l + 1)) := by grind
  have hwl : 0 ≤ w * (l + 1) := Int.mul_nonneg (by omega) (by omega)
  have hP3 := sq_le' (a := 10000 * P) (b := 14143 * (w * (l + 1))) (by omega) (by
    have f1 : 10000 * P * (10000 * P) = 100000000 * (P * P) := by grind
    have f2 : 14143 * (w * (l + 1)) * (14143 * (w * (l + 1))) = 200024449 * ((w * (l + 1)) * (w * (l + 1))) := by grind
    omega)
  have lP : l * (10000 * P) ≤ l * (14143 * (w * (l + 1))) := Int.mul_le_mul_of_nonneg_left hP3.2 (by omega)
  have g1 : l * (10000 * P) = 10000 * (l * P) := by grind
  have g2 : l * (14143 * (w * (l + 1))) = 14143 * (w * (l * l)) + 14143 * (w * l) := by grind
  have g3 : w * w * ((l + 1) * (l + 1)) = w * w * (l * l) + 2 * (w * w * l) + w * w := by grind
  have ll : 0 < l * l := Int.mul_pos (by omega) (by omega)
  have k1 : 1024 * l ≤ l * l := Int.mul_le_mul_of_nonneg_right hl2 (by omega)
  have k2 : 1024 * 1024 ≤ l * l := Int.mul_le_mul hl2 hl2 (by omega) (by omega)
  have i2 : w * (1024 * l) ≤ w * (l * l) := Int.mul_le_mul_of_nonneg_left k1 (by omega)
  have i2' : w * (1024 * l) = 1024 * (w * l) := by grind
  have i4 : w * w * (1024 * l) ≤ w * w * (l * l) := Int.mul_le_mul_of_nonneg_left k1 ww
  have i4' : w * w * (1024 * l) = 1024 * (w * w * l) := by grind
  have i5 : w * w * (1024 * 1024) ≤ w * w * (l * l) := Int.mul_le_mul_of_nonneg_left k2 ww
  have i6 : w * w ≤ 60 * w := Int.mul_le_mul_of_nonneg_right hw.2 (by omega)
  have i7 : w * w * (l * l) ≤ 60 * w * (l * l) := Int.mul_le_mul_of_nonneg_right i6 (by omega)
  have i7' : 60 * w * (l * l) = 60 * (w * (l * l)) := by grind
  have u1 : l * l * (40000 * (h1 * h1 + h2 * h2)) = 10000 * (l * l * (4 * (h1 * h1 + h2 * h2))) := by grind
  have u2 : l * l * (10000 * (w * w) + 29487 * w + 20000) = 10000 * (w * w * (l * l)) + 29487 * (w * (l * l)) + 20000 * (l * l) := by grind
  have u3 : l * l * (10000 * (w * w) - 28314 * w) = 10000 * (w * w * (l * l)) - 28314 * (w * (l * l)) := by grind
  exact ⟨Int.le_of_mul_le_mul_left (a := l * l) (by omega) ll, Int.le_of_mul_le_mul_left (a := l * l) (by omega) ll⟩
/-- The one case that lies near. -/
theorem nine {a b y : Int} (h : 9 * a + y * b = 1) (hy : -2 ≤ y ∧ y ≤ 2) : ¬ (829 ≤ a * a + b * b ∧ a * a + b * b ≤ 865) := by
  rintro ⟨h1, h2⟩
  have hc : y = -2 ∨ y = -1 ∨ y = 0 ∨ y = 1 ∨ y = 2 := by omega
  have key : 81 * (a * a) - 18 * a + 1 = y * y * (b * b) := by
    have e : y * b = 1 - 9 * a := by omega
    have : y * y * (b * b) = (y * b) * (y * b) := by grind
    rw [this, e]; grind
  have fin : ∀ m : Int, 3 ≤ m → m ≤ 6 → (-m ≤ a ∧ a ≤ m → a * a ≤ m * m) ∧ (m + 1 ≤ a → (m + 1) * (m + 1) ≤ a * a) ∧ (a ≤ -(m + 1) → (m + 1) * (m + 1) ≤ a * a) := fun m hm _ => by
    refine ⟨fun h => (Fla.mul_in h h).2, fun h => Int.mul_le_mul h h (by omega) (by omega), fun h => ?_⟩
    have := Int.mul_le_mul (a := m + 1) (b := m + 1) (c := -a) (d := -a) (by omega) (by omega) (by omega) (by omega)
    rwa [Int.neg_mul_neg] at this
  have up : a * 4 ≤ a * a ∨ a < 4 := by
    by_cases c : 4 ≤ a
    · exact .inl (Int.mul_le_mul_of_nonneg_left c (by omega))
    · exact .inr (by omega)
  have up7 : a * 7 ≤ a * a ∨ a < 7 := by
    by_cases c : 7 ≤ a
    · exact .inl (Int.mul_le_mul_of_nonneg_left c (by omega))
    · exact .inr (by omega)
  obtain ⟨p1, p2, p3⟩ := fin 3 (by omega) (by omega)
  obtain ⟨r1, r2, r3⟩ := fin 6 (by omega) (by omega)
  rcases hc with rfl | rfl | rfl | rfl | rfl
  · by_cases c1 : -6 ≤ a ∧ a ≤ 6
    · have := r1 c1; omega
    · by_cases c2 : 7 ≤ a
      · have := r2 c2; omega
      · have := r3 (by omega); omega
  · by_cases c1 : -3 ≤ a ∧ a ≤ 3
    · have := p1 c1; omega
    · by_cases c2 : 4 ≤ a
      · have := p2 c2; omega
      · have := p3 (by omega); omega
  · omega
  · by_cases c1 : -3 ≤ a ∧ a ≤ 3
    · have := p1 c1; omega
    · by_cases c2 : 4 ≤ a
      · have := p2 c2; omega
      · have := p3 (by omega); omega
  · by_cases c1 : -6 ≤ a ∧ a ≤ 6
    · have := r1 c1; omega
    · by_cases c2 : 7 ≤ a
      · have := r2 c2; omega
      · have := r3 (by omega); omega
/-- q times a coordinate of the sum. -/
theorem qx_in {w q q' S a b x y : Int} (hw : 1 ≤ w ∧ w ≤ 60) (hq : Nrm w q) (hq' : Nrm w q') (eq : q = a * a + b * b) (hS : 1 ≤ S) (eS : S = a * x + b * y) (key : x * x + y * y = 2 * S + q' - q) : -7492 * S ≤ q * x ∧ q * x ≤ 7492 * S := by
  have l1 := hq.lo; have u1 := hq.hi; have l2 := hq'.lo; have u2 := hq'.hi
  have i6 : w * w ≤ 60 * w := Int.mul_le_mul_of_nonneg_right hw.2 (by omega)
  have q0 : 0 ≤ q := by have := sqn a; have := sqn b; omega
  have qm : q ≤ 944 := by omega
  have hd : q' - q ≤ 87 := by omega
  have yy := sqn y
  have xx := sqn x
  by_cases h2 : 2 ≤ S
  · have c3 : q * q * (x * x) ≤ q * q * (2 * S + 87) := Int.mul_le_mul_of_nonneg_left (by omega) (sqn q)
    have c6 : q * q ≤ 944 * 944 := Int.mul_le_mul qm qm q0 (by omega)
    have c7 : q * q * (2 * S + 87) ≤ 944 * 944 * (2 * S + 87) := Int.mul_le_mul_of_nonneg_right c6 (by omega)
    have c8 : S * 2 ≤ S * S := Int.mul_le_mul_of_nonneg_left h2 (by omega)
    have c9 : (q * x) * (q * x) = q * q * (x * x) := by grind
    have c10 : (7492 * S) * (7492 * S) = 56130064 * (S * S) := by grind
    have := sq_le' (a := q * x) (b := 7492 * S) (by omega) (by omega)
    omega
  · have e1 : S = 1 := by omega
    have hx : -9 ≤ x ∧ x ≤ 9 := by
      constructor
      · refine Int.not_lt.1 fun hc => ?_
        have : 10 * 10 ≤ (-x) * (-x) := Int.mul_le_mul (by omega) (by omega) (by omega) (by omega)
        rw [Int.neg_mul_neg] at this
        omega
      · refine Int.not_lt.1 fun hc => ?_
        have : 10 * 10 ≤ x * x := Int.mul_le_mul (by omega) (by omega) (by omega) (by omega)
        omega
    by_cases h7 : -7 ≤ x ∧ x ≤ 7
    · have := Fla.mul_in (a := q) (A := 944) (x := x) (X := 7) ⟨by omega, qm⟩ h7
      omega
    · have no9 : ∀ a' : Int, a' * a' = a * a → 9 * a' + y * b = 1 → 81 + y * y = 2 + q' - q → q ≤ 832 := fun a' ha h9 hk => by
        refine Int.not_lt.1 fun hc => ?_
        have hy : -2 ≤ y ∧ y ≤ 2 := by
          constructor
          · refine Int.not_lt.1 fun hc => ?_
            have : 3 * 3 ≤ (-y) * (-y) := Int.mul_le_mul (by omega) (by omega) (by omega) (by omega)
            rw [Int.neg_mul_neg] at this
            omega
          · refine Int.not_lt.1 fun hc => ?_
            have : 3 * 3 ≤ y * y := Int.mul_le_mul (by omega) (by omega) (by omega) (by omega)
            omega
        refine nine h9 hy ⟨by omega, ?_⟩
        by_cases hw58 : w ≤ 58
        · have : w * w ≤ 58 * 58 := Int.mul_le_mul hw58 hw58 (by omega) (by omega)
          omega
        · omega
      have hc : x = 8 ∨ x = -8 ∨ x = 9 ∨ x = -9 := by omega
      rcases hc with rfl | rfl | rfl | rfl
      · omega
      · omega
      · have := no9 a rfl (by rw [Int.mul_comm y b]; omega) (by omega)
        omega
      · have := no9 (-a) (Int.neg_mul_neg _ _) (by rw [Int.mul_comm y b]; omega) (by omega)
        omega
theorem tip_near {w : Int} {a b : Sid} (hw : 1 ≤ w ∧ w ≤ 60) (ha : Nrm w (dotP a.n a.n)) (hb : Nrm w (dotP b.n b.n)) (hS : 1 ≤ dotP a.n a.n + dotP a.n b.n) : small 7492 (tipP a b) := by
  have key : (a.n.x + b.n.x) * (a.n.x + b.n.x) + (a.n.y + b.n.y) * (a.n.y + b.n.y) = 2 * (dotP a.n a.n + dotP a.n b.n) + dotP b.n b.n - dotP a.n a.n := by unfold dotP; grind
  have eS : dotP a.n a.n + dotP a.n b.n = a.n.x * (a.n.x + b.n.x) + a.n.y * (a.n.y + b.n.y) := by unfold dotP; grind
  have tx := qx_in hw ha hb (a := a.n.x) (b := a.n.y) rfl hS eS key
  have sw : a.n.y * (a.n.y + b.n.y) + a.n.x * (a.n.x + b.n.x) = a.n.x * (a.n.x + b.n.x) + a.n.y * (a.n.y + b.n.y) := Int.add_comm _ _
  have ty := qx_in hw ha hb (a := a.n.y) (b := a.n.x) (y := a.n.x + b.n.x) (Int.add_comm _ _) hS (eS.trans sw.symm) ((Int.add_comm _ _).trans key)
  exact sm (nr_between hS tx.1 tx.2) (nr_between hS ty.1 ty.2)
end Go.Proofs.Ytfjbjbmbdadmhaa.Str
set_option linter.unusedSimpArgs false
set_option linter.unusedVariables false
namespace Go.Proofs.Ytfjbjbmbdadmhaa.Sts
open Go.RowKit Sx Num Aff Con Rga Rgl Rgn Flc Fla Fle Flp Flf Flg Flu Sta Stb Stc Sto Ste Stm Stl Stv Str
set_option maxRecDepth 100000
theorem pt_ext {a b : Pt} (hx : a.x = b.x) (hy : a.y = b.y) : a = b := by cases a; cases b; simp only at hx hy; rw [hx, hy]
theorem add_add (p v x : Pt) : addP (addP p v) x = addP (addP p x) v := pt_ext (by show p.x + v.x + x.x = p.x + x.x + v.x; omega) (by show p.y + v.y + x.y = p.y + x.y + v.y; omega)
theorem add_sub (p v x : Pt) : subP (addP p v) x = addP (subP p x) v := pt_ext (by show p.x + v.x - x.x = p.x - x.x + v.x; omega) (by show p.y + v.y - x.y = p.y - x.y + v.y; omega)
theorem sub_sh (p q v : Pt) : subP (addP q v) (addP p v) = subP q p := pt_ext (by show q.x + v.x - (p.x + v.x) = q.x - p.x; omega) (by show q.y + v.y - (p.y + v.y) = q.y - p.y; omega)
theorem eq_sh (p q v : Pt) : eqPt (addP p v) (addP q v) ↔ eqPt p q := by
  unfold eqPt
  show (p.x + v.x = q.x + v.x ∧ p.y + v.y = q.y + v.y) ↔ _
  omega
/-! Lines. -/
def shLi (v : Pt) (l : Li) : Li := ⟨l.n, fun i => addP (l.f i) v, l.c⟩
def shLns (v : Pt) (g : Lns) : Lns := ⟨g.n, fun i => shLi v (g.f i)⟩
theorem gP_map {v : Pt} {L : List Pt} {i : Nat} (h : i < L.length) : gP (L.map (addP · v)) i = addP (gP L i) v := by
  unfold gP
  rw [List.getD_eq_getElem?_getD, List.getD_eq_getElem?_getD, List.getElem?_map, List.getElem?_eq_getElem h]
  rfl
theorem last_map {v : Pt} {L : List Pt} (h : 0 < L.length) : lastP (L.map (addP · v)) = addP (lastP L) v := by
  unfold lastP
  rw [List.length_map, gP_map (by omega)]
theorem dd_sh (v : Pt) (f : Nat → Pt) : ∀ k, dd (fun i => addP (f i) v) k = (dd f k).map (addP · v)
  | 0 => rfl
  | k + 1 => by
    unfold dd
    rw [dd_sh v f k, List.length_map]
    by_cases h0 : (dd f k).length = 0
    · rw [if_pos (.inl h0), if_pos (.inl h0), List.map_append]; rfl
    · rw [last_map (by omega)]
      by_cases h1 : eqPt (lastP (dd f k)) (f k)
      · rw [if_neg (fun h => h.elim h0 (fun h => h ((eq_sh _ _ _).2 h1))), if_neg (fun h => h.elim h0 (fun h => h h1))]
      · rw [if_pos (.inr (fun h => h1 ((eq_sh _ _ _).1 h))), if_pos (.inr h1), List.map_append]; rfl
theorem trm_sh (v : Pt) : ∀ n (L : List Pt), trm n (L.map (addP · v)) = (trm n L).map (addP · v)
  | 0, L => rfl
  | n + 1, L => by
    unfold trm
    rw [List.length_map]
    by_cases h1 : 1 < L.length
    · rw [last_map (by omega), gP_map (by omega)]
      by_cases h2 : eqPt (gP L 0) (lastP L)
      · rw [if_pos ⟨h1, (eq_sh _ _ _).2 h2⟩, if_pos ⟨h1, h2⟩, ← trm_sh v n, List.map_dropLast]
      · rw [if_neg (fun h => h2 ((eq_sh _ _ _).1 h.2)), if_neg (fun h => h2 h.2)]
    · rw [if_neg (fun h => h1 h.1), if_neg (fun h => h1 h.1)]
theorem clean_sh (v : Pt) (l : Li) : clean (shLi v l) = (clean l).map (addP · v) := by
  unfold clean shLi
  show (if l.c = true then trm (dd (fun i => addP (l.f i) v) l.n).length (dd (fun i => addP (l.f i) v) l.n) else dd (fun i => addP (l.f i) v) l.n) = _
  rw [dd_sh, List.length_map]
  split
  · exact trm_sh v _ _
  · rfl
/-! Sides. -/
structure ShS (v : Pt) (a b : Sid) : Prop where
  p : b.p = addP a.p v
  q : b.q = addP a.q v
  d : b.d = a.d
  n : b.n = a.n
  e : b.e = a.e
theorem mk_sh (w : Int) (v p q : Pt) : ShS v (mkSid w p q) (mkSid w (addP p v) (addP q v)) := by
  unfold mkSid
  rw [sub_sh]
  exact ⟨rfl, rfl, rfl, rfl, rfl⟩
theorem sdA_sh (w : Int) (v : Pt) (l : Li) {k : Nat} (hk : k < (clean l).length) : ShS v (sdA w l k) (sdA w (shLi v l) k) := by
  rw [sdA_eq, sdA_eq, clean_sh, List.length_map, gP_map hk]
  by_cases h : k + 1 < (clean l).length
  · rw [if_pos h, gP_map h]; exact mk_sh w v _ _
  · rw [if_neg h, gP_map (by omega)]; exact mk_sh w v _ _
/-! Outliners. -/
structure ShO (v : Pt) (o u : Olr) : Prop where
  w : u.w = o.w
  cap : u.cap = o.cap
  join : u.join = o.join
  limit : u.limit = o.limit
  n : u.n = o.n
  k : u.k = o.k
  m : ∀ t, t < o.n → u.m t = o.m t
  p : ∀ t, t < o.n → ∀ j, j < o.m t → u.p t j = addP (o.p t j) v
  d : ∀ t, t < o.k → u.d t = addP (o.d t) v
theorem ShO.add {v : Pt} {o u : Olr} (h : ShO v o u) {l : Nat} {f g : Nat → Pt} (hf : ∀ j, j < l → g j = addP (f j) v) : ShO v (o.add l f) (u.add l g) := by
  refine ⟨h.w, h.cap, h.join, h.limit, by show u.n + 1 = o.n + 1; rw [h.n], h.k, fun t ht => ?_, fun t ht j hj => ?_, h.d⟩
  · have ht : t < o.n + 1 := ht
    show (bif decide (t = u.n) then l else u.m t) = (bif decide (t = o.n) then l else o.m t)
    rw [h.n]
    by_cases e : t = o.n
    · rw [decide_eq_true e]; rfl
    · rw [decide_eq_false e]; exact h.m t (by omega)
  · have ht : t < o.n + 1 := ht
    have hj : j < (bif decide (t = o.n) then l else o.m t) := hj
    show (⟨bif decide (t = u.n) then (g j).x else (u.p t j).x, bif decide (t = u.n) then (g j).y else (u.p t j).y⟩ : Pt) = addP ⟨bif decide (t = o.n) then (f j).x else (o.p t j).x, bif decide (t = o.n) then (f j).y else (o.p t j).y⟩ v
    rw [h.n]
    by_cases e : t = o.n
    · rw [decide_eq_true e] at hj ⊢; exact hf j hj
    · rw [decide_eq_false e] at hj ⊢; exact h.p t (by omega) j hj
theorem ShO.dsc {v : Pt} {o u : Olr} (h : ShO v o u) {c e : Pt} (he : e = addP c v) : ShO v (o.dsc c) (u.dsc e) := by
  refine ⟨h.w, h.cap, h.join, h.limit, h.n, by show u.k + 1 = o.k + 1; rw [h.k], h.m, h.p, fun t ht => ?_⟩
  have ht : t < o.k + 1 := ht
  show (⟨bif decide (t < u.k) then (u.d t).x else e.x, bif decide (t < u.k) then (u.d t).y else e.y⟩ : Pt) = addP ⟨bif decide (t < o.k) then (o.d t).x else c.x, bif decide (t < o.k) then (o.d t).y else c.y⟩ v
  rw [h.k]
  by_cases c : t < o.k
  · rw [decide_eq_true c]; exact h.d t c
  · rw [decide_eq_false c]; exact he
theorem ShO.dsc2 {v : Pt} {o u : Olr} (h : ShO v o u) {a b a' b' : Pt} (ha : a' = addP a v) (hb : b' = addP b v) : ShO v (o.dsc2 a b) (u.dsc2 a' b') := by
  refine ⟨h.w, h.cap, h.join, h.limit, h.n, by show u.k + 2 = o.k + 2; rw [h.k], h.m, h.p, fun t ht => ?_⟩
  show (⟨bif decide (t < u.k) then (u.d t).x else bif decide (t - u.k = 1) then b'.x else a'.x, bif decide (t < u.k) then (u.d t).y else bif decide (t - u.k = 1) then b'.y else a'.y⟩ : Pt) = addP ⟨bif decide (t < o.k) then (o.d t).x else bif decide (t - o.k = 1) then b.x else a.x, bif decide (t < o.k) then (o.d t).y else bif decide (t - o.k = 1) then b.y else a.y⟩ v
  rw [h.k]
  by_cases c : t < o.k
  · rw [decide_eq_true c]; exact h.d t c
  · rw [decide_eq_false c]
    by_cases c2 : t - o.k = 1
    · rw [decide_eq_true c2]; exact hb
    · rw [decide_eq_false c2]; exact ha
theorem p4_sh {v a b c d a' b' c' d' : Pt} (ha : a' = addP a v) (hb : b' = addP b v) (hc : c' = addP c v) (hd : d' = addP d v) : ∀ j, j < 4 → p4 a' b' c' d' j = addP (p4 a b c d j) v
  | 0, _ => ha
  | 1, _ => hb
  | 2, _ => hc
  | 3, _ => hd
theorem p3_sh {v a b c a' b' c' : Pt} (ha : a' = addP a v) (hb : b' = addP b v) (hc : c' = addP c v) : ∀ j, j < 3 → p3 a' b' c' j = addP (p3 a b c j) v
  | 0, _ => ha
  | 1, _ => hb
  | 2, _ => hc
theorem ShO.jn {v : Pt} {o u : Olr} (h : ShO v o u) {a b a' b' : Sid} (ha : ShS v a a') (hb : ShS v b b') : ShO v (o.jn a b) (u.jn a' b') := by
  have es : sgn a' b' = sgn a b := by unfold sgn; rw [ha.d, hb.d]
  have et : tipP a' b' = tipP a b := by unfold tipP; rw [ha.n, hb.n]
  have ej : jMiter u a' b' ↔ jMiter o a b := by unfold jMiter; rw [h.join, h.limit, ha.n, hb.n]
  unfold Olr.jn
  rw [h.join, ha.d, hb.d, es, et, ha.n, hb.n, hb.p]
  by_cases c1 : o.join = 1
  · rw [if_pos c1, if_pos c1]; exact h.dsc rfl
  · rw [if_neg c1, if_neg c1]
    by_cases c2 : crP a.d b.d = 0
    · rw [if_pos c2, if_pos c2]; exact h
    · rw [if_neg c2, if_neg c2]
      by_cases c3 : jMiter o a b
      · rw [if_pos c3, if_pos (ej.2 c3)]
        exact h.add (p4_sh rfl (add_add _ _ _) (add_add _ _ _) (add_add _ _ _))
      · rw [if_neg c3, if_neg (fun h => c3 (ej.1 h))]
        exact h.add (p3_sh rfl (add_add _ _ _) (add_add _ _ _))
theorem ShO.cp {v : Pt} {o u : Olr} (h : ShO v o u) {a b a' b' : Sid} (ha : ShS v a a') (hb : ShS v b b') : ShO v (o.cp a b) (u.cp a' b') := by
  unfold Olr.cp
  rw [h.cap, ha.p, ha.n, ha.e, hb.q, hb.n, hb.e]
  by_cases c1 : o.cap = 1
  · rw [if_pos c1, if_pos c1]; exact h.dsc2 rfl rfl
  · rw [if_neg c1, if_neg c1]
    by_cases c2 : o.cap = 2
    · rw [if_pos c2, if_pos c2]
      exact (h.add (p4_sh (add_add _ _ _) (add_sub _ _ _) (by rw [add_sub, add_sub]) (by rw [add_add, add_sub]))).add (p4_sh (add_add _ _ _) (add_sub _ _ _) (by rw [add_sub, add_add]) (by rw [add_add b.q, add_add (addP b.q b.n)]))
    · rw [if_neg c2, if_neg c2]; exact h
theorem ShO.dt {v : Pt} {o u : Olr} (h : ShO v o u) (c : Pt) : ShO v (o.dt c) (u.dt (addP c v)) := by
  unfold Olr.dt
  rw [h.cap, h.w]
  by_cases c1 : o.cap = 1
  · rw [if_pos c1, if_pos c1]; exact h.dsc rfl
  · rw [if_neg c1, if_neg c1]
    by_cases c2 : o.cap = 2
    · rw [if_pos c2, if_pos c2]
      exact h.add (p4_sh (add_add _ _ _) (add_add _ _ _) (add_add _ _ _) (add_add _ _ _))
    · rw [if_neg c2, if_neg c2]; exact h
theorem ShO.sds {v : Pt} {o u : Olr} (h : ShO v o u) {S T : Nat → Sid} : ∀ i, (∀ k, k < i → ShS v (S k) (T k)) → ShO v (o.sds S i) (u.sds T i)
  | 0, _ => h
  | i + 1, hS => by
    have t := hS i (Nat.lt_succ_self i)
    refine (ShO.sds h i fun k hk => hS k (by omega)).add ?_
    unfold sPart
    rw [t.p, t.q, t.n]
    exact p4_sh (add_add _ _ _) (add_add _ _ _) (add_sub _ _ _) (add_sub _ _ _)
theorem ShO.jns {v : Pt} {o u : Olr} (h : ShO v o u) {S T : Nat → Sid} : ∀ i, (∀ k, k < i + 1 → ShS v (S k) (T k)) → ShO v (o.jns S i) (u.jns T i)
  | 0, _ => h
  | i + 1, hS => (ShO.jns h i fun k hk => hS k (by omega)).jn (hS i (by omega)) (hS (i + 1) (by omega))
theorem o0_sh (v : Pt) (s : Sty) : ShO v (o0 s) (o0 s) := ⟨rfl, rfl, rfl, rfl, rfl, rfl, fun _ _ => rfl, fun t ht => absurd ht (Nat.not_lt_zero t), fun t ht => absurd ht (Nat.not_lt_zero t)⟩
theorem sdN_sh (v : Pt) (l : Li) (i : Nat) : sdN (shLi v l) i = sdN l i := by
  unfold sdN
  rw [clean_sh, List.length_map]
  rfl
theorem ln_sh (v : Pt) (s : Sty) (l : Li) : ShO v (lnO s l) (lnO s (shLi v l)) := by
  have h0 := o0_sh v s
  unfold lnO Olr.ln
  rw [clean_sh, List.length_map, sdN_sh]
  by_cases c1 : (clean l).length < 2
  · rw [if_pos c1, if_pos c1]
    by_cases c2 : (clean l).length = 1
    · rw [if_pos c2, if_pos c2, gP_map (by omega)]; exact h0.dt _
    · rw [if_neg c2, if_neg c2]; exact h0
  · rw [if_neg c1, if_neg c1]
    have en : sdN l (clean l).length = if l.c = true then (clean l).length else (clean l).length - 1 := if_neg (Nat.lt_irrefl _)
    have hN : sdN l (clean l).length ≤ (clean l).length ∧ 1 ≤ sdN l (clean l).length := by rw [en]; split <;> omega
    have T : ∀ k, k < sdN l (clean l).length → ShS v (sdA (o0 s).w l k) (sdA (o0 s).w (shLi v l) k) := fun k hk => sdA_sh _ v l (by omega)
    have g2 := (h0.sds (S := sdA (o0 s).w l) (T := sdA (o0 s).w (shLi v l)) (sdN l (clean l).length) T).jns (S := sdA (o0 s).w l) (T := sdA (o0 s).w (shLi v l)) (sdN l (clean l).length - 1) (fun k hk => T k (by omega))
    unfold Olr.ends
    show ShO v _ (if l.c = true then _ else _)
    by_cases c3 : l.c = true
    · rw [if_pos c3, if_pos c3]; exact g2.jn (T _ (by omega)) (T _ (by omega))
    · rw [if_neg c3, if_neg c3]; exact g2.cp (T _ (by omega)) (T _ (by omega))
/-! The area. -/
theorem liAr_sum (l : Li) : ∀ j, liAr l j = sumN (fun i => cr (l.f i) (l.f ((i + 1) % l.n))) j
  | 0 => rfl
  | j + 1 => by
    show liAr l j + cr (l.f j) (l.f ((j + 1) % l.n)) = sumN _ j + _
    rw [liAr_sum l j]
theorem sumN_cong {φ ψ : Nat → Int} : ∀ {n : Nat}, (∀ i, i < n → φ i = ψ i) → sumN φ n = sumN ψ n
  | 0, _ => rfl
  | n + 1, h => by
    show sumN φ n + φ n = sumN ψ n + ψ n
    rw [sumN_cong (fun i hi => h i (by omega)), h n (Nat.lt_succ_self n)]
theorem sumN_add (φ ψ : Nat → Int) : ∀ n, sumN (fun i => φ i + ψ i) n = sumN φ n + sumN ψ n
  | 0 => rfl
  | n + 1 => by
    show sumN _ n + (φ n + ψ n) = sumN φ n + φ n + (sumN ψ n + ψ n)
    rw [sumN_add φ ψ n]; omega
theorem sumN_mul (c : Int) (φ : Nat → Int) : ∀ n, sumN (fun i => c * φ i) n = c * sumN φ n
  | 0 => (Int.mul_zero c).symm
  | n + 1 => by
    show sumN _ n + c * φ n = c * (sumN φ n + φ n)
    rw [sumN_mul c φ n, Int.mul_add]
theorem cr_sh (a b v : Pt) : cr (addP a v) (addP b v) = cr a b + (v.y * (b.x - a.x) - v.x * (b.y - a.y)) := by
  show (b.x + v.x) * (a.y + v.y) - (a.x + v.x) * (b.y + v.y) = b.x * a.y - a.x * b.y + (v.y * (b.x - a.x) - v.x * (b.y - a.y))
  grind
/-- A closed line's area stays. -/
theorem liAr_sh (v : Pt) {l u : Li} (hn : u.n = l.n) (hf : ∀ i, i < l.n → u.f i = addP (l.f i) v) : liAr u u.n = liAr l l.n := by
  rw [liAr_sum, liAr_sum, hn]
  have e1 : sumN (fun i => cr (u.f i) (u.f ((i + 1) % l.n))) l.n = sumN (fun i => cr (l.f i) (l.f ((i + 1) % l.n)) + (v.y * ((l.f ((i + 1) % l.n)).x - (l.f i).x) - v.x * ((l.f ((i + 1) % l.n)).y - (l.f i).y))) l.n :=
    sumN_cong (fun i hi => by
      show cr (u.f i) (u.f ((i + 1) % l.n)) = cr (l.f i) (l.f ((i + 1) % l.n)) + (v.y * ((l.f ((i + 1) % l.n)).x - (l.f i).x) - v.x * ((l.f ((i + 1) % l.n)).y - (l.f i).y))
      rw [hf i hi, hf _ (Nat.mod_lt _ (by omega)), cr_sh])
  rw [e1, sumN_add]
  have e2 : sumN (fun i => v.y * ((l.f ((i + 1) % l.n)).x - (l.f i).x) - v.x * ((l.f ((i + 1) % l.n)).y - (l.f i).y)) l.n = v.y * sumN (fun i => (l.f ((i + 1) % l.n)).x - (l.f i).x) l.n - v.x * sumN (fun i => (l.f ((i + 1) % l.n)).y - (l.f i).y) l.n := by
    rw [sumN_sub (fun i => v.y * ((l.f ((i + 1) % l.n)).x - (l.f i).x)) (fun i => v.x * ((l.f ((i + 1) % l.n)).y - (l.f i).y)), sumN_mul v.y (fun i => (l.f ((i + 1) % l.n)).x - (l.f i).x), sumN_mul v.x (fun i => (l.f ((i + 1) % l.n)).y - (l.f i).y)]
  have z1 : sumN (fun i => (l.f ((i + 1) % l.n)).x - (l.f i).x) l.n = 0 := by
    rw [sumN_sub (fun i => (l.f ((i + 1) % l.n)).x) (fun i => (l.f i).x), cyc (fun i => (l.f i).x)]; omega
  have z2 : sumN (fun i => (l.f ((i + 1) % l.n)).y - (l.f i).y) l.n = 0 := by
    rw [sumN_sub (fun i => (l.f ((i + 1) % l.n)).y) (fun i => (l.f i).y), cyc (fun i => (l.f i).y)]; omega
  rw [e2, z1, z2]
  omega
theorem ShO.flip {v : Pt} {o u : Olr} (h : ShO v o u) (i : Nat) (hi : i ≤ o.n) : ShO v (o.flip i) (u.flip i) := by
  have hneg : ∀ t, t < o.n → (neg u t ↔ neg o t) := fun t ht => by
    unfold neg
    have := liAr_sh v (l := o.li t) (u := u.li t) (h.m t ht) (fun j hj => h.p t ht j hj)
    have e : liAr (u.li t) (u.m t) = liAr (o.li t) (o.m t) := this
    rw [e]
  refine ⟨h.w, h.cap, h.join, h.limit, h.n, h.k, h.m, fun t ht j hj => ?_, h.d⟩
  have ht : t < o.n := ht
  have hj : j < o.m t := hj
  show (⟨bif decide (t < i ∧ neg u t) then (u.p t (u.m t - 1 - j)).x else (u.p t j).x, bif decide (t < i ∧ neg u t) then (u.p t (u.m t - 1 - j)).y else (u.p t j).y⟩ : Pt) = addP ⟨bif decide (t < i ∧ neg o t) then (o.p t (o.m t - 1 - j)).x else (o.p t j).x, bif decide (t < i ∧ neg o t) then (o.p t (o.m t - 1 - j)).y else (o.p t j).y⟩ v
  rw [decide_eq_decide.2 (show (t < i ∧ neg u t) ↔ (t < i ∧ neg o t) by rw [hneg t ht]), h.m t ht]
  by_cases c : t < i ∧ neg o t
  · rw [decide_eq_true c]; exact h.p t ht _ (by omega)
  · rw [decide_eq_false c]; exact h.p t ht j hj
theorem out_sh (v : Pt) (s : Sty) (l : Li) : ShO v (outX s l) (outX s (shLi v l)) := by
  rw [outX_eq, outX_eq]
  have h := ln_sh v s l
  unfold outO
  rw [h.n]
  exact h.flip _ (Nat.le_refl _)
end Go.Proofs.Ytfjbjbmbdadmhaa.Sts
set_option linter.unusedSimpArgs false
set_option linter.unusedVariables false
namespace Go.Proofs.Ytfjbjbmbdadmhaa.Stu
open Go.RowKit Sx Num Aff Con Rga Rgl Rgm Rgn Flc Fla Fle Flp Flf Flg Flu Sta Stb Stc Sto Ste Stm Stl Stv Str Sts
set_option maxRecDepth 100000
/-! No point lies far away. -/
def TN (w : Int) (s : Sid) : Prop := Tight s ∧ Nrm w (dotP s.n s.n)
theorem sd_tn {w : Int} {l : Li} (hw : 1 ≤ w ∧ w ≤ 60) (hl : tiny l) {k : Nat} (h2 : 2 ≤ (clean l).length) (h : k < sdN l (clean l).length) : TN w (sdA w l k) := by
  refine ⟨sd_tight ⟨by omega, hw.2⟩ hl h2 h, ?_⟩
  have hc := (sd_ends (tiny_in hl) h2 h).2.2
  rw [sdA_eq]
  refine nv_nrm (d := subP (gP (clean l) (if k + 1 < (clean l).length then k + 1 else 0)) (gP (clean l) k)) hw ?_
  generalize gP (clean l) k = p at hc ⊢
  generalize gP (clean l) (if k + 1 < (clean l).length then k + 1 else 0) = q at hc ⊢
  by_cases hx : p.x = q.x
  · refine .inr fun hy => hc ⟨hx, ?_⟩
    have hy : q.y - p.y = 0 := hy
    omega
  · refine .inl fun hy => hx ?_
    have hy : q.x - p.x = 0 := hy
    omega
def near (o : Olr) : Prop := (∀ t, t < o.n → o.m t ≤ 4 ∧ ∀ j, j < o.m t → small 7692 (o.p t j)) ∧ ∀ t, t < o.k → small 200 (o.d t)
theorem near_add {o : Olr} {l : Nat} {f : Nat → Pt} (h : near o) (hl : l ≤ 4) (hf : ∀ j, j < l → small 7692 (f j)) : near (o.add l f) := by
  refine ⟨fun t ht => ?_, h.2⟩
  have ht : t < o.n + 1 := ht
  show (bif decide (t = o.n) then l else o.m t) ≤ 4 ∧ ∀ j, j < (bif decide (t = o.n) then l else o.m t) → small 7692 ⟨bif decide (t = o.n) then (f j).x else (o.p t j).x, bif decide (t = o.n) then (f j).y else (o.p t j).y⟩
  by_cases e : t = o.n
  · rw [decide_eq_true e]; exact ⟨hl, hf⟩
  · rw [decide_eq_false e]; exact h.1 t (by omega)
theorem near_dsc {o : Olr} {c : Pt} (h : near o) (hc : small 200 c) : near (o.dsc c) := by
  refine ⟨h.1, fun t ht => ?_⟩
  have ht : t < o.k + 1 := ht
  show small 200 ⟨bif decide (t < o.k) then (o.d t).x else c.x, bif decide (t < o.k) then (o.d t).y else c.y⟩
  by_cases e : t < o.k
  · rw [decide_eq_true e]; exact h.2 t e
  · rw [decide_eq_false e]; exact hc
theorem near_dsc2 {o : Olr} {a b : Pt} (h : near o) (ha : small 200 a) (hb : small 200 b) : near (o.dsc2 a b) := by
  refine ⟨h.1, fun t ht => ?_⟩
  show small 200 ⟨bif decide (t < o.k) then (o.d t).x else bif decide (t - o.k = 1) then b.x else a.x, bif decide (t < o.k) then (o.d t).y else bif decide (t - o.k = 1) then b.y else a.y⟩
  by_cases e : t < o.k
  · rw [decide_eq_true e]; exact h.2 t e
  · rw [decide_eq_false e]
    by_cases e2 : t - o.k = 1
    · rw [decide_eq_true e2]; exact hb
    · rw [decide_eq_false e2]; exact ha
theorem near_jn {w : Int} (hw : 1 ≤ w ∧ w ≤ 60) {o : Olr} {a b : Sid} (h : near o) (ha : TN w a) (hb : TN w b) : near (o.jn a b) := by
  have hs : sgn a b = 1 ∨ sgn a b = -1 := by unfold sgn; split; exact .inr rfl; exact .inl rfl
  unfold Olr.jn
  split
  · exact near_dsc h (sm_le hb.1.p (by omega))
  · split
    · exact h
    · split
      · rename_i hj
        exact near_add h (Nat.le_refl _) (sm4 (sm_le hb.1.p (by omega)) (sm_add hs hb.1.p ha.1.n (by omega)) (sm_add hs hb.1.p (tip_near hw ha.2 hb.2 (by have := hj.2.1; omega)) (by omega)) (sm_add hs hb.1.p hb.1.n (by omega)))
      · exact near_add h (by omega) (sm3 (sm_le hb.1.p (by omega)) (sm_add hs hb.1.p ha.1.n (by omega)) (sm_add hs hb.1.p hb.1.n (by omega)))
theorem near_cp {w : Int} {o : Olr} {a b : Sid} (h : near o) (ha : TN w a) (hb : TN w b) : near (o.cp a b) := by
  unfold Olr.cp
  split
  · exact near_dsc2 h (sm_le ha.1.p (by omega)) (sm_le hb.1.q (by omega))
  · split
    · have a1 := sm_addP 230 ha.1.p ha.1.n (by omega)
      have a2 := sm_subP 230 ha.1.p ha.1.n (by omega)
      have b1 := sm_addP 230 hb.1.q hb.1.n (by omega)
      have b2 := sm_subP 230 hb.1.q hb.1.n (by omega)
      exact near_add (near_add h (Nat.le_refl _) (sm4 (sm_le a1 (by omega)) (sm_le a2 (by omega)) (sm_subP _ a2 ha.1.e (by omega)) (sm_subP _ a1 ha.1.e (by omega)))) (Nat.le_refl _) (sm4 (sm_le b1 (by omega)) (sm_le b2 (by omega)) (sm_addP _ b2 hb.1.e (by omega)) (sm_addP _ b1 hb.1.e (by omega)))
    · exact h
theorem near_dt {o : Olr} {v : Pt} (h : near o) (hw : 0 ≤ o.w ∧ o.w ≤ 60) (hv : small 200 v) : near (o.dt v) := by
  have hn := nr_in (b := 2) (x := o.w) (M := 60) (by omega) (by omega) ⟨by omega, by omega⟩
  have h2 : -60 ≤ 0 - nr o.w 2 ∧ 0 - nr o.w 2 ≤ 60 := by omega
  unfold Olr.dt
  split
  · exact near_dsc h (sm_le hv (by omega))
  · split
    · exact near_add h (Nat.le_refl _) (sm4 (sm_addP _ hv (sm h2 h2) (by omega)) (sm_addP _ hv (sm h2 hn) (by omega)) (sm_addP _ hv (sm hn hn) (by omega)) (sm_addP _ hv (sm hn h2) (by omega)))
    · exact h
theorem near_sds {w : Int} {o : Olr} {S : Nat → Sid} (h : near o) : ∀ i, (∀ k, k < i → TN w (S k)) → near (o.sds S i)
  | 0, _ => h
  | i + 1, hS => by
    have t := hS i (Nat.lt_succ_self i)
    exact near_add (near_sds h i fun k hk => hS k (by omega)) (Nat.le_refl _) (sm4 (sm_addP _ t.1.p t.1.n (by omega)) (sm_addP _ t.1.q t.1.n (by omega)) (sm_subP _ t.1.q t.1.n (by omega)) (sm_subP _ t.1.p t.1.n (by omega)))
theorem near_jns {w : Int} (hw : 1 ≤ w ∧ w ≤ 60) {o : Olr} {S : Nat → Sid} (h : near o) : ∀ i, (∀ k, k < i + 1 → TN w (S k)) → near (o.jns S i)
  | 0, _ => h
  | i + 1, hS => near_jn hw (near_jns hw h i fun k hk => hS k (by omega)) (hS i (by omega)) (hS (i + 1) (by omega))
/-- What an outline has. -/
theorem ln_near {s : Sty} {l : Li} (hs : Sty.tiny s) (hl : tiny l) : near (lnO s l) ∧ (lnO s l).n ≤ 20 ∧ (lnO s l).k ≤ 20 := by
  have h0 : near (o0 s) := ⟨fun t ht => absurd ht (Nat.not_lt_zero _), fun t ht => absurd ht (Nat.not_lt_zero _)⟩
  obtain ⟨⟨⟨⟨w0, w1⟩, -⟩, -⟩, w2⟩ := hs
  have hw : 0 ≤ (o0 s).w ∧ (o0 s).w ≤ 60 := ⟨show 0 ≤ s.w by omega, w2⟩
  have hcl := cl_len l
  have hln := hl.1
  unfold lnO Olr.ln
  split
  · split
    · refine ⟨near_dt h0 hw (cl_tiny hl (by omega)), ?_⟩
      unfold Olr.dt
      split
      · exact ⟨show 0 ≤ 20 by omega, show 0 + 1 ≤ 20 by omega⟩
      · split
        · exact ⟨show 0 + 1 ≤ 20 by omega, show 0 ≤ 20 by omega⟩
        · exact ⟨show 0 ≤ 20 by omega, show 0 ≤ 20 by omega⟩
    · exact ⟨h0, show 0 ≤ 20 by omega, show 0 ≤ 20 by omega⟩
  · have h2 : 2 ≤ (clean l).length := by omega
    have en : sdN l (clean l).length = if l.c = true then (clean l).length else (clean l).length - 1 := if_neg (Nat.lt_irrefl _)
    have hN : sdN l (clean l).length ≤ 8 ∧ 1 ≤ sdN l (clean l).length := by rw [en]; split <;> omega
    have T : ∀ k, k < sdN l (clean l).length → TN s.w (sdA (o0 s).w l k) := fun k hk => sd_tn ⟨w0, w2⟩ hl h2 hk
    generalize sdA (o0 s).w l = S at T ⊢
    generalize sdN l (clean l).length = c at hN T ⊢
    have g1 := near_sds h0 c T
    have g2 := near_jns ⟨w0, w2⟩ (S := S) g1 (c - 1) fun k hk => T k (by omega)
    obtain ⟨-, b1, b2⟩ := sds_keeps (o0 s) S c
    obtain ⟨-, d1, d2⟩ := jns_keeps ((o0 s).sds S c) S (c - 1)
    have z1 : (o0 s).n = 0 := rfl
    have z2 : (o0 s).k = 0 := rfl
    unfold Olr.ends
    split
    · obtain ⟨-, f1, f2⟩ := jn_keeps (((o0 s).sds S c).jns S (c - 1)) (S (c - 1)) (S 0)
      exact ⟨near_jn ⟨w0, w2⟩ g2 (T _ (by omega)) (T _ (by omega)), by omega, by omega⟩
    · refine ⟨near_cp g2 (T _ (by omega)) (T _ (by omega)), ?_⟩
      generalize ((o0 s).sds S c).jns S (c - 1) = o at d1 d2 ⊢
      unfold Olr.cp
      split
      · exact ⟨show o.n ≤ 20 by omega, show o.k + 2 ≤ 20 by omega⟩
      · split
        · exact ⟨show o.n + 1 + 1 ≤ 20 by omega, show o.k ≤ 20 by omega⟩
        · exact ⟨by omega, by omega⟩
theorem near_flip {o : Olr} (h : near o) (i : Nat) : near (o.flip i) := by
  refine ⟨fun t ht => ⟨(h.1 t ht).1, fun j hj => ?_⟩, h.2⟩
  have hj : j < o.m t := hj
  show small 7692 ⟨bif decide (t < i ∧ neg o t) then (o.p t (o.m t - 1 - j)).x else (o.p t j).x, bif decide (t < i ∧ neg o t) then (o.p t (o.m t - 1 - j)).y else (o.p t j).y⟩
  by_cases e : t < i ∧ neg o t
  · rw [decide_eq_true e]; exact (h.1 t ht).2 _ (by omega)
  · rw [decide_eq_false e]; exact (h.1 t ht).2 j hj
theorem out_near {s : Sty} {l : Li} (hs : Sty.tiny s) (hl : tiny l) : near (outX s l) ∧ (outX s l).n ≤ 20 ∧ (outX s l).k ≤ 20 := by
  rw [outX_eq]
  obtain ⟨a, b, c⟩ := ln_near hs hl
  exact ⟨near_flip a _, b, c⟩
/-! Edges. -/
def shE (v : Pt) (e : Ed) : Ed := ⟨e.x + v.x, e.y + v.y, e.en + v.y, e.dx, e.dy, e.s⟩
theorem mkE_sh (a b v : Pt) : mkE (addP a v) (addP b v) = (mkE a b).map (shE v) := by
  have e1 : b.x + v.x - (a.x + v.x) = b.x - a.x := by omega
  have e2 : b.y + v.y - (a.y + v.y) = b.y - a.y := by omega
  have e3 : a.x + v.x - (b.x + v.x) = a.x - b.x := by omega
  have e4 : a.y + v.y - (b.y + v.y) = a.y - b.y := by omega
  unfold mkE
  show (if a.y + v.y < b.y + v.y then [(⟨a.x + v.x, a.y + v.y, b.y + v.y, b.x + v.x - (a.x + v.x), b.y + v.y - (a.y + v.y), 1⟩ : Ed)] else if b.y + v.y < a.y + v.y then [⟨b.x + v.x, b.y + v.y, a.y + v.y, a.x + v.x - (b.x + v.x), a.y + v.y - (b.y + v.y), -1⟩] else []) = _
  rw [e1, e2, e3, e4]
  by_cases c1 : a.y < b.y
  · rw [if_pos c1, if_pos (by omega)]; rfl
  · rw [if_neg c1, if_neg (by omega)]
    by_cases c2 : b.y < a.y
    · rw [if_pos c2, if_pos (by omega)]; rfl
    · rw [if_neg c2, if_neg (by omega)]; rfl
theorem ed_sh (v : Pt) {l u : Li} (hn : u.n = l.n) (hf : ∀ i, i < l.n → u.f i = addP (l.f i) v) : ∀ j, j ≤ l.n → u.ed j = (l.ed j).map (shE v)
  | 0, _ => rfl
  | j + 1, hj => by
    show u.ed j ++ mkE (u.f j) (u.f ((j + 1) % u.n)) = (l.ed j ++ mkE (l.f j) (l.f ((j + 1) % l.n))).map (shE v)
    rw [ed_sh v hn hf j (by omega), hn, hf j (by omega), hf _ (Nat.mod_lt _ (by omega)), mkE_sh, List.map_append]
theorem first_sh {e : Ed} (h : e.ok) (v : Pt) (y : Int) : (shE v e).first (y + v.y) = e.first y + v.x := by
  have hd := h.2.2.1.1
  have en : (shE v e).num (y + v.y) = e.num y + 2 * e.dy * v.x := by
    show 2 * e.dy * (e.x + v.x) + e.dx * (2 * (y + v.y - (e.y + v.y)) + 1) - e.dy = 2 * e.dy * e.x + e.dx * (2 * (y - e.y) + 1) - e.dy + 2 * e.dy * v.x
    rw [show y + v.y - (e.y + v.y) = y - e.y by omega, Int.mul_add]; omega
  unfold Ed.first
  rw [en]
  show -(-(e.num y + 2 * e.dy * v.x) / (2 * e.dy)) = -(-e.num y / (2 * e.dy)) + v.x
  rw [show -(e.num y + 2 * e.dy * v.x) = -e.num y + 2 * e.dy * (-v.x) by rw [Int.mul_neg]; omega, Int.add_mul_ediv_left _ _ (by omega)]
  omega
theorem eI_map (v : Pt) {E : List Ed} {k : Nat} (h : k < E.length) : eI (E.map (shE v)) k = shE v (eI E k) := by
  unfold eI
  rw [List.getD_eq_getElem?_getD, List.getD_eq_getElem?_getD, List.getElem?_map, List.getElem?_eq_getElem h]
  rfl
theorem wE_sh (v : Pt) {E : List Ed} (h : ∀ e ∈ E, e.ok) (y x : Int) : wE (eI (E.map (shE v))) (E.map (shE v)).length y x = wE (eI E) E.length (y - v.y) (x - v.x) := by
  unfold wE
  rw [List.length_map]
  refine sumN_congr (fun k hk => ?_)
  have ok := h _ (eI_mem hk)
  rw [eI_map v hk]
  generalize eI E k = e at ok
  have f := first_sh ok v (y - v.y)
  rw [show y - v.y + v.y = y by omega] at f
  have o : (Ed.on (shE v e) y = true ∧ (shE v e).first y ≤ x) ↔ (Ed.on e (y - v.y) = true ∧ e.first (y - v.y) ≤ x - v.x) := by
    unfold Ed.on
    rw [f, decide_eq_true_iff, decide_eq_true_iff]
    show ((e.y + v.y ≤ y ∧ y < e.en + v.y) ∧ e.first (y - v.y) + v.x ≤ x) ↔ _
    omega
  by_cases c : Ed.on e (y - v.y) = true ∧ e.first (y - v.y) ≤ x - v.x
  · rw [if_pos c, if_pos (o.2 c)]; rfl
  · rw [if_neg c, if_neg (fun h => c (o.1 h))]
/-- An edge within a square. -/
structure Ew (M : Int) (e : Ed) : Prop where
  x : -M ≤ e.x ∧ e.x ≤ M
  x2 : -M ≤ e.x + e.dx ∧ e.x + e.dx ≤ M
  y : -M ≤ e.y ∧ e.en ≤ M
theorem mkE_w {M : Int} {a b : Pt} (ha : small M a) (hb : small M b) : ∀ e ∈ mkE a b, Ew M e := by
  obtain ⟨a1, a2⟩ := ha
  obtain ⟨b1, b2⟩ := hb
  intro e he
  unfold mkE at he
  split at he
  · rw [List.mem_singleton.1 he]
    exact ⟨a1, by show -M ≤ a.x + (b.x - a.x) ∧ a.x + (b.x - a.x) ≤ M; omega, a2.1, b2.2⟩
  · split at he
    · rw [List.mem_singleton.1 he]
      exact ⟨b1, by show -M ≤ b.x + (a.x - b.x) ∧ b.x + (a.x - b.x) ≤ M; omega, b2.1, a2.2⟩
    · exact (List.not_mem_nil he).elim
theorem ed_w {M : Int} {l : Li} (h : ∀ i, i < l.n → small M (l.f i)) : ∀ j, j ≤ l.n → ∀ e ∈ l.ed j, Ew M e
  | 0, _, e, he => (List.not_mem_nil he).elim
  | j + 1, hj, e, he => by
    rcases List.mem_append.1 he with he | he
    · exact ed_w h j (by omega) e he
    · exact mkE_w (h j (by omega)) (h _ (Nat.mod_lt _ (by omega))) e he
/-- Outside of the square is nothing. -/
theorem far {M : Int} {E : List Ed} (h : ∀ e ∈ E, e.ok) (hw : ∀ e ∈ E, Ew M e) (ht : ∀ y, tot (eI E) E.length y = 0) {y x : Int} (hn : wE (eI E) E.length y x ≠ 0) : (-M ≤ y ∧ y < M) ∧ -M ≤ x ∧ x < M := by
  have zero : (∀ k, k < E.length → ¬ (Ed.on (eI E k) y = true ∧ (eI E k).first y ≤ x)) → wE (eI E) E.length y x = 0 := fun hz => by
    unfold wE
    exact (sumN_congr (ψ := fun _ => 0) (fun k hk => if_neg (hz k hk))).trans ((sumN_zero (Nat.zero_le _) (fun _ _ _ => rfl)))
  have onw : ∀ k, k < E.length → Ed.on (eI E k) y = true → (-M ≤ y ∧ y < M) ∧ -M ≤ (eI E k).first y ∧ (eI E k).first y ≤ M := fun k hk ho => by
    have w := hw _ (eI_mem hk)
    have o := of_decide_eq_true ho
    have f := first_M (h _ (eI_mem hk)) w.x w.x2 o
    have := w.y
    omega
  have hy : -M ≤ y ∧ y < M := Classical.byContradiction fun hc => hn (zero fun k hk ho => hc (onw k hk ho.1).1)
  have hx : -M ≤ x := Classical.byContradiction fun hc => hn (zero fun k hk ho => by have := onw k hk ho.1; omega)
  refine ⟨hy, hx, Classical.byContradiction fun hc => hn ?_⟩
  rw [← ht y]
  unfold wE tot
  refine sumN_congr (fun k hk => ?_)
  by_cases ho : Ed.on (eI E k) y = true
  · rw [if_pos ho, if_pos ⟨ho, by have := onw k hk ho; omega⟩]
  · rw [if_neg ho, if_neg (fun h => ho h.1)]
/-! Sets of cells. -/
theorem mem_sh (dx dy : Int) (L : List Rn) (y x : Int) : mem (L.map (shR dx dy)) y x = mem L (y - dy) (x - dx) := by
  rw [Bool.eq_iff_iff, mem_iff, mem_iff]
  constructor
  · rintro ⟨r, hr, h1, h2, h3⟩
    obtain ⟨s, hs, rfl⟩ := List.mem_map.1 hr
    have h1 : s.y + dy = y := h1
    have h2 : s.x0 + dx ≤ x := h2
    have h3 : x < s.x1 + dx := h3
    exact ⟨s, hs, by omega, by omega, by omega⟩
  · rintro ⟨s, hs, h1, h2, h3⟩
    exact ⟨_, List.mem_map.2 ⟨s, hs, rfl⟩, by show s.y + dy = y; omega, by show s.x0 + dx ≤ x; omega, by show x < s.x1 + dx; omega⟩
def inSq (r : Rn) : Prop := (-7692 ≤ r.y ∧ r.y < 7692) ∧ (-7692 ≤ r.x0 ∧ r.x1 ≤ 7692) ∧ r.x0 < r.x1
theorem inSq_ok {r : Rn} (h : inSq r) {dx dy : Int} (hx : -500 ≤ dx ∧ dx ≤ 500) (hy : -500 ≤ dy ∧ dy ≤ 500) : okR (shR dx dy r) := by
  unfold inSq at h
  unfold okR shR
  show ((-8192 ≤ r.y + dy ∧ r.y + dy < 8192) ∧ (-8192 ≤ r.x0 + dx ∧ r.x0 + dx ≤ 8192) ∧ -8192 ≤ r.x1 + dx ∧ r.x1 + dx ≤ 8192) ∧ r.x0 + dx < r.x1 + dx
  omega
theorem sq_of {L : List Rn} (hv : vld L) (h : ∀ y x, mem L y x = true → (-7692 ≤ y ∧ y < 7692) ∧ -7692 ≤ x ∧ x < 7692) : ∀ r ∈ L, inSq r := fun r hr => by
  have ok := (hv.1 r hr).2
  have h1 := h r.y r.x0 ((mem_iff _ _ _).2 ⟨r, hr, rfl, Int.le_refl _, ok⟩)
  have h2 := h r.y (r.x1 - 1) ((mem_iff _ _ _).2 ⟨r, hr, rfl, by omega, by omega⟩)
  unfold inSq
  omega
theorem ofSet_sh {χ ψ : Int → Int → Bool} {dx dy : Int} (hx : -500 ≤ dx ∧ dx ≤ 500) (hy : -500 ≤ dy ∧ dy ≤ 500) (hb : ∀ y x, χ y x = true → (-7692 ≤ y ∧ y < 7692) ∧ -7692 ≤ x ∧ x < 7692) (hs : ∀ y x, ψ y x = χ (y - dy) (x - dx)) : ofSet ψ = (ofSet χ).map (shR dx dy) := by
  have hm := ofSet_mem (χ := χ) (fun y x h => by have := hb y x h; omega)
  have hq := sq_of (ofSet_vld χ) (fun y x h => hb y x (by rw [← hm]; exact h))
  refine ofSet_eq (sh_vld (ofSet_vld χ) (fun r hr => inSq_ok (hq r hr) hx hy)) (fun y x => ?_)
  show mem ((ofSet χ).map (shR dx dy)) y x = _
  rw [mem_sh, hm, hs]
theorem ofSet_sq {χ : Int → Int → Bool} (hb : ∀ y x, χ y x = true → (-7692 ≤ y ∧ y < 7692) ∧ -7692 ≤ x ∧ x < 7692) : ∀ r ∈ ofSet χ, inSq r :=
  sq_of (ofSet_vld χ) (fun y x h => hb y x (by rw [← ofSet_mem (χ := χ) (fun y x h => by have := hb y x h; omega)]; exact h))
/-! A part. -/
theorem one_E (l : Li) (g : Nat → Li) (h : g 0 = l) : Lns.E ⟨1, g⟩ = l.ed l.n := by
  show [] ++ (g 0).ed (g 0).n = _
  rw [h]; rfl
theorem chi_far {l : Li} (hl : l.fin) (hm : ∀ i, i < l.n → small 7692 (l.f i)) {y x : Int} (h : wE (eI (l.ed l.n)) (l.ed l.n).length y x ≠ 0) : (-7692 ≤ y ∧ y < 7692) ∧ -7692 ≤ x ∧ x < 7692 := by
  refine far (Li.ed_ok hl l.n (Nat.le_refl _)) (ed_w hm l.n (Nat.le_refl _)) (fun y => ?_) h
  have := bal ⟨1, fun _ => l⟩ y
  rw [one_E l _ rfl] at this
  exact this
theorem ins_ne {n : Int} (h : ins1 n = true) : n ≠ 0 := of_decide_eq_true h
theorem part_sq {l : Li} (hl : l.fin) (hm : ∀ i, i < l.n → small 7692 (l.f i)) : ∀ r ∈ ofSet (chi ins1 (eI (l.ed l.n)) (l.ed l.n).length), inSq r := by
  refine ofSet_sq (fun y x h => ?_)
  unfold chi at h
  rw [Bool.and_eq_true] at h
  exact chi_far hl hm (ins_ne h.2)
theorem part_sh {v : Pt} (hx : -500 ≤ v.x ∧ v.x ≤ 500) (hy : -500 ≤ v.y ∧ v.y ≤ 500) {l u : Li} (hl : l.fin) (hm : ∀ i, i < l.n → small 7692 (l.f i)) (hn : u.n = l.n) (hf : ∀ i, i < l.n → u.f i = addP (l.f i) v) :
    ofSet (chi ins1 (eI (u.ed u.n)) (u.ed u.n).length) = (ofSet (chi ins1 (eI (l.ed l.n)) (l.ed l.n).length)).map (shR v.x v.y) := by
  refine ofSet_sh hx hy (fun y x h => ?_) (fun y x => ?_)
  · unfold chi at h
    rw [Bool.and_eq_true] at h
    exact chi_far hl hm (ins_ne h.2)
  · have eu : u.ed u.n = (l.ed l.n).map (shE v) := by rw [hn]; exact ed_sh v hn hf _ (Nat.le_refl _)
    unfold chi
    rw [eu, wE_sh v (Li.ed_ok hl l.n (Nat.le_refl _))]
    by_cases c : wE (eI (l.ed l.n)) (l.ed l.n).length (y - v.y) (x - v.x) = 0
    · rw [c, show ins1 0 = false from rfl, Bool.and_false, Bool.and_false]
    · have f := chi_far hl hm c
      rw [decide_eq_true (show (-8192 ≤ y ∧ y < 8192) ∧ -8192 ≤ x ∧ x < 8192 by omega), decide_eq_true (show (-8192 ≤ y - v.y ∧ y - v.y < 8192) ∧ -8192 ≤ x - v.x ∧ x - v.x < 8192 by omega)]
theorem near_fin {o : Olr} (h : near o) {t : Nat} (ht : t < o.n) : (o.li t).fin ∧ ∀ i, i < (o.li t).n → small 7692 ((o.li t).f i) :=
  ⟨⟨by have := (h.1 t ht).1; show o.m t ≤ 1024; omega, fun j hj => sm_le ((h.1 t ht).2 j hj) (by omega)⟩, (h.1 t ht).2⟩
theorem win_fill (o : Olr) (k : Nat) : fillL ins1 (winL o k) = ofSet (chi ins1 (eI ((o.li k).ed (o.li k).n)) ((o.li k).ed (o.li k).n).length) := by
  unfold fillL
  rw [winL_eq, one_E (o.li k) _ rfl]
theorem fR_sh {v : Pt} (hx : -500 ≤ v.x ∧ v.x ≤ 500) (hy : -500 ≤ v.y ∧ v.y ≤ 500) {o u : Olr} (h : ShO v o u) (hn : near o) : ∀ i, i ≤ o.n → fR u i = (fR o i).map (shR v.x v.y) ∧ ∀ r ∈ fR o i, inSq r
  | 0, _ => ⟨rfl, fun r hr => (List.not_mem_nil hr).elim⟩
  | i + 1, hi => by
    obtain ⟨a, b⟩ := fR_sh hx hy h hn i (by omega)
    obtain ⟨f1, f2⟩ := near_fin hn (show i < o.n by omega)
    refine ⟨?_, fun r hr => ?_⟩
    · show fR u i ++ fillL ins1 (winL u i) = (fR o i ++ fillL ins1 (winL o i)).map (shR v.x v.y)
      rw [a, win_fill, win_fill, List.map_append, part_sh hx hy (l := o.li i) (u := u.li i) f1 f2 (h.m i (by omega)) (fun j hj => h.p i (by omega) j hj)]
    · rcases List.mem_append.1 hr with hr | hr
      · exact b r hr
      · rw [win_fill] at hr
        exact part_sq f1 f2 r hr
/-! A disc. -/
theorem isq_mono {n : Nat} {w : Int} (hw : 0 ≤ w) (h : (n : Int) ≤ w * w) : (isq n : Int) ≤ w := by
  refine Int.not_lt.1 fun hc => ?_
  have h1 := (isq_spec n).1
  have h2 : (w + 1) * (w + 1) ≤ (isq n : Int) * (isq n : Int) := Int.mul_le_mul (by omega) (by omega) (by omega) (by omega)
  have h3 : (isq n : Int) * (isq n : Int) ≤ n := by rw [← Int.natCast_mul]; exact Int.ofNat_le.2 h1
  rw [Int.add_mul, Int.mul_add] at h2
  omega
theorem k_in {c : Pt} {w y : Int} (hw : 1 ≤ w ∧ w ≤ 60) : 0 ≤ dK c w y ∧ dK c w y ≤ 31 := by
  have hr : dRest c w y ≤ w * w := by unfold dRest; have := sqn (2 * y + 1 - 2 * c.y); omega
  have ww := sqn w
  have h := isq_mono (n := (dRest c w y).toNat) (w := w) (by omega) (by omega)
  unfold dK
  rw [Int.tdiv_eq_ediv_of_nonneg (by omega)]
  omega
theorem h_in {w : Int} (hw : 1 ≤ w ∧ w ≤ 60) : 0 ≤ dH w ∧ dH w ≤ 31 := by
  unfold dH
  rw [Int.tdiv_eq_ediv_of_nonneg (by omega)]
  omega
theorem dRow_sh {v c : Pt} (hx : -500 ≤ v.x ∧ v.x ≤ 500) (hc : small 200 c) {w : Int} (hw : 1 ≤ w ∧ w ≤ 60) (y : Int) : dRow (addP c v) w (y + v.y) = (dRow c w y).map (shR v.x v.y) := by
  have er : dRest (addP c v) w (y + v.y) = dRest c w y := by
    unfold dRest
    rw [show 2 * (y + v.y) + 1 - 2 * (addP c v).y = 2 * y + 1 - 2 * c.y by show 2 * (y + v.y) + 1 - 2 * (c.y + v.y) = _; omega]
  have ek : dK (addP c v) w (y + v.y) = dK c w y := by unfold dK; rw [er]
  have k := k_in (c := c) (y := y) hw
  have c1 := hc.1
  have e0 : dX0 (addP c v) w (y + v.y) = dX0 c w y + v.x := by
    unfold dX0
    rw [ek]
    show (if (-8192 : Int) > c.x + v.x - dK c w y then -8192 else c.x + v.x - dK c w y) = (if (-8192 : Int) > c.x - dK c w y then -8192 else c.x - dK c w y) + v.x
    rw [if_neg (by omega), if_neg (by omega)]; omega
  have e1 : dX1 (addP c v) w (y + v.y) = dX1 c w y + v.x := by
    unfold dX1
    rw [ek]
    show (if (8192 : Int) < c.x + v.x + dK c w y then 8192 else c.x + v.x + dK c w y) = (if (8192 : Int) < c.x + dK c w y then 8192 else c.x + dK c w y) + v.x
    rw [if_neg (by omega), if_neg (by omega)]; omega
  unfold dRow
  rw [er, e0, e1]
  by_cases h1 : dRest c w y < 1
  · rw [if_pos h1, if_pos h1]; rfl
  · rw [if_neg h1, if_neg h1]
    by_cases h2 : dX0 c w y < dX1 c w y
    · rw [if_pos h2, if_pos (by omega)]; rfl
    · rw [if_neg h2, if_neg (by omega)]; rfl
theorem dY_sh {v c : Pt} (hy : -500 ≤ v.y ∧ v.y ≤ 500) (hc : small 200 c) {w : Int} (hw : 1 ≤ w ∧ w ≤ 60) : dY0 (addP c v) w = dY0 c w + v.y ∧ dN (addP c v) w = dN c w ∧ dY0 c w = c.y - dH w ∧ (dN c w : Int) = 2 * dH w + 1 := by
  have k := h_in hw
  have c1 := hc.2
  have e0 : dY0 c w = c.y - dH w := if_neg (by omega)
  have e1 : dY1 c w = c.y + dH w := if_neg (by omega)
  have f0 : dY0 (addP c v) w = c.y + v.y - dH w := if_neg (by show ¬ (-8192 : Int) > c.y + v.y - dH w; omega)
  have f1 : dY1 (addP c v) w = c.y + v.y + dH w := if_neg (by show ¬ (8191 : Int) < c.y + v.y + dH w; omega)
  unfold dN
  rw [e0, e1, f0, f1]
  omega
theorem dsk_sh {v c : Pt} (hx : -500 ≤ v.x ∧ v.x ≤ 500) (hy : -500 ≤ v.y ∧ v.y ≤ 500) (hc : small 200 c) {w : Int} (hw : 1 ≤ w ∧ w ≤ 60) : ∀ i, dsk (addP c v) w i = (dsk c w i).map (shR v.x v.y) ∧ (i ≤ dN c w → ∀ r ∈ dsk c w i, inSq r)
  | 0 => ⟨rfl, fun _ r hr => (List.not_mem_nil hr).elim⟩
  | i + 1 => by
    obtain ⟨a, b⟩ := dsk_sh hx hy hc hw i
    obtain ⟨y1, y2, y3, y4⟩ := dY_sh (v := v) hy hc hw
    refine ⟨?_, fun hi r hr => ?_⟩
    · show dsk (addP c v) w i ++ dRow (addP c v) w (dY0 (addP c v) w + i) = (dsk c w i ++ dRow c w (dY0 c w + i)).map (shR v.x v.y)
      rw [a, y1, show dY0 c w + v.y + (i : Int) = dY0 c w + i + v.y by omega, dRow_sh hx hc hw, List.map_append]
    · rcases List.mem_append.1 hr with hr | hr
      · exact b (by omega) r hr
      · have k := k_in (c := c) (y := dY0 c w + i) hw
        have hh := h_in hw
        have c1 := hc.1
        have c2 := hc.2
        unfold dRow at hr
        split at hr
        · exact (List.not_mem_nil hr).elim
        · split at hr
          · rename_i hlt
            rw [List.mem_singleton.1 hr]
            have e0 : dX0 c w (dY0 c w + i) = c.x - dK c w (dY0 c w + i) := if_neg (by omega)
            have e1 : dX1 c w (dY0 c w + i) = c.x + dK c w (dY0 c w + i) := if_neg (by omega)
            unfold inSq
            show (-7692 ≤ dY0 c w + i ∧ dY0 c w + i < 7692) ∧ (-7692 ≤ dX0 c w (dY0 c w + i) ∧ dX1 c w (dY0 c w + i) ≤ 7692) ∧ dX0 c w (dY0 c w + i) < dX1 c w (dY0 c w + i)
            omega
          · exact (List.not_mem_nil hr).elim
theorem dR_sh {v : Pt} (hx : -500 ≤ v.x ∧ v.x ≤ 500) (hy : -500 ≤ v.y ∧ v.y ≤ 500) {o u : Olr} (h : ShO v o u) (hn : near o) {w : Int} (hw : 1 ≤ w ∧ w ≤ 60) : ∀ i, i ≤ o.k → dR u w i = (dR o w i).map (shR v.x v.y) ∧ ∀ r ∈ dR o w i, inSq r
  | 0, _ => ⟨rfl, fun r hr => (List.not_mem_nil hr).elim⟩
  | i + 1, hi => by
    obtain ⟨a, b⟩ := dR_sh hx hy h hn hw i (by omega)
    have hc := hn.2 i (by omega)
    obtain ⟨y1, y2, y3, y4⟩ := dY_sh (v := v) hy hc hw
    obtain ⟨d1, d2⟩ := dsk_sh hx hy hc hw (dN (o.d i) w)
    refine ⟨?_, fun r hr => ?_⟩
    · show dR u w i ++ dsk (u.d i) w (dN (u.d i) w) = (dR o w i ++ dsk (o.d i) w (dN (o.d i) w)).map (shR v.x v.y)
      rw [a, h.d i (by omega), y2, d1, List.map_append]
    · rcases List.mem_append.1 hr with hr | hr
      · exact b r hr
      · exact d2 (Nat.le_refl _) r hr
/-! The whole. -/
theorem line_sh {v : Pt} (hx : -500 ≤ v.x ∧ v.x ≤ 500) (hy : -500 ≤ v.y ∧ v.y ≤ 500) {s : Sty} (hs : Sty.tiny s) {l : Li} (hl : tiny l) : lineR s (shLi v l) = (lineR s l).map (shR v.x v.y) ∧ ∀ r ∈ lineR s l, inSq r := by
  have h := out_sh v s l
  obtain ⟨hn, -, -⟩ := out_near hs hl
  have hw : 1 ≤ s.w ∧ s.w ≤ 60 := ⟨hs.1.1.1.1, hs.2⟩
  obtain ⟨a1, a2⟩ := fR_sh hx hy h hn _ (Nat.le_refl _)
  obtain ⟨b1, b2⟩ := dR_sh hx hy h hn hw _ (Nat.le_refl _)
  unfold lineR
  rw [h.n, h.k, a1, b1, List.map_append]
  exact ⟨rfl, fun r hr => (List.mem_append.1 hr).elim (a2 r) (b2 r)⟩
theorem sR_sh {v : Pt} (hx : -500 ≤ v.x ∧ v.x ≤ 500) (hy : -500 ≤ v.y ∧ v.y ≤ 500) {s : Sty} (hs : Sty.tiny s) {g : Lns} : ∀ i, (∀ k, k < i → tiny (g.f k)) → sR s (shLns v g) i = (sR s g i).map (shR v.x v.y) ∧ ∀ r ∈ sR s g i, inSq r
  | 0, _ => ⟨rfl, fun r hr => (List.not_mem_nil hr).elim⟩
  | i + 1, hg => by
    obtain ⟨a, b⟩ := sR_sh hx hy hs i (fun k hk => hg k (by omega))
    obtain ⟨c, d⟩ := line_sh hx hy hs (hg i (Nat.lt_succ_self i))
    refine ⟨?_, fun r hr => (List.mem_append.1 hr).elim (b r) (d r)⟩
    show sR s (shLns v g) i ++ lineR s (shLi v (g.f i)) = (sR s g i ++ lineR s (g.f i)).map (shR v.x v.y)
    rw [a, c, List.map_append]
/-- The stroke of the shifted lines is the shifted stroke. -/
theorem outR_sh {v : Pt} (hx : -500 ≤ v.x ∧ v.x ≤ 500) (hy : -500 ≤ v.y ∧ v.y ≤ 500) {s : Sty} (hs : Sty.tiny s) {g : Lns} (hg : tinyG g) : outR ⟨shLns v g, s⟩ = (outR ⟨g, s⟩).map (shR v.x v.y) ∧ ∀ r ∈ outR ⟨g, s⟩, inSq r := by
  obtain ⟨a, b⟩ := sR_sh hx hy hs (g := g) g.n hg.2
  have hb : ∀ y x, mem (sR s g g.n) y x = true → (-7692 ≤ y ∧ y < 7692) ∧ -7692 ≤ x ∧ x < 7692 := fun y x h => by
    obtain ⟨r, hr, h1, h2, h3⟩ := (mem_iff _ _ _).1 h
    have := b r hr
    unfold inSq at this
    omega
  rw [out_eq, out_eq]
  refine ⟨ofSet_sh hx hy hb (fun y x => ?_), ofSet_sq hb⟩
  show mem (sR s (shLns v g) g.n) y x = _
  rw [a, mem_sh]
/-- What the contract of Stroke asks, for the shifted lines. -/
theorem str_sh {v : Pt} (hx : -500 ≤ v.x ∧ v.x ≤ 500) (hy : -500 ≤ v.y ∧ v.y ≤ 500) {g : Lns} {s : Sty} (hg : tinyG g) (hs : Sty.tiny s) : StrOK ⟨shLns v g, s⟩ := by
  have hg1 := hg.1
  have shp : ∀ {p : Pt}, small 7692 p → small 32767 (addP p v) := fun {p} h => by
    obtain ⟨h1, h2⟩ := h
    exact sm (by show -32767 ≤ p.x + v.x ∧ p.x + v.x ≤ 32767; omega) (by show -32767 ≤ p.y + v.y ∧ p.y + v.y ≤ 32767; omega)
  have fin : ∀ {o u : Olr}, ShO v o u → near o → o.n ≤ 20 → u.lns.fin := fun {o u} h hn h20 => by
    refine ⟨by show u.n ≤ 1024; rw [h.n]; omega, fun t ht => ?_⟩
    have ht : t < o.n := by rw [← h.n]; exact ht
    have hm := h.m t ht
    refine ⟨by show u.m t ≤ 1024; rw [hm]; have := (hn.1 t ht).1; omega, fun j hj => ?_⟩
    have hj : j < o.m t := by rw [← hm]; exact hj
    show small 32767 (u.p t j)
    rw [h.p t ht j hj]
    exact shp ((hn.1 t ht).2 j hj)
  have lin : ∀ i, i < g.n → ∀ j, j < (g.f i).n → small 32767 (addP ((g.f i).f j) v) := fun i hi j hj => shp (sm_le ((hg.2 i hi).2 j hj) (by omega))
  refine ⟨⟨⟨show g.n ≤ 1024 by omega, fun i hi => ⟨Nat.le_trans (hg.2 i hi).1 (by decide), fun j hj => lin i hi j hj⟩⟩, hs.1⟩, fun i hi => ?_, fun i hi => ?_, fun i hi t ht => ?_, fun i hi t ht => ?_, ?_, sR_ok s _ _⟩
  · obtain ⟨a, b, -⟩ := ln_near hs (hg.2 i hi)
    exact ⟨⟨⟨Nat.le_trans (hg.2 i hi).1 (by decide), fun j hj => lin i hi j hj⟩, hs.1⟩, fin (ln_sh v s (g.f i)) a b⟩
  · obtain ⟨-, b, c⟩ := out_near hs (hg.2 i hi)
    have h := out_sh v s (g.f i)
    show (outX s (shLi v (g.f i))).n ≤ 1024 ∧ (outX s (shLi v (g.f i))).k ≤ 1048576
    rw [h.n, h.k]
    exact ⟨Nat.le_trans b (by decide), Nat.le_trans c (by decide)⟩
  · obtain ⟨a, b, -⟩ := out_near hs (hg.2 i hi)
    exact (fin (out_sh v s (g.f i)) a b).2 t ht
  · obtain ⟨a, -, -⟩ := out_near hs (hg.2 i hi)
    have h := out_sh v s (g.f i)
    have ht : t < (outX s (g.f i)).k := by rw [← h.k]; exact ht
    show small 32767 ((outX s (shLi v (g.f i))).d t)
    rw [h.d t ht]
    exact shp (sm_le (a.2 t ht) (by omega))
  · show (sR s (shLns v g) g.n).length ≤ 100000000
    rw [(sR_sh hx hy hs (g := g) g.n hg.2).1, List.length_map]
    have := sR_len (g := g) hs g.n hg.2
    omega
end Go.Proofs.Ytfjbjbmbdadmhaa.Stu
