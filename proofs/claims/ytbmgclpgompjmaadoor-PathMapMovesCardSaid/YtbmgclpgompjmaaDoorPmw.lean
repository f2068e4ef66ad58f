/- Shifted paths: shifted back, and their bounds (plain law). -/
import Derived.Test.YtbmgclpgompjmaaDoorCvl
import Derived.Test.YtbmgclpgompjmaaDoorPbo
set_option linter.unusedSimpArgs false
set_option linter.unusedVariables false
namespace Go.Proofs.YtbmgclpgompjmaaDoor.Pmw
open Aff Con Cop Coh Pth Pmp Cvl Pbo
theorem shM_ok {dx dy : Int} (hd : -3000 ≤ dx ∧ dx ≤ 3000) (he : -3000 ≤ dy ∧ dy ≤ 3000) : (shM dx dy).chk = 0 := by
  have hm : (shM dx dy).ok = true := by
    unfold Mat.ok shM
    simp only [Bool.and_eq_true, inR_true]
    omega
  unfold Mat.chk
  rw [hm]
  rfl
theorem mapF_1 {g : MaG} : ∀ (m i : Nat), (∀ j, i ≤ j → j < i + m → mapE g.m (g.p.f j) = 0) → g.mapF m i = 0
  | 0, _, _ => rfl
  | m + 1, i, h => by
    unfold MaG.mapF
    rw [if_pos (h i (by omega) (by omega))]
    exact mapF_1 m (i + 1) fun j h1 h2 => h j (by omega) (by omega)
theorem mapF_or {g : MaG} (c : Int) : ∀ (m i : Nat), (∀ j, i ≤ j → j < i + m → mapE g.m (g.p.f j) = 0 ∨ mapE g.m (g.p.f j) = c) → g.mapF m i = 0 ∨ g.mapF m i = c
  | 0, _, _ => .inl rfl
  | m + 1, i, h => by
    unfold MaG.mapF
    by_cases he : mapE g.m (g.p.f i) = 0
    · rw [if_pos he]
      exact mapF_or c m (i + 1) fun j h1 h2 => h j (by omega) (by omega)
    · rw [if_neg he]
      exact h i (by omega) (by omega)
theorem seg_in {s : Seg} (h : segE s = 0) : inC s.x ∧ inC s.y ∧ inC s.u ∧ inC s.v := by
  have h1 : s.inB = 0 := by
    unfold segE at h
    repeat' (split at h)
    all_goals first | exact h | exact absurd h (by decide)
  unfold Seg.inB at h1
  by_cases hc : inC s.x ∧ inC s.y ∧ inC s.u ∧ inC s.v
  · exact hc
  · rw [if_neg hc] at h1; exact absurd h1 (by decide)
theorem appE_or {dx dy x y : Int} (hd : -3000 ≤ dx ∧ dx ≤ 3000) (he : -3000 ≤ dy ∧ dy ≤ 3000) (h : inC x ∧ inC y) : (shM dx dy).appE x y = 0 ∨ (shM dx dy).appE x y = 10 := by
  have hm : (shM dx dy).ok = true := by
    unfold Mat.ok shM
    simp only [Bool.and_eq_true, inR_true]
    omega
  have hi : (Aff.inR x 32767 && Aff.inR y 32767) = true := by
    simp only [Bool.and_eq_true, inR_true]
    exact h
  unfold Mat.appE
  rw [hm, hi, if_neg (by decide), if_neg (by decide)]
  split
  · exact .inr rfl
  · exact .inl rfl
theorem e_or {p : Pth} {dx dy : Int} (hd : -3000 ≤ dx ∧ dx ≤ 3000) (he : -3000 ≤ dy ∧ dy ≤ 3000) (h : p.chk = 0) : MaG.e ⟨p, shM dx dy⟩ = 0 ∨ MaG.e ⟨p, shM dx dy⟩ = 10 := by
  show (if p.chk = 0 then if (shM dx dy).chk = 0 then MaG.mapF ⟨p, shM dx dy⟩ p.n 0 else (shM dx dy).chk else p.chk) = 0 ∨ (if p.chk = 0 then if (shM dx dy).chk = 0 then MaG.mapF ⟨p, shM dx dy⟩ p.n 0 else (shM dx dy).chk else p.chk) = 10
  rw [if_pos h, if_pos (shM_ok hd he)]
  refine mapF_or 10 _ _ fun j _ hj => ?_
  have hj : j < p.n := by omega
  obtain ⟨c1, c2, c3, c4⟩ := seg_in (seg_ok h hj).2.2
  show mapE (shM dx dy) (p.f j) = 0 ∨ mapE (shM dx dy) (p.f j) = 10
  have a1 := appE_or hd he ⟨c1, c2⟩
  have a2 := appE_or hd he ⟨c3, c4⟩
  unfold mapE
  split
  · exact a1
  · split
    · exact a2
    · exact .inl rfl
structure Shd (dx dy : Int) (s s' : Seg) : Prop where
  k : s'.k = s.k
  xy : s.k ≠ 4 → (inC s.x ∧ inC s.y) ∧ (inC (s.x + dx) ∧ inC (s.y + dy)) ∧ s'.x = s.x + dx ∧ s'.y = s.y + dy
  xy4 : s.k = 4 → s'.x = s.x ∧ s'.y = s.y
  uv : s.k = 3 → (inC s.u ∧ inC s.v) ∧ (inC (s.u + dx) ∧ inC (s.v + dy)) ∧ s'.u = s.u + dx ∧ s'.v = s.v + dy
  uv3 : s.k ≠ 3 → s'.u = s.u ∧ s'.v = s.v
  w : s'.w = s.w
theorem shd {p : Pth} {dx dy : Int} (h : MaG.e ⟨p, shM dx dy⟩ = 0) {i : Nat} (hi : i < p.n) : Shd dx dy (p.f i) ((MaG.out ⟨p, shM dx dy⟩).f i) := by
  have e : mapE (shM dx dy) (p.f i) = 0 := (e_0 h).2.2 i hi
  unfold mapE at e
  refine ⟨rfl, fun h4 => ?_, fun h4 => ⟨if_pos h4, if_pos h4⟩, fun h3 => ?_, fun h3 => ⟨if_neg h3, if_neg h3⟩, rfl⟩
  · by_cases e4 : (shM dx dy).appE (p.f i).x (p.f i).y = 0
    · obtain ⟨a1, a2, a3, a4⟩ := app_0 e4
      refine ⟨a1, a2, ?_, ?_⟩
      · show (if (p.f i).k = 4 then (p.f i).x else (shM dx dy).appX (p.f i).x (p.f i).y) = _
        rw [if_neg h4, a3]
      · show (if (p.f i).k = 4 then (p.f i).y else (shM dx dy).appY (p.f i).x (p.f i).y) = _
        rw [if_neg h4, a4]
    · rw [if_pos ⟨h4, e4⟩] at e
      exact absurd e e4
  · have e4 : ¬ ((p.f i).k ≠ 4 ∧ (shM dx dy).appE (p.f i).x (p.f i).y ≠ 0) := fun hh => by
      rw [if_pos hh] at e
      exact hh.2 e
    rw [if_neg e4, if_pos h3] at e
    obtain ⟨a1, a2, a3, a4⟩ := app_0 e
    refine ⟨a1, a2, ?_, ?_⟩
    · show (if (p.f i).k = 3 then (shM dx dy).appX (p.f i).u (p.f i).v else (p.f i).u) = _
      rw [if_pos h3, a3]
    · show (if (p.f i).k = 3 then (shM dx dy).appY (p.f i).u (p.f i).v else (p.f i).v) = _
      rw [if_pos h3, a4]
theorem seg_ext {s t : Seg} (h1 : s.k = t.k) (h2 : s.x = t.x) (h3 : s.y = t.y) (h4 : s.u = t.u) (h5 : s.v = t.v) (h6 : s.w = t.w) : s = t := by
  obtain ⟨a1, a2, a3, a4, a5, a6⟩ := s
  obtain ⟨b1, b2, b3, b4, b5, b6⟩ := t
  simp only at h1 h2 h3 h4 h5 h6
  rw [h1, h2, h3, h4, h5, h6]
/-- Shifted back. -/
theorem back {p : Pth} {dx dy : Int} (hd : -3000 ≤ dx ∧ dx ≤ 3000) (he : -3000 ≤ dy ∧ dy ≤ 3000) (h : MaG.e ⟨p, shM dx dy⟩ = 0) :
    MaG.e ⟨MaG.out ⟨p, shM dx dy⟩, shM (-dx) (-dy)⟩ = 0 ∧ (MaG.out ⟨MaG.out ⟨p, shM dx dy⟩, shM (-dx) (-dy)⟩).n = p.n ∧ ∀ i, i < p.n → (MaG.out ⟨MaG.out ⟨p, shM dx dy⟩, shM (-dx) (-dy)⟩).f i = p.f i := by
  obtain ⟨m1, m2, m3, _, _⟩ := map_ok h
  have sh := fun i hi => shd h (i := i) hi
  generalize MaG.out ⟨p, shM dx dy⟩ = q at *
  have hd' : -3000 ≤ -dx ∧ -dx ≤ 3000 := by omega
  have he' : -3000 ≤ -dy ∧ -dy ≤ 3000 := by omega
  have eq : MaG.e ⟨q, shM (-dx) (-dy)⟩ = 0 := by
    show (if q.chk = 0 then if (shM (-dx) (-dy)).chk = 0 then MaG.mapF ⟨q, shM (-dx) (-dy)⟩ q.n 0 else (shM (-dx) (-dy)).chk else q.chk) = 0
    rw [if_pos m3, if_pos (shM_ok hd' he')]
    refine mapF_1 _ _ fun j _ hj => ?_
    have hj : j < p.n := by omega
    have s := sh j hj
    show mapE (shM (-dx) (-dy)) (q.f j) = 0
    unfold mapE
    have c : ¬ ((q.f j).k ≠ 4 ∧ (shM (-dx) (-dy)).appE (q.f j).x (q.f j).y ≠ 0) := fun hc => by
      obtain ⟨b1, b2, b3, b4⟩ := s.xy (by rw [← s.k]; exact hc.1)
      refine hc.2 ?_
      rw [b3, b4]
      exact (app_1 hd' he' b2 (by rw [show (p.f j).x + dx + -dx = (p.f j).x by omega, show (p.f j).y + dy + -dy = (p.f j).y by omega]; exact b1)).1
    rw [if_neg c]
    by_cases h3 : (q.f j).k = 3
    · rw [if_pos h3]
      obtain ⟨b1, b2, b3, b4⟩ := s.uv (by rw [← s.k]; exact h3)
      rw [b3, b4]
      exact (app_1 hd' he' b2 (by rw [show (p.f j).u + dx + -dx = (p.f j).u by omega, show (p.f j).v + dy + -dy = (p.f j).v by omega]; exact b1)).1
    · rw [if_neg h3]
  refine ⟨eq, (if_pos eq).trans m2, fun i hi => ?_⟩
  have s := sh i hi
  have s' := shd eq (i := i) (by rw [m2]; exact hi)
  generalize MaG.out ⟨q, shM (-dx) (-dy)⟩ = r at *
  have k := s'.k.trans s.k
  refine seg_ext k ?_ ?_ ?_ ?_ (s'.w.trans s.w)
  · by_cases h4 : (p.f i).k = 4
    · rw [(s'.xy4 (by rw [s.k]; exact h4)).1, (s.xy4 h4).1]
    · rw [(s'.xy (by rw [s.k]; exact h4)).2.2.1, (s.xy h4).2.2.1]; omega
  · by_cases h4 : (p.f i).k = 4
    · rw [(s'.xy4 (by rw [s.k]; exact h4)).2, (s.xy4 h4).2]
    · rw [(s'.xy (by rw [s.k]; exact h4)).2.2.2, (s.xy h4).2.2.2]; omega
  · by_cases h3 : (p.f i).k = 3
    · rw [(s'.uv (by rw [s.k]; exact h3)).2.2.1, (s.uv h3).2.2.1]; omega
    · rw [(s'.uv3 (by rw [s.k]; exact h3)).1, (s.uv3 h3).1]
  · by_cases h3 : (p.f i).k = 3
    · rw [(s'.uv (by rw [s.k]; exact h3)).2.2.2, (s.uv h3).2.2.2]; omega
    · rw [(s'.uv3 (by rw [s.k]; exact h3)).2, (s.uv3 h3).2]
/-- The bounds. -/
theorem bN_sh {p q : Pth} {dx dy : Int} (h : p.chk = 0) (hn : 0 < p.n) (sh : ∀ i, i < p.n → Shd dx dy (p.f i) (q.f i)) : ∀ i, i ≤ p.n → bN q i = ⟨(bN p i).lx + dx, (bN p i).ly + dy, (bN p i).hx + dx, (bN p i).hy + dy⟩
  | 0, _ => by
    have k0 : (p.f 0).k = 1 := (seg_ok h hn).2.1 (.inl rfl)
    obtain ⟨_, _, b3, b4⟩ := (sh 0 hn).xy (by omega)
    show Bd.mk (q.f 0).x (q.f 0).y (q.f 0).x (q.f 0).y = Bd.mk ((p.f 0).x + dx) ((p.f 0).y + dy) ((p.f 0).x + dx) ((p.f 0).y + dy)
    rw [b3, b4]
  | i + 1, hi => by
    have ih := bN_sh h hn sh i (by omega)
    have s := sh i (by omega)
    show bStep (bN q i) (q.f i) = Bd.mk ((bStep (bN p i) (p.f i)).lx + dx) ((bStep (bN p i) (p.f i)).ly + dy) ((bStep (bN p i) (p.f i)).hx + dx) ((bStep (bN p i) (p.f i)).hy + dy)
    rw [ih]
    generalize bN p i = b
    obtain ⟨b1, b2, b3, b4⟩ := b
    unfold bStep
    rw [s.k]
    have gx : ∀ (c1 c2 c3 c4 x y : Int), Bd.gx ⟨c1 + dx, c2 + dy, c3 + dx, c4 + dy⟩ (x + dx) (y + dy) = ⟨(Bd.gx ⟨c1, c2, c3, c4⟩ x y).lx + dx, (Bd.gx ⟨c1, c2, c3, c4⟩ x y).ly + dy, (Bd.gx ⟨c1, c2, c3, c4⟩ x y).hx + dx, (Bd.gx ⟨c1, c2, c3, c4⟩ x y).hy + dy⟩ := fun c1 c2 c3 c4 x y => by
      show Bd.mk (if x + dx < c1 + dx then x + dx else c1 + dx) (if y + dy < c2 + dy then y + dy else c2 + dy) (if x + dx > c3 + dx then x + dx else c3 + dx) (if y + dy > c4 + dy then y + dy else c4 + dy) =
        Bd.mk ((if x < c1 then x else c1) + dx) ((if y < c2 then y else c2) + dy) ((if x > c3 then x else c3) + dx) ((if y > c4 then y else c4) + dy)
      rw [Bd.mk.injEq]
      omega
    by_cases h3 : (p.f i).k = 3
    · obtain ⟨_, _, u1, u2⟩ := s.uv h3
      obtain ⟨_, _, x1, x2⟩ := s.xy (by omega)
      rw [if_pos h3, if_pos h3, u1, u2, x1, x2, gx, gx]
    · rw [if_neg h3, if_neg h3]
      by_cases h12 : (p.f i).k = 1 ∨ (p.f i).k = 2
      · obtain ⟨_, _, x1, x2⟩ := s.xy (by omega)
        rw [if_pos h12, if_pos h12, x1, x2, gx]
      · rw [if_neg h12, if_neg h12]
end Go.Proofs.YtbmgclpgompjmaaDoor.Pmw
