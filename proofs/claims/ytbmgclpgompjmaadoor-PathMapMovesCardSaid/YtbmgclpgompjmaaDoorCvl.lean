/- The plain law behind ConicMoves: a shifted path has shifted lines. -/
import Derived.Test.YtbmgclpgompjmaaDoorPmp
set_option linter.unusedSimpArgs false
set_option linter.unusedVariables false
namespace Go.Proofs.YtbmgclpgompjmaaDoor.Cvl
open Go.RowKit Sx Num Aff Con Cop Coh Pth Flt Pmp
set_option maxRecDepth 100000
def sh (dx dy : Int) (p : Pt) : Pt := ⟨p.x + dx, p.y + dy⟩
def shM (dx dy : Int) : Mat := ⟨4096, 0, 0, 4096, 4096 * dx, 4096 * dy⟩
theorem nr_add {x m d : Int} (hm : 1 ≤ m) : nr (x + d * m) m = nr x m + d := by
  unfold nr
  rw [Int.add_mul_ediv_right _ _ (by omega)]
  have e : x + d * m - (x / m + d) * m = x - x / m * m := by rw [Int.add_mul]; omega
  rw [e]
  split <;> omega
theorem img {dx dy x y : Int} : (shM dx dy).imgX x y = x + dx ∧ (shM dx dy).imgY x y = y + dy := by
  have z : ∀ a b : Int, nr (4096 * a + 0 * b + 4096 * dx) 4096 = a + dx := fun a b => by
    have := nr_add (x := 0) (m := 4096) (d := a + dx) (by decide)
    rw [show 4096 * a + 0 * b + 4096 * dx = 0 + (a + dx) * 4096 by omega, this, show nr 0 4096 = 0 by decide, Int.zero_add]
  have z2 : ∀ a b : Int, nr (0 * a + 4096 * b + 4096 * dy) 4096 = b + dy := fun a b => by
    have := nr_add (x := 0) (m := 4096) (d := b + dy) (by decide)
    rw [show 0 * a + 4096 * b + 4096 * dy = 0 + (b + dy) * 4096 by omega, this, show nr 0 4096 = 0 by decide, Int.zero_add]
  exact ⟨z x y, z2 x y⟩
theorem app_0 {dx dy x y : Int} (h : (shM dx dy).appE x y = 0) : (inC x ∧ inC y) ∧ (inC (x + dx) ∧ inC (y + dy)) ∧ (shM dx dy).appX x y = x + dx ∧ (shM dx dy).appY x y = y + dy := by
  have hX : (shM dx dy).appX x y = x + dx := by unfold Mat.appX; rw [if_pos h]; exact img.1
  have hY : (shM dx dy).appY x y = y + dy := by unfold Mat.appY; rw [if_pos h]; exact img.2
  unfold Mat.appE at h
  split at h
  · omega
  · split at h
    · omega
    · rename_i h1
      split at h
      · omega
      · rename_i h2
        rw [img.1, img.2] at h2
        simp only [Bool.not_eq_false, Bool.and_eq_true, inR_true] at h1 h2
        exact ⟨h1, h2, hX, hY⟩
theorem app_1 {dx dy x y : Int} (hd : -3000 ≤ dx ∧ dx ≤ 3000) (he : -3000 ≤ dy ∧ dy ≤ 3000) (h1 : inC x ∧ inC y) (h2 : inC (x + dx) ∧ inC (y + dy)) : (shM dx dy).appE x y = 0 ∧ (shM dx dy).appX x y = x + dx ∧ (shM dx dy).appY x y = y + dy := by
  have hm : (shM dx dy).ok = true := by
    unfold Mat.ok shM
    simp only [Bool.and_eq_true, inR_true]
    omega
  have e : (shM dx dy).appE x y = 0 := by
    unfold Mat.appE
    rw [hm, if_neg (by decide), if_neg, if_neg]
    · rw [img.1, img.2]
      simp only [Bool.not_eq_false, Bool.and_eq_true, inR_true]
      exact h2
    · simp only [Bool.not_eq_false, Bool.and_eq_true, inR_true]
      exact h1
  exact ⟨e, (app_0 e).2.2⟩
theorem atC_add {x0 x1 x2 w k n d : Int} (hw : 16 ≤ w ∧ w ≤ 4096) (hk : 0 ≤ k ∧ k ≤ n) (hn : 1 ≤ n ∧ n ≤ 1024) : atC (x0 + d) (x1 + d) (x2 + d) w k n = atC x0 x1 x2 w k n + d := by
  have hs := (parts_in hw hk hn).2.2.2.2
  unfold atC
  rw [← nr_add hs]
  congr 1
  unfold sumC
  rw [Int.mul_add, Int.mul_add, Int.mul_add, Int.mul_add, Int.mul_add, Int.mul_comm d, Int.mul_comm d, Int.mul_comm d]
  omega
def shC (dx dy : Int) (c : Cur) : Cur := ⟨c.x0 + dx, c.y0 + dy, c.x1 + dx, c.y1 + dy, c.x2 + dx, c.y2 + dy, c.w⟩
theorem at_sh {dx dy : Int} {c : Cur} {k n : Int} (hw : 16 ≤ c.w ∧ c.w ≤ 4096) (hk : 0 ≤ k ∧ k ≤ n) (hn : 1 ≤ n ∧ n ≤ 1024) : (shC dx dy c).at k n = sh dx dy (c.at k n) := by
  unfold Cur.at shC sh
  simp only
  rw [atC_add hw hk hn, atC_add hw hk hn]
theorem near_sh {dx dy : Int} {a m b : Pt} : nearP ⟨sh dx dy a, sh dx dy m, sh dx dy b⟩ ↔ nearP ⟨a, m, b⟩ := by
  unfold nearP sh
  simp only
  rw [show b.x + dx - (a.x + dx) = b.x - a.x by omega, show b.y + dy - (a.y + dy) = b.y - a.y by omega, show m.x + dx - (a.x + dx) = m.x - a.x by omega, show m.y + dy - (a.y + dy) = m.y - a.y by omega]
  constructor
  · rintro ⟨h1, h2⟩
    exact ⟨by omega, h2⟩
  · rintro ⟨h1, h2⟩
    exact ⟨by omega, h2⟩
theorem flat_sh {dx dy : Int} {c : Cur} {n : Int} (hw : 16 ≤ c.w ∧ c.w ≤ 4096) (hn : 1 ≤ n ∧ n ≤ 512) : flatB (shC dx dy c) n = flatB c n := by
  have mid : ∀ k : Nat, k < n.toNat → (midP (shC dx dy c) n k ↔ midP c n k) := fun k hk => by
    unfold midP
    rw [at_sh hw (by omega) (by omega), at_sh hw (by omega) (by omega), at_sh hw (by omega) (by omega)]
    exact near_sh
  rw [Bool.eq_iff_iff, flatB_iff, flatB_iff]
  exact ⟨fun h k hk => (mid k hk).1 (h k hk), fun h k hk => (mid k hk).2 (h k hk)⟩
theorem div_sh {dx dy : Int} {c : Cur} (hw : 16 ≤ c.w ∧ c.w ≤ 4096) : ∀ (f : Nat) (n : Int), 1 ≤ n → divF f (shC dx dy c) n = divF f c n
  | 0, _, _ => rfl
  | f + 1, n, hn => by
    unfold divF
    by_cases h : n < 512
    · rw [if_pos h, if_pos h, flat_sh hw ⟨hn, by omega⟩, div_sh hw f (n * 2) (by omega)]
    · rw [if_neg h, if_neg h]
/-- A segment and the same one shifted. -/
structure ShG (dx dy : Int) (g g' : PsG) : Prop where
  p : g'.p = sh dx dy g.p
  k : g'.s.k = g.s.k
  x : g'.s.x = g.s.x + dx
  y : g'.s.y = g.s.y + dy
  c : g.s.k = 3 → (g'.s.u = g.s.u + dx ∧ g'.s.v = g.s.v + dy) ∧ g'.s.w = g.s.w
theorem ps_sh {dx dy : Int} {g g' : PsG} (hok : g.ok) (h : ShG dx dy g g') : g'.n = g.n ∧ ∀ i, 0 ≤ i → i < g.n → g'.pt i = sh dx dy (g.pt i) := by
  rcases hok with h2 | ⟨h3, hc⟩
  · have e : g'.s.k = 2 := h.k.trans h2
    unfold PsG.n PsG.pt
    rw [if_pos e, if_pos h2]
    refine ⟨rfl, fun i _ _ => ?_⟩
    rw [if_pos e, if_pos h2, h.x, h.y]
    rfl
  · have n2 : ¬ g.s.k = 2 := by omega
    have e : ¬ g'.s.k = 2 := by rw [h.k]; exact n2
    obtain ⟨⟨eu, ev⟩, ew⟩ := h.c h3
    have ec : g'.cur = shC dx dy g.cur := by
      unfold PsG.cur shC
      rw [h.p, h.x, h.y, eu, ev, ew]
      rfl
    have hw : 16 ≤ g.cur.w ∧ g.cur.w ≤ 4096 := hc.2.2
    have ed : divN g'.cur = divN g.cur := by rw [ec]; exact div_sh hw 9 1 (by decide)
    have hr : 1 ≤ divN g.cur ∧ divN g.cur ≤ 512 := divF_range _ 9 1 (by decide) (by decide)
    unfold PsG.n PsG.pt
    rw [if_neg e, if_neg n2]
    refine ⟨ed, fun i h0 h1 => ?_⟩
    rw [if_neg e, if_neg n2, ed, ec]
    exact at_sh hw ⟨by omega, by omega⟩ ⟨hr.1, by omega⟩
theorem ptsOf_sh {dx dy : Int} {g g' : PsG} (hok : g.ok) (h : ShG dx dy g g') : ptsOf g' = (ptsOf g).map (sh dx dy) := by
  obtain ⟨e1, e2⟩ := ps_sh hok h
  unfold ptsOf
  rw [e1, List.map_map]
  refine List.map_congr_left fun i hi => ?_
  have := List.mem_range.1 hi
  exact e2 i (by omega) (by omega)
/-- A subpath and the same one shifted. -/
structure ShQ (dx dy : Int) (q q' : Pth) : Prop where
  n : q'.n = q.n
  k : ∀ j, j < q.n → (q'.f j).k = (q.f j).k
  x : ∀ j, j < q.n → (q.f j).k ≠ 4 → (q'.f j).x = (q.f j).x + dx ∧ (q'.f j).y = (q.f j).y + dy
  c : ∀ j, j < q.n → (q.f j).k = 3 → ((q'.f j).u = (q.f j).u + dx ∧ (q'.f j).v = (q.f j).v + dy) ∧ (q'.f j).w = (q.f j).w
theorem ne4 {q : Pth} (sk : SubOk q) {j : Nat} (h : j + 1 < q.n) : (q.f j).k ≠ 4 := by
  by_cases e : j = 0
  · subst e
    rw [sk.k0]
    decide
  · intro hc
    have := (sk.kk j (by omega) (by omega)).2 hc
    omega
theorem qpt_sh {dx dy : Int} {q q' : Pth} (h : ShQ dx dy q q') {j : Nat} (hj : j < q.n) (h4 : (q.f j).k ≠ 4) : qpt q' j = sh dx dy (qpt q j) := by
  obtain ⟨a, b⟩ := h.x j hj h4
  unfold qpt sh
  simp only
  rw [a, b]
theorem qpp_sh {dx dy : Int} {q q' : Pth} (sk : SubOk q) (h : ShQ dx dy q q') : ∀ j, j < q.n → qpp q' j = (qpp q j).map (sh dx dy)
  | 0, hj => by
    show [qpt q' 0] = [sh dx dy (qpt q 0)]
    rw [qpt_sh h hj (by rw [sk.k0]; decide)]
  | j + 1, hj => by
    show qpp q' j ++ _ = (qpp q j ++ _).map _
    rw [List.map_append, qpp_sh sk h j (by omega), h.k (j + 1) hj]
    congr 1
    by_cases h4 : (q.f (j + 1)).k = 4
    · rw [if_pos h4, if_pos h4]
      rfl
    · rw [if_neg h4, if_neg h4]
      refine ptsOf_sh (ps_ok sk hj h4) ⟨qpt_sh h (by omega) (ne4 sk hj), h.k _ hj, (h.x _ hj h4).1, (h.x _ hj h4).2, h.c _ hj⟩
theorem qline_sh {dx dy : Int} {q q' : Pth} (sk : SubOk q) (h : ShQ dx dy q q') : qline q' = (qline q).map (sh dx dy) := by
  have := sk.n1
  unfold qline
  rw [h.n]
  exact qpp_sh sk h _ (by omega)
/-- All points are within the range of coordinates. -/
theorem ptsOf_in {q : Pth} (sk : SubOk q) {j : Nat} (hj : j + 1 < q.n) (h4 : (q.f (j + 1)).k ≠ 4) : ∀ p ∈ ptsOf (qps q j), inC p.x ∧ inC p.y := by
  intro p hp
  unfold ptsOf at hp
  obtain ⟨i, hi, rfl⟩ := List.mem_map.1 hp
  have hi' := List.mem_range.1 hi
  have hok := ps_ok sk hj h4
  have hh := pt_hull hok (i := i) (by omega) (by omega)
  obtain ⟨⟨a1, a2, _⟩, _⟩ := seg_in (sk.ok j (by omega)) (ne4 sk hj)
  obtain ⟨⟨b1, b2, b3, b4⟩, _⟩ := seg_in (sk.ok (j + 1) hj) h4
  unfold PsG.cu PsG.cv lo3 hi3 at hh
  have e1 : (qps q j).p.x = (q.f j).x := rfl
  have e2 : (qps q j).p.y = (q.f j).y := rfl
  have e3 : (qps q j).s = q.f (j + 1) := rfl
  rw [e1, e2, e3] at hh
  unfold inC at *
  split at hh <;> omega
theorem qpp_in {q : Pth} (sk : SubOk q) : ∀ j, j < q.n → ∀ p ∈ qpp q j, inC p.x ∧ inC p.y
  | 0, hj, p, hp => by
    have hp' : p ∈ [qpt q 0] := hp
    rw [List.mem_singleton] at hp'
    subst hp'
    obtain ⟨⟨a1, a2, _⟩, _⟩ := seg_in (sk.ok 0 hj) (by rw [sk.k0]; decide)
    exact ⟨a1, a2⟩
  | j + 1, hj, p, hp => by
    have hp' : p ∈ qpp q j ++ (if (q.f (j + 1)).k = 4 then [] else ptsOf (qps q j)) := hp
    rcases List.mem_append.1 hp' with h | h
    · exact qpp_in sk j (by omega) p h
    · split at h
      · cases h
      · exact ptsOf_in sk hj (by assumption) p h
theorem gp_in {q : Pth} (sk : SubOk q) {i : Nat} (hi : i < (qline q).length) : inC (gp (qline q) i).x ∧ inC (gp (qline q) i).y := by
  have := sk.n1
  refine qpp_in sk (q.n - 1) (by omega) _ ?_
  unfold gp
  rw [List.getD_eq_getElem?_getD, List.getElem?_eq_getElem hi]
  exact List.getElem_mem hi
theorem gp_sh {dx dy : Int} {q q' : Pth} (sk : SubOk q) (h : ShQ dx dy q q') {i : Nat} (hi : i < (qline q).length) : gp (qline q') i = sh dx dy (gp (qline q) i) := by
  rw [qline_sh sk h]
  unfold gp
  rw [List.getD_eq_getElem?_getD, List.getElem?_map, List.getElem?_eq_getElem hi, List.getD_eq_getElem?_getD, List.getElem?_eq_getElem hi]
  rfl
/-- Paths whose segments are of the same kinds have the same subpaths. -/
theorem same_mv {p p' : Pth} (hk : ∀ i, i < p.n → (p'.f i).k = (p.f i).k) : ∀ i, i ≤ p.n → p'.mv i = p.mv i ∧ ∀ t, p'.st i t = p.st i t ∧ p'.ln i t = p.ln i t
  | 0, _ => ⟨rfl, fun _ => ⟨rfl, rfl⟩⟩
  | i + 1, hi => by
    obtain ⟨h1, h2⟩ := same_mv hk i (by omega)
    have hm : p'.mv (i + 1) = p.mv (i + 1) := by
      show p'.mv i + (if (p'.f i).k = 1 then 1 else 0) = p.mv i + if (p.f i).k = 1 then 1 else 0
      rw [h1, hk i (by omega)]
    refine ⟨hm, fun t => ⟨?_, ?_⟩⟩
    · show (if (p'.f i).k = 1 ∧ t = p'.mv i then i else p'.st i t) = if (p.f i).k = 1 ∧ t = p.mv i then i else p.st i t
      rw [h1, hk i (by omega), (h2 t).1]
    · show (if t + 1 = p'.mv (i + 1) then (if (p'.f i).k = 1 then 1 else p'.ln i t + 1) else p'.ln i t) = if t + 1 = p.mv (i + 1) then (if (p.f i).k = 1 then 1 else p.ln i t + 1) else p.ln i t
      rw [hm, hk i (by omega), (h2 t).2]
/-- The mapped path of a law: valid, with shifted subpaths. -/
theorem map_ok {p : Pth} {dx dy : Int} (h : MaG.e ⟨p, shM dx dy⟩ = 0) : p.chk = 0 ∧ (MaG.out ⟨p, shM dx dy⟩).n = p.n ∧ (MaG.out ⟨p, shM dx dy⟩).chk = 0 ∧ (MaG.out ⟨p, shM dx dy⟩).mv p.n = p.mv p.n ∧
    ∀ t, t < p.mv p.n → ShQ dx dy (pat p t) (pat (MaG.out ⟨p, shM dx dy⟩) t) := by
  have h0 : p.chk = 0 := (e_0 h).1
  have hE : ∀ i, i < p.n → mapE (shM dx dy) (p.f i) = 0 := (e_0 h).2.2
  have hn : (MaG.out ⟨p, shM dx dy⟩).n = p.n := if_pos h
  have hk : ∀ i, i < p.n → ((MaG.out ⟨p, shM dx dy⟩).f i).k = (p.f i).k := fun i _ => rfl
  have hx : ∀ i, i < p.n → (p.f i).k ≠ 4 → (inC ((p.f i).x + dx) ∧ inC ((p.f i).y + dy)) ∧ ((MaG.out ⟨p, shM dx dy⟩).f i).x = (p.f i).x + dx ∧ ((MaG.out ⟨p, shM dx dy⟩).f i).y = (p.f i).y + dy := fun i hi h4 => by
    have e := hE i hi
    unfold mapE at e
    by_cases e4 : (shM dx dy).appE (p.f i).x (p.f i).y = 0
    · obtain ⟨_, a2, a3, a4⟩ := app_0 e4
      refine ⟨a2, ?_, ?_⟩
      · show (if (p.f i).k = 4 then (p.f i).x else (shM dx dy).appX (p.f i).x (p.f i).y) = _
        rw [if_neg h4, a3]
      · show (if (p.f i).k = 4 then (p.f i).y else (shM dx dy).appY (p.f i).x (p.f i).y) = _
        rw [if_neg h4, a4]
    · rw [if_pos ⟨h4, e4⟩] at e
      exact absurd e e4
  have hc : ∀ i, i < p.n → (p.f i).k = 3 → (inC ((p.f i).u + dx) ∧ inC ((p.f i).v + dy)) ∧ (((MaG.out ⟨p, shM dx dy⟩).f i).u = (p.f i).u + dx ∧ ((MaG.out ⟨p, shM dx dy⟩).f i).v = (p.f i).v + dy) ∧ ((MaG.out ⟨p, shM dx dy⟩).f i).w = (p.f i).w := fun i hi h3 => by
    have e := hE i hi
    unfold mapE at e
    have e4 : ¬ ((p.f i).k ≠ 4 ∧ (shM dx dy).appE (p.f i).x (p.f i).y ≠ 0) := fun hh => by
      rw [if_pos hh] at e
      exact hh.2 e
    rw [if_neg e4, if_pos h3] at e
    obtain ⟨_, a2, a3, a4⟩ := app_0 e
    refine ⟨a2, ⟨?_, ?_⟩, rfl⟩
    · show (if (p.f i).k = 3 then (shM dx dy).appX (p.f i).u (p.f i).v else (p.f i).u) = _
      rw [if_pos h3, a3]
    · show (if (p.f i).k = 3 then (shM dx dy).appY (p.f i).u (p.f i).v else (p.f i).v) = _
      rw [if_pos h3, a4]
  have hs := same_mv (p := p) (p' := MaG.out ⟨p, shM dx dy⟩) hk p.n (Nat.le_refl _)
  have hchk : (MaG.out ⟨p, shM dx dy⟩).chk = 0 := by
    refine chk_0.2 ⟨by rw [hn]; exact (chk_0.1 h0).1, fun i hi => ?_⟩
    rw [hn] at hi
    obtain ⟨s1, s2, s3⟩ := seg_ok h0 hi
    have hki := hk i hi
    have hkp : i ≠ 0 → ((MaG.out ⟨p, shM dx dy⟩).f (i - 1)).k = (p.f (i - 1)).k := fun h0 => rfl
    unfold Pth.errAt
    rw [hki, if_neg (by omega), if_neg]
    · -- the segment itself
      have hE3 : segE (p.f i) = 0 := s3
      by_cases h4 : (p.f i).k = 4
      · have : (MaG.out ⟨p, shM dx dy⟩).f i = p.f i := by
          show mapS _ _ = _
          unfold mapS
          have n3 : ¬ (p.f i).k = 3 := by rw [h4]; decide
          rw [if_pos h4, if_pos h4, if_neg n3, if_neg n3]
        rw [this]
        exact hE3
      · obtain ⟨⟨b1, b2⟩, b3, b4⟩ := hx i hi h4
        by_cases h3 : (p.f i).k = 3
        · obtain ⟨⟨c1, c2⟩, ⟨c3, c4⟩, c5⟩ := hc i hi h3
          have w3 := (seg_in hE3 h4).2 h3
          unfold segE Seg.inB
          rw [hki, b3, b4, c3, c4, c5, if_neg (by omega), if_neg h4, if_pos h3, if_neg (by omega), if_pos ⟨b1, b2, c1, c2⟩]
        · have k12 : (p.f i).k = 1 ∨ (p.f i).k = 2 := by omega
          have eu : ((MaG.out ⟨p, shM dx dy⟩).f i).u = (p.f i).u := by
            show (if (p.f i).k = 3 then _ else (p.f i).u) = _
            rw [if_neg h3]
          have ev : ((MaG.out ⟨p, shM dx dy⟩).f i).v = (p.f i).v := by
            show (if (p.f i).k = 3 then _ else (p.f i).v) = _
            rw [if_neg h3]
          have ew : ((MaG.out ⟨p, shM dx dy⟩).f i).w = (p.f i).w := rfl
          obtain ⟨⟨_, _, u1, v1⟩, _⟩ := seg_in hE3 h4
          unfold segE at hE3 ⊢
          rw [hki, eu, ev, ew]
          rw [if_pos k12] at hE3 ⊢
          by_cases hz : (p.f i).u = 0 ∧ (p.f i).v = 0 ∧ (p.f i).w = 0
          · rw [if_pos hz]
            unfold Seg.inB
            rw [b3, b4, eu, ev, if_pos ⟨b1, b2, u1, v1⟩]
          · rw [if_neg hz] at hE3
            omega
    · intro hh
      refine hh.2 (s2 ?_)
      rcases hh.1 with h | h
      · exact .inl h
      · exact .inr h
  refine ⟨h0, hn, hchk, hs.1, fun t ht => ?_⟩
  obtain ⟨a, b, _, _⟩ := sub_inv h0 p.n (Nat.le_refl _) t ht
  have e1 : (MaG.out ⟨p, shM dx dy⟩).st (MaG.out ⟨p, shM dx dy⟩).n t = p.st p.n t := by rw [hn]; exact (hs.2 t).1
  have e2 : (MaG.out ⟨p, shM dx dy⟩).ln (MaG.out ⟨p, shM dx dy⟩).n t = p.ln p.n t := by rw [hn]; exact (hs.2 t).2
  have ef : ∀ j, (pat (MaG.out ⟨p, shM dx dy⟩) t).f j = (MaG.out ⟨p, shM dx dy⟩).f (p.st p.n t + j) := fun j => by
    show (MaG.out ⟨p, shM dx dy⟩).f ((MaG.out ⟨p, shM dx dy⟩).st (MaG.out ⟨p, shM dx dy⟩).n t + j) = _
    rw [e1]
  refine ⟨e2, fun j hj => ?_, fun j hj h4 => ?_, fun j hj h3 => ?_⟩
  · rw [ef]; rfl
  · have hj' : j < p.ln p.n t := hj
    rw [ef]; exact (hx (p.st p.n t + j) (by omega) h4).2
  · have hj' : j < p.ln p.n t := hj
    rw [ef]; exact (hc (p.st p.n t + j) (by omega) h3).2
end Go.Proofs.YtbmgclpgompjmaaDoor.Cvl
