/- Package stroke: line, by the evaluation. -/
import Derived.Test.YtfjbjbmbdadmhaaStb
set_option linter.unusedSimpArgs false
set_option linter.unusedVariables false
namespace Go.Proofs.Ytfjbjbmbdadmhaa.Stc
open Go.RowKit Sx Num Aff Con Fla Sta Stb
set_option maxRecDepth 100000
/-! What is known of cleaned lines. -/
theorem dd_mem (f : Nat → Pt) : ∀ k i, i < (dd f k).length → ∃ j, j < k ∧ gP (dd f k) i = f j
  | 0, i, h => absurd h (Nat.not_lt_zero _)
  | k + 1, i, h => by
    have e : dd f (k + 1) = if (dd f k).length = 0 ∨ ¬ eqPt (lastP (dd f k)) (f k) then dd f k ++ [f k] else dd f k := rfl
    rw [e] at h ⊢
    split at h
    · rename_i hc
      rw [if_pos hc]
      rw [List.length_append] at h
      have h : i < (dd f k).length + 1 := h
      rw [gP_app _ _ h]
      by_cases hi : i < (dd f k).length
      · rw [if_pos hi]
        obtain ⟨j, h1, h2⟩ := dd_mem f k i hi
        exact ⟨j, by omega, h2⟩
      · rw [if_neg hi]
        exact ⟨k, by omega, rfl⟩
    · rename_i hc
      rw [if_neg hc]
      obtain ⟨j, h1, h2⟩ := dd_mem f k i h
      exact ⟨j, by omega, h2⟩
theorem dd_adj (f : Nat → Pt) : ∀ k i, i + 1 < (dd f k).length → ¬ eqPt (gP (dd f k) i) (gP (dd f k) (i + 1))
  | 0, i, h => absurd h (Nat.not_lt_zero _)
  | k + 1, i, h => by
    have e : dd f (k + 1) = if (dd f k).length = 0 ∨ ¬ eqPt (lastP (dd f k)) (f k) then dd f k ++ [f k] else dd f k := rfl
    rw [e] at h ⊢
    split at h
    · rename_i hc
      rw [if_pos hc]
      rw [List.length_append] at h
      have h : i + 1 < (dd f k).length + 1 := h
      rw [gP_app _ _ (show i < (dd f k).length + 1 by omega), gP_app _ _ h, if_pos (show i < (dd f k).length by omega)]
      by_cases hi : i + 1 < (dd f k).length
      · rw [if_pos hi]
        exact dd_adj f k i hi
      · rw [if_neg hi]
        have hc : ¬ eqPt (lastP (dd f k)) (f k) := hc.resolve_left (by omega)
        have el : lastP (dd f k) = gP (dd f k) i := by unfold lastP; rw [show (dd f k).length - 1 = i by omega]
        rwa [el] at hc
    · rename_i hc
      rw [if_neg hc]
      exact dd_adj f k i h
/-- The head of a list, without its last points. -/
theorem trm_pre : ∀ n (L : List Pt), (trm n L).length ≤ L.length ∧ (∀ i, i < (trm n L).length → gP (trm n L) i = gP L i) ∧ (L.length ≤ n → 1 < (trm n L).length → ¬ eqPt (gP (trm n L) 0) (lastP (trm n L)))
  | 0, L => ⟨Nat.le_refl _, fun _ _ => rfl, fun h h1 => by have h1 : 1 < L.length := h1; omega⟩
  | n + 1, L => by
    have e : trm (n + 1) L = if 1 < L.length ∧ eqPt (gP L 0) (lastP L) then trm n L.dropLast else L := rfl
    rw [e]
    split
    · rename_i hc
      obtain ⟨a, b, c⟩ := trm_pre n L.dropLast
      have hd : L.dropLast.length = L.length - 1 := List.length_dropLast
      exact ⟨by omega, fun i hi => by rw [b i hi, gP_drop L (by omega)], fun h => c (by omega)⟩
    · rename_i hc
      exact ⟨Nat.le_refl _, fun _ _ => rfl, fun _ h1 he => hc ⟨h1, he⟩⟩
theorem cl_len (l : Li) : (clean l).length ≤ l.n := by
  have h := dd_len l.f l.n
  unfold clean
  split
  · have := (trm_pre (dd l.f l.n).length (dd l.f l.n)).1; omega
  · exact h
theorem cl_mem (l : Li) (i : Nat) (h : i < (clean l).length) : ∃ j, j < l.n ∧ gP (clean l) i = l.f j := by
  unfold clean at h ⊢
  split at h
  · rename_i hc
    rw [if_pos hc]
    obtain ⟨a, b, -⟩ := trm_pre (dd l.f l.n).length (dd l.f l.n)
    rw [b i h]
    exact dd_mem l.f l.n i (by omega)
  · rename_i hc
    rw [if_neg hc]
    exact dd_mem l.f l.n i h
theorem cl_adj (l : Li) (i : Nat) (h : i + 1 < (clean l).length) : ¬ eqPt (gP (clean l) i) (gP (clean l) (i + 1)) := by
  unfold clean at h ⊢
  split at h
  · rename_i hc
    rw [if_pos hc]
    obtain ⟨a, b, -⟩ := trm_pre (dd l.f l.n).length (dd l.f l.n)
    rw [b i (by omega), b (i + 1) h]
    exact dd_adj l.f l.n i (by omega)
  · rename_i hc
    rw [if_neg hc]
    exact dd_adj l.f l.n i h
theorem cl_end (l : Li) (hc : l.c = true) (h : 1 < (clean l).length) : ¬ eqPt (gP (clean l) 0) (gP (clean l) ((clean l).length - 1)) := by
  unfold clean at h ⊢
  rw [if_pos hc] at h ⊢
  exact (trm_pre (dd l.f l.n).length (dd l.f l.n)).2.2 (Nat.le_refl _) h
/-! The sides. -/
def sdN (l : Li) (i : Nat) : Nat := if i < (clean l).length then i else if l.c = true then (clean l).length else (clean l).length - 1
/-- Chosen, so that no condition is written out with it. -/
noncomputable def sdA (w : Int) (l : Li) (k : Nat) : Sid := Classical.choose (⟨_, rfl⟩ : ∃ s, s = mkSid w (gP (clean l) k) (gP (clean l) (if k + 1 < (clean l).length then k + 1 else 0)))
theorem sdA_eq (w : Int) (l : Li) (k : Nat) : sdA w l k = mkSid w (gP (clean l) k) (gP (clean l) (if k + 1 < (clean l).length then k + 1 else 0)) := Classical.choose_spec (⟨_, rfl⟩ : ∃ s, s = mkSid w (gP (clean l) k) (gP (clean l) (if k + 1 < (clean l).length then k + 1 else 0)))
theorem half_in {w l x : Int} (hw : 0 ≤ w ∧ w ≤ 1024) (hl : 1 ≤ l) (h : -l ≤ 1024 * x ∧ 1024 * x ≤ l) : -600 ≤ half w l x ∧ half w l x ≤ 600 := by
  have h1 : w * (1024 * x) ≤ w * l := Int.mul_le_mul_of_nonneg_left h.2 hw.1
  have h2 : w * -l ≤ w * (1024 * x) := Int.mul_le_mul_of_nonneg_left h.1 hw.1
  have h3 : w * l ≤ 1024 * l := Int.mul_le_mul_of_nonneg_right hw.2 (by omega)
  have e : w * (1024 * x) = 2 * (512 * w * x) := by grind
  have e2 : w * -l = -(w * l) := Int.mul_neg _ _
  unfold half
  exact nr_between hl (by omega) (by omega)
theorem sid_ok {w : Int} {p q : Pt} (hw : 0 ≤ w ∧ w ≤ 1024) (hp : small 32767 p) (hq : small 32767 q) (h : ¬ eqPt p q) : Sid.ok (mkSid w p q) := by
  have hd : small 65536 (subP q p) := by
    obtain ⟨⟨a1, a2⟩, a3, a4⟩ := hp
    obtain ⟨⟨b1, b2⟩, b3, b4⟩ := hq
    exact sm (by omega) (by omega)
  have hne : (subP q p).x ≠ 0 ∨ (subP q p).y ≠ 0 := by
    by_cases hx : p.x = q.x
    · refine .inr fun hy => h ⟨hx, ?_⟩
      have hy : q.y - p.y = 0 := hy
      omega
    · refine .inl fun hy => hx ?_
      have hy : q.x - p.x = 0 := hy
      omega
  have l1 := len_pos hne
  have lx := len_x (subP q p)
  have ly := len_y (subP q p)
  exact ⟨⟨hp, hq⟩, hd, sm (half_in hw l1 (by omega)) (half_in hw l1 lx), sm (half_in hw l1 lx) (half_in hw l1 ly)⟩
def Li.in (l : Li) : Prop := l.n ≤ 65536 ∧ ∀ i, i < l.n → small 32767 (l.f i)
theorem cl_small {l : Li} (hl : Li.in l) {i : Nat} (h : i < (clean l).length) : small 32767 (gP (clean l) i) := by
  obtain ⟨j, h1, h2⟩ := cl_mem l i h
  rw [h2]
  exact hl.2 j h1
/-- Two ends of a side. -/
theorem sd_ends {l : Li} (hl : Li.in l) {k : Nat} (h2 : 2 ≤ (clean l).length) (h : k < sdN l (clean l).length) :
    small 32767 (gP (clean l) k) ∧ small 32767 (gP (clean l) (if k + 1 < (clean l).length then k + 1 else 0)) ∧ ¬ eqPt (gP (clean l) k) (gP (clean l) (if k + 1 < (clean l).length then k + 1 else 0)) := by
  have en : sdN l (clean l).length = if l.c = true then (clean l).length else (clean l).length - 1 := if_neg (Nat.lt_irrefl _)
  rw [en] at h
  have hk : k < (clean l).length := by split at h <;> omega
  refine ⟨cl_small hl hk, ?_, ?_⟩
  · split
    · exact cl_small hl (by assumption)
    · exact cl_small hl (by omega)
  · split
    · exact cl_adj l k (by assumption)
    · rename_i hk1
      split at h
      · rename_i hc
        have := cl_end l hc (by omega)
        rw [show k = (clean l).length - 1 by omega]
        exact fun he => this ⟨he.1.symm, he.2.symm⟩
      · omega
theorem sdA_ok {w : Int} {l : Li} (hw : 0 ≤ w ∧ w ≤ 1024) (hl : Li.in l) {k : Nat} (h2 : 2 ≤ (clean l).length) (h : k < sdN l (clean l).length) : Sid.ok (sdA w l k) := by
  obtain ⟨a, b, c⟩ := sd_ends hl h2 h
  rw [sdA_eq]
  exact sid_ok hw a b c
def sPart (s : Sid) : Nat → Pt := p4 (addP s.p s.n) (addP s.q s.n) (subP s.q s.n) (subP s.p s.n)
def _root_.Go.Proofs.Ytfjbjbmbdadmhaa.Stb.Olr.sds (o : Olr) (S : Nat → Sid) : Nat → Olr
  | 0 => o
  | i + 1 => (o.sds S i).add 4 (sPart (S i))
def _root_.Go.Proofs.Ytfjbjbmbdadmhaa.Stb.Olr.jns (o : Olr) (S : Nat → Sid) : Nat → Olr
  | 0 => o
  | i + 1 => (o.jns S i).jn (S i) (S (i + 1))
theorem jn_keeps (o : Olr) (a b : Sid) : (((o.jn a b).w = o.w ∧ (o.jn a b).cap = o.cap) ∧ (o.jn a b).join = o.join ∧ (o.jn a b).limit = o.limit) ∧ (o.jn a b).n ≤ o.n + 1 ∧ (o.jn a b).k ≤ o.k + 1 := by
  unfold Olr.jn
  split
  · exact ⟨⟨⟨rfl, rfl⟩, rfl, rfl⟩, Nat.le_succ _, Nat.le_refl _⟩
  · split
    · exact ⟨⟨⟨rfl, rfl⟩, rfl, rfl⟩, Nat.le_succ _, Nat.le_succ _⟩
    · split
      · exact ⟨⟨⟨rfl, rfl⟩, rfl, rfl⟩, Nat.le_refl _, Nat.le_succ _⟩
      · exact ⟨⟨⟨rfl, rfl⟩, rfl, rfl⟩, Nat.le_refl _, Nat.le_succ _⟩
theorem sds_keeps (o : Olr) (S : Nat → Sid) : ∀ i, (((o.sds S i).w = o.w ∧ (o.sds S i).cap = o.cap) ∧ (o.sds S i).join = o.join ∧ (o.sds S i).limit = o.limit) ∧ (o.sds S i).n = o.n + i ∧ (o.sds S i).k = o.k
  | 0 => ⟨⟨⟨rfl, rfl⟩, rfl, rfl⟩, rfl, rfl⟩
  | i + 1 => by
    obtain ⟨⟨⟨a, b⟩, c, d⟩, e, f⟩ := sds_keeps o S i
    exact ⟨⟨⟨a, b⟩, c, d⟩, by show (o.sds S i).n + 1 = _; omega, f⟩
theorem jns_keeps (o : Olr) (S : Nat → Sid) : ∀ i, (((o.jns S i).w = o.w ∧ (o.jns S i).cap = o.cap) ∧ (o.jns S i).join = o.join ∧ (o.jns S i).limit = o.limit) ∧ (o.jns S i).n ≤ o.n + i ∧ (o.jns S i).k ≤ o.k + i
  | 0 => ⟨⟨⟨rfl, rfl⟩, rfl, rfl⟩, Nat.le_refl _, Nat.le_refl _⟩
  | i + 1 => by
    obtain ⟨⟨⟨a, b⟩, c, d⟩, e, f⟩ := jns_keeps o S i
    obtain ⟨⟨⟨a', b'⟩, c', d'⟩, e', f'⟩ := jn_keeps (o.jns S i) (S i) (S (i + 1))
    exact ⟨⟨⟨a'.trans a, b'.trans b⟩, c'.trans c, d'.trans d⟩, by show ((o.jns S i).jn _ _).n ≤ _; omega, by show ((o.jns S i).jn _ _).k ≤ _; omega⟩
theorem jn_ok {x : Olr} {a b : Sid} (h1 : x.n ≤ 1048000) (h2 : x.k ≤ 1048000) (h3 : 0 ≤ x.limit) (h4 : x.limit ≤ 1024) (ha : Sid.ok a) (hb : Sid.ok b) : JnG.ok ⟨x, a, b⟩ := ⟨⟨⟨h1, h2⟩, h3, h4⟩, ha, hb⟩
/-! line. -/
def _root_.Go.Proofs.Ytfjbjbmbdadmhaa.Stb.Olr.ends (o : Olr) (l : Li) (S : Nat → Sid) (c : Nat) : Olr := if l.c = true then o.jn (S (c - 1)) (S 0) else o.cp (S 0) (S (c - 1))
noncomputable def _root_.Go.Proofs.Ytfjbjbmbdadmhaa.Stb.Olr.ln (o : Olr) (l : Li) : Olr :=
  if (clean l).length < 2 then (if (clean l).length = 1 then o.dt (gP (clean l) 0) else o)
  else ((o.sds (sdA o.w l) (sdN l (clean l).length)).jns (sdA o.w l) (sdN l (clean l).length - 1)).ends l (sdA o.w l) (sdN l (clean l).length)
theorem sd_app {w : Int} {l : Li} {c : Nat} {M : Sid} (e : sdA w l c = M) : ∀ i, i < c + 1 → ((((((((((bif decide (i < c) then (sdA w l i).p.x else M.p.x) = (sdA w l i).p.x ∧ (bif decide (i < c) then (sdA w l i).p.y else M.p.y) = (sdA w l i).p.y) ∧ (bif decide (i < c) then (sdA w l i).q.x else M.q.x) = (sdA w l i).q.x) ∧ (bif decide (i < c) then (sdA w l i).q.y else M.q.y) = (sdA w l i).q.y) ∧ (bif decide (i < c) then (sdA w l i).d.x else M.d.x) = (sdA w l i).d.x) ∧ (bif decide (i < c) then (sdA w l i).d.y else M.d.y) = (sdA w l i).d.y) ∧ (bif decide (i < c) then (sdA w l i).n.x else M.n.x) = (sdA w l i).n.x) ∧ (bif decide (i < c) then (sdA w l i).n.y else M.n.y) = (sdA w l i).n.y) ∧ (bif decide (i < c) then (sdA w l i).e.x else M.e.x) = (sdA w l i).e.x) ∧ (bif decide (i < c) then (sdA w l i).e.y else M.e.y) = (sdA w l i).e.y) := fun i hi => by
  by_cases h : i < c
  · rw [decide_eq_true h]
    exact ⟨⟨⟨⟨⟨⟨⟨⟨⟨rfl, rfl⟩, rfl⟩, rfl⟩, rfl⟩, rfl⟩, rfl⟩, rfl⟩, rfl⟩, rfl⟩
  · obtain rfl : i = c := by omega
    rw [decide_eq_false h, ← e]
    exact ⟨⟨⟨⟨⟨⟨⟨⟨⟨rfl, rfl⟩, rfl⟩, rfl⟩, rfl⟩, rfl⟩, rfl⟩, rfl⟩, rfl⟩, rfl⟩
structure LnG where
  o : Olr
  l : Li
def LnG.ok (g : LnG) : Prop := ((g.o.n ≤ 1000 ∧ g.o.k ≤ 1000) ∧ (1 ≤ g.o.w ∧ g.o.w ≤ 1024) ∧ 0 ≤ g.o.limit ∧ g.o.limit ≤ 1024) ∧ Li.in g.l
def boxL (l : Li) : SO := .cells 2 (lst (liL l)) 36
noncomputable def sdRow (w : Int) (l : Li) (c : Nat) : SO := .row 0 c 10 (fun i => lst (sidL (sdA w l i))) 134
noncomputable def lnA (g : LnG) : Inv := ⟨Nat, fun i => i ≤ (clean g.l).length, fun i => ⟨[(0, .own 0 0), (3, .own 3 0), (4, vecS (clean g.l)), (5, .osl 4 0), (24, vecS (clean g.l)), (25, .int .i64 (clean g.l).length), (26, .int .i64 i)],
  oO 0 g.o ++ [boxL g.l, sdRow g.o.w g.l (sdN g.l i)]⟩, fun i => (clean g.l).length - i⟩
noncomputable def lnB (g : LnG) : Inv := ⟨Nat, fun i => i ≤ sdN g.l (clean g.l).length, fun i => ⟨[(0, .own 0 0), (3, .own 3 0), (5, .osl 4 0), (67, .osl 4 0), (68, .int .i64 (sdN g.l (clean g.l).length)), (69, .int .i64 i)],
  oO 1 (g.o.sds (sdA g.o.w g.l) i) ++ [boxL g.l, sdRow g.o.w g.l (sdN g.l (clean g.l).length)]⟩, fun i => sdN g.l (clean g.l).length - i⟩
noncomputable def lnC (g : LnG) : Inv := ⟨Nat, fun i => i ≤ sdN g.l (clean g.l).length - 1, fun i => ⟨[(0, .own 0 0), (3, .own 3 0), (5, .osl 4 0), (10, .int .i64 (i + 1))],
  oO 1 ((g.o.sds (sdA g.o.w g.l) (sdN g.l (clean g.l).length)).jns (sdA g.o.w g.l) i) ++ [boxL g.l, sdRow g.o.w g.l (sdN g.l (clean g.l).length)]⟩, fun i => sdN g.l (clean g.l).length - i⟩
noncomputable def spLn : FSpec := mkSpecM 75 [.arg 0, .cell 0 4, .cell 0 5] (γ := LnG) (fun | [_, .agg _ a], [.cells _ g _, .deep _ n _ _ m p _ _ _ _, .row _ k _ d _] => some ⟨olD g n m p k d, liD a⟩ | _, _ => none) (fun g => [.own 0 0, liS g.l])
  (fun g => oO 0 g.o) LnG.ok (fun _ => .tup 0 (lst [])) (fun g => oO 1 (g.o.ln g.l))
theorem ok_ln : SpecOK Try.prog spLn := by
  refine spec_soundM (specs := [spClean, spDt, spSide, spPlus, spMinus, spPart, spJn, spCp]) (all_ok (⟨ok_clean, ok_dt, ok_side, ok_plus, ok_minus, ok_part, ok_jn, ok_cp, trivial⟩)) (eqs := []) (fun _ _ h => (List.not_mem_nil h).elim) Aff.mixed Try.func75 rfl (by kernel_rfl) (fun _ _ => by kernel_rfl) (fun g => (⟨[(7, .inv (lnA g)), (15, .inv (lnB g)), (20, .inv (lnC g))], [(6, [.own 5 134 10])]⟩ : Ann)) true (fun g => Nat.le_of_ble_eq_true (by kernel_rfl)) ?_
  rintro ⟨o, l⟩ hg
  refine vc_of (B := let z66 := (2 : Nat);let z65 := (3 : Nat);let z64 := (1073741824 : Int);let z61 := (1 : Nat);let z49 := (true = true);let z46 := (9223372036854775807 : Int);let z45 := (-9223372036854775808 : Int);let z44 := (0 : Int);let z41 := (LnG.mk o l); let z62 := (lnA z41);let z32 := (1 : Int);let z25 := ((0 : Nat) = (0 : Nat));let z13 := (sdA o.w l);let z5 := (sdA o.w l (Int.toNat z44));let z4 := (Sta.clean l); let z33 := (↑z4.length : Int); let z20 := (↑(sdN l z4.length) : Int); let z67 := ((z20 - z32).toNat < sdN l z4.length); let z16 := (o.sds z13 (sdN l z4.length)); let z11 := (Sta.gP z4 (Int.toNat z44)); let z60 := (o.dt z11);let z2 := (sdA o.w l (z20 - z32).toNat);let z0 := (IntKind.i64 = IntKind.i64); let z56 := ((True ∧ Sx.Ask z0 ∧ Sx.Ask (z11.x = z11.x)) ∧ Sx.Ask z0 ∧ Sx.Ask (z11.y = z11.y)); let z52 := (Sx.Ask z0 ∧ Sx.Ask (z33 = z33)); let z24 := ((((((((((True ∧ Sx.Ask z0 ∧ Sx.Ask (z5.p.x = z5.p.x)) ∧ Sx.Ask z0 ∧ Sx.Ask (z5.p.y = z5.p.y)) ∧ Sx.Ask z0 ∧ Sx.Ask (z5.q.x = z5.q.x)) ∧ Sx.Ask z0 ∧ Sx.Ask (z5.q.y = z5.q.y)) ∧ Sx.Ask z0 ∧ Sx.Ask (z5.d.x = z5.d.x)) ∧ Sx.Ask z0 ∧ Sx.Ask (z5.d.y = z5.d.y)) ∧ Sx.Ask z0 ∧ Sx.Ask (z5.n.x = z5.n.x)) ∧ Sx.Ask z0 ∧ Sx.Ask (z5.n.y = z5.n.y)) ∧ Sx.Ask z0 ∧ Sx.Ask (z5.e.x = z5.e.x)) ∧ Sx.Ask z0 ∧ Sx.Ask (z5.e.y = z5.e.y)); let z23 := ((((((((((True ∧ Sx.Ask z0 ∧ Sx.Ask (z2.p.x = z2.p.x)) ∧ Sx.Ask z0 ∧ Sx.Ask (z2.p.y = z2.p.y)) ∧ Sx.Ask z0 ∧ Sx.Ask (z2.q.x = z2.q.x)) ∧ Sx.Ask z0 ∧ Sx.Ask (z2.q.y = z2.q.y)) ∧ Sx.Ask z0 ∧ Sx.Ask (z2.d.x = z2.d.x)) ∧ Sx.Ask z0 ∧ Sx.Ask (z2.d.y = z2.d.y)) ∧ Sx.Ask z0 ∧ Sx.Ask (z2.n.x = z2.n.x)) ∧ Sx.Ask z0 ∧ Sx.Ask (z2.n.y = z2.n.y)) ∧ Sx.Ask z0 ∧ Sx.Ask (z2.e.x = z2.e.x)) ∧ Sx.Ask z0 ∧ Sx.Ask (z2.e.y = z2.e.y)); let z18 := (Sx.Ask (o.k = o.k) ∧ ∀ (i : Nat), i < o.k → (True ∧ Sx.Ask z0 ∧ Sx.Ask ((o.d i).x = (o.d i).x)) ∧ Sx.Ask z0 ∧ Sx.Ask ((o.d i).y = (o.d i).y)); let z17 := ((((((True ∧ Sx.Ask z0 ∧ Sx.Ask (o.w = o.w)) ∧ Sx.Ask z0 ∧ Sx.Ask (o.cap = o.cap)) ∧ Sx.Ask z0 ∧ Sx.Ask (o.join = o.join)) ∧ Sx.Ask z0 ∧ Sx.Ask (o.limit = o.limit)) ∧ True) ∧ True); let z12 := (Sx.Ask (o.n = o.n) ∧ (∀ (i : Nat), i < o.n → Sx.Ask (o.m i = o.m i) ∧ ∀ (i' : Nat), i' < o.m i → (True ∧ Sx.Ask z0 ∧ Sx.Ask ((o.p i i').x = (o.p i i').x)) ∧ Sx.Ask z0 ∧ Sx.Ask ((o.p i i').y = (o.p i i').y)) ∧ ∀ (i : Nat), i < o.n → True ∧ Sx.Ask z49); let z9 := (Sx.Ask (z4.length = z4.length) ∧ ∀ (i : Nat), i < z4.length → (True ∧ Sx.Ask z0 ∧ Sx.Ask ((Sta.gP z4 i).x = (Sta.gP z4 i).x)) ∧ Sx.Ask z0 ∧ Sx.Ask ((Sta.gP z4 i).y = (Sta.gP z4 i).y)); let z8 := ((True ∧ Sx.Ask (l.n = l.n) ∧ ∀ (i : Nat), i < l.n → (True ∧ Sx.Ask z0 ∧ Sx.Ask ((l.f i).x = (l.f i).x)) ∧ Sx.Ask z0 ∧ Sx.Ask ((l.f i).y = (l.f i).y)) ∧ Sx.Ask (l.c = l.c)); let z7 := (Sx.Ask (sdN l z4.length = sdN l z4.length) ∧ ∀ (i : Nat), let z35 := (sdA o.w l i); i < sdN l z4.length → (((((((((True ∧ Sx.Ask z0 ∧ Sx.Ask (z35.p.x = z35.p.x)) ∧ Sx.Ask z0 ∧ Sx.Ask (z35.p.y = z35.p.y)) ∧ Sx.Ask z0 ∧ Sx.Ask (z35.q.x = z35.q.x)) ∧ Sx.Ask z0 ∧ Sx.Ask (z35.q.y = z35.q.y)) ∧ Sx.Ask z0 ∧ Sx.Ask (z35.d.x = z35.d.x)) ∧ Sx.Ask z0 ∧ Sx.Ask (z35.d.y = z35.d.y)) ∧ Sx.Ask z0 ∧ Sx.Ask (z35.n.x = z35.n.x)) ∧ Sx.Ask z0 ∧ Sx.Ask (z35.n.y = z35.n.y)) ∧ Sx.Ask z0 ∧ Sx.Ask (z35.e.x = z35.e.x)) ∧ Sx.Ask z0 ∧ Sx.Ask (z35.e.y = z35.e.y));True ∧ True ∧ ((z8 ∧ True) ∧ Sx.Ask (l.n ≤ (1048576 : Nat))) ∧ True ∧ True ∧ True ∧ True ∧ Sx.Br (decide (z33 < (2 : Int))) (True ∧ True ∧ True ∧ Sx.Br (decide (z33 = z32)) (True ∧ True ∧ Sx.Ask (z44 ≤ z44 ∧ z44 < z33) ∧ True ∧ ((True ∧ (Sx.Ask z25 ∧ z56 ∧ True) ∧ z17 ∧ z12 ∧ z18 ∧ True) ∧ Sx.Ask (Stb.DtG.mk o z11).ok) ∧ True ∧ True ∧ (True ∧ True) ∧ ((((((True ∧ Sx.Ask z0 ∧ Sx.Ask (z60.w = (o.ln l).w)) ∧ Sx.Ask z0 ∧ Sx.Ask (z60.cap = (o.ln l).cap)) ∧ Sx.Ask z0 ∧ Sx.Ask (z60.join = (o.ln l).join)) ∧ Sx.Ask z0 ∧ Sx.Ask (z60.limit = (o.ln l).limit)) ∧ True) ∧ True) ∧ (Sx.Ask (z60.n = (o.ln l).n) ∧ (∀ (i : Nat), i < (o.ln l).n → Sx.Ask (z60.m i = (o.ln l).m i) ∧ ∀ (i' : Nat), i' < (o.ln l).m i → (True ∧ Sx.Ask z0 ∧ Sx.Ask ((z60.p i i').x = ((o.ln l).p i i').x)) ∧ Sx.Ask z0 ∧ Sx.Ask ((z60.p i i').y = ((o.ln l).p i i').y)) ∧ ∀ (i : Nat), i < (o.ln l).n → True ∧ Sx.Ask z49) ∧ (Sx.Ask (z60.k = (o.ln l).k) ∧ ∀ (i : Nat), i < (o.ln l).k → (True ∧ Sx.Ask z0 ∧ Sx.Ask ((z60.d i).x = ((o.ln l).d i).x)) ∧ Sx.Ask z0 ∧ Sx.Ask ((z60.d i).y = ((o.ln l).d i).y)) ∧ True) (True ∧ True ∧ (True ∧ True) ∧ ((((((True ∧ Sx.Ask z0 ∧ Sx.Ask (o.w = (o.ln l).w)) ∧ Sx.Ask z0 ∧ Sx.Ask (o.cap = (o.ln l).cap)) ∧ Sx.Ask z0 ∧ Sx.Ask (o.join = (o.ln l).join)) ∧ Sx.Ask z0 ∧ Sx.Ask (o.limit = (o.ln l).limit)) ∧ True) ∧ True) ∧ (Sx.Ask (o.n = (o.ln l).n) ∧ (∀ (i : Nat), i < (o.ln l).n → Sx.Ask (o.m i = (o.ln l).m i) ∧ ∀ (i' : Nat), i' < (o.ln l).m i → (True ∧ Sx.Ask z0 ∧ Sx.Ask ((o.p i i').x = ((o.ln l).p i i').x)) ∧ Sx.Ask z0 ∧ Sx.Ask ((o.p i i').y = ((o.ln l).p i i').y)) ∧ ∀ (i : Nat), i < (o.ln l).n → True ∧ Sx.Ask z49) ∧ (Sx.Ask (o.k = (o.ln l).k) ∧ ∀ (i : Nat), i < (o.ln l).k → (True ∧ Sx.Ask z0 ∧ Sx.Ask ((o.d i).x = ((o.ln l).d i).x)) ∧ Sx.Ask z0 ∧ Sx.Ask ((o.d i).y = ((o.ln l).d i).y)) ∧ True)) (True ∧ True ∧ True ∧ True ∧ (∃ (g : Nat), Sx.Ask (z62.pre g) ∧ True ∧ (Sx.Ask z25 ∧ Sx.Ask z25 ∧ z9 ∧ True ∧ z9 ∧ z52 ∧ (Sx.Ask z0 ∧ Sx.Ask (z44 = (↑g : Int))) ∧ True) ∧ z17 ∧ z12 ∧ z18 ∧ z8 ∧ (Sx.Ask ((0 : Nat) = sdN l g) ∧ ∀ (i : Nat), i < sdN l g → (((((((((True ∧ False) ∧ False) ∧ False) ∧ False) ∧ False) ∧ False) ∧ False) ∧ False) ∧ False) ∧ False) ∧ True) ∧ ∀ (g : Nat), let z59 := (↑g : Int); let z47 := (sdN l g + z61 ≤ (9223372036854775807 : Nat) ∧ (sdN l g + z61) * (80 : Nat) ≤ (140737488355328 : Nat)); let z22 := (z45 ≤ z59 + z32 ∧ z59 + z32 ≤ z46); let z15 := (Sta.gP z4 (z59 + z32).toNat); let z14 := (Sta.gP z4 z59.toNat); let z57 := ((True ∧ Sx.Ask z0 ∧ Sx.Ask (z14.x = z14.x)) ∧ Sx.Ask z0 ∧ Sx.Ask (z14.y = z14.y)); let z31 := (Int.ofNat (isq ((1048576 : Int) * Sta.dotP (Sta.subP z11 z14) (Sta.subP z11 z14)).toNat)); let z30 := (Int.ofNat (isq ((1048576 : Int) * Sta.dotP (Sta.subP z15 z14) (Sta.subP z15 z14)).toNat)); z62.pre g → True ∧ Sx.Br (decide (z59 < z33)) (True ∧ Sx.Ask (z44 ≤ z59 ∧ z59 < z33) ∧ True ∧ True ∧ True ∧ True ∧ True ∧ Sx.Ask z22 ∧ True ∧ True ∧ True ∧ Sx.Br (decide (z59 + z32 < z33)) (True ∧ True ∧ True ∧ True ∧ Sx.Ask z22 ∧ Sx.Ask (z44 ≤ z59 + z32 ∧ z59 + z32 < z33) ∧ True ∧ True ∧ True ∧ True ∧ True ∧ True ∧ ((z57 ∧ ((True ∧ Sx.Ask z0 ∧ Sx.Ask (z15.x = z15.x)) ∧ Sx.Ask z0 ∧ Sx.Ask (z15.y = z15.y)) ∧ (Sx.Ask z0 ∧ Sx.Ask (o.w = o.w)) ∧ True) ∧ Sx.Ask (Sta.MsG.mk z14 z15 o.w).ok) ∧ True ∧ Sx.Ask z47 ∧ True ∧ Sx.Ask z22 ∧ True ∧ ∃ (g' : Nat), Sx.Ask (z62.pre g') ∧ True ∧ ((Sx.Ask z25 ∧ Sx.Ask z25 ∧ z9 ∧ True ∧ z9 ∧ z52 ∧ (Sx.Ask z0 ∧ Sx.Ask (z59 + z32 = (↑g' : Int))) ∧ True) ∧ z17 ∧ z12 ∧ z18 ∧ z8 ∧ (Sx.Ask (sdN l g + z61 = sdN l g') ∧ ∀ (i : Nat), let z54 := (i < sdN l g); let z36 := (sdA o.w l i); i < sdN l g' → (((((((((True ∧ Sx.Ask z0 ∧ Sx.Ask ((bif decide z54 then z36.p.x else z14.x) = z36.p.x)) ∧ Sx.Ask z0 ∧ Sx.Ask ((bif decide z54 then z36.p.y else z14.y) = z36.p.y)) ∧ Sx.Ask z0 ∧ Sx.Ask ((bif decide z54 then z36.q.x else z15.x) = z36.q.x)) ∧ Sx.Ask z0 ∧ Sx.Ask ((bif decide z54 then z36.q.y else z15.y) = z36.q.y)) ∧ Sx.Ask z0 ∧ Sx.Ask ((bif decide z54 then z36.d.x else z15.x - z14.x) = z36.d.x)) ∧ Sx.Ask z0 ∧ Sx.Ask ((bif decide z54 then z36.d.y else z15.y - z14.y) = z36.d.y)) ∧ Sx.Ask z0 ∧ Sx.Ask ((bif decide z54 then z36.n.x else Sta.half o.w z30 (z44 - (z15.y - z14.y))) = z36.n.x)) ∧ Sx.Ask z0 ∧ Sx.Ask ((bif decide z54 then z36.n.y else Sta.half o.w z30 (z15.x - z14.x)) = z36.n.y)) ∧ Sx.Ask z0 ∧ Sx.Ask ((bif decide z54 then z36.e.x else Sta.half o.w z30 (z15.x - z14.x)) = z36.e.x)) ∧ Sx.Ask z0 ∧ Sx.Ask ((bif decide z54 then z36.e.y else Sta.half o.w z30 (z15.y - z14.y)) = z36.e.y)) ∧ True) ∧ Sx.Ask (z62.meas g' < z62.meas g)) (True ∧ True ∧ Sx.Br l.c (True ∧ True ∧ True ∧ Sx.Ask (z44 ≤ z44 ∧ z44 < z33) ∧ True ∧ True ∧ True ∧ True ∧ True ∧ True ∧ ((z57 ∧ z56 ∧ (Sx.Ask z0 ∧ Sx.Ask (o.w = o.w)) ∧ True) ∧ Sx.Ask (Sta.MsG.mk z14 z11 o.w).ok) ∧ True ∧ Sx.Ask z47 ∧ True ∧ Sx.Ask z22 ∧ True ∧ ∃ (g' : Nat), Sx.Ask (z62.pre g') ∧ True ∧ ((Sx.Ask z25 ∧ Sx.Ask z25 ∧ z9 ∧ True ∧ z9 ∧ z52 ∧ (Sx.Ask z0 ∧ Sx.Ask (z59 + z32 = (↑g' : Int))) ∧ True) ∧ z17 ∧ z12 ∧ z18 ∧ z8 ∧ (Sx.Ask (sdN l g + z61 = sdN l g') ∧ ∀ (i : Nat), let z55 := (i < sdN l g); let z37 := (sdA o.w l i); i < sdN l g' → (((((((((True ∧ Sx.Ask z0 ∧ Sx.Ask ((bif decide z55 then z37.p.x else z14.x) = z37.p.x)) ∧ Sx.Ask z0 ∧ Sx.Ask ((bif decide z55 then z37.p.y else z14.y) = z37.p.y)) ∧ Sx.Ask z0 ∧ Sx.Ask ((bif decide z55 then z37.q.x else z11.x) = z37.q.x)) ∧ Sx.Ask z0 ∧ Sx.Ask ((bif decide z55 then z37.q.y else z11.y) = z37.q.y)) ∧ Sx.Ask z0 ∧ Sx.Ask ((bif decide z55 then z37.d.x else z11.x - z14.x) = z37.d.x)) ∧ Sx.Ask z0 ∧ Sx.Ask ((bif decide z55 then z37.d.y else z11.y - z14.y) = z37.d.y)) ∧ Sx.Ask z0 ∧ Sx.Ask ((bif decide z55 then z37.n.x else Sta.half o.w z31 (z44 - (z11.y - z14.y))) = z37.n.x)) ∧ Sx.Ask z0 ∧ Sx.Ask ((bif decide z55 then z37.n.y else Sta.half o.w z31 (z11.x - z14.x)) = z37.n.y)) ∧ Sx.Ask z0 ∧ Sx.Ask ((bif decide z55 then z37.e.x else Sta.half o.w z31 (z11.x - z14.x)) = z37.e.x)) ∧ Sx.Ask z0 ∧ Sx.Ask ((bif decide z55 then z37.e.y else Sta.half o.w z31 (z11.y - z14.y)) = z37.e.y)) ∧ True) ∧ Sx.Ask (z62.meas g' < z62.meas g)) (Sx.Ask z22 ∧ True ∧ ∃ (g' : Nat), Sx.Ask (z62.pre g') ∧ True ∧ ((Sx.Ask z25 ∧ Sx.Ask z25 ∧ z9 ∧ True ∧ z9 ∧ z52 ∧ (Sx.Ask z0 ∧ Sx.Ask (z59 + z32 = (↑g' : Int))) ∧ True) ∧ z17 ∧ z12 ∧ z18 ∧ z8 ∧ (Sx.Ask (sdN l g = sdN l g') ∧ ∀ (i : Nat), let z38 := (sdA o.w l i); i < sdN l g' → (((((((((True ∧ Sx.Ask z0 ∧ Sx.Ask (z38.p.x = z38.p.x)) ∧ Sx.Ask z0 ∧ Sx.Ask (z38.p.y = z38.p.y)) ∧ Sx.Ask z0 ∧ Sx.Ask (z38.q.x = z38.q.x)) ∧ Sx.Ask z0 ∧ Sx.Ask (z38.q.y = z38.q.y)) ∧ Sx.Ask z0 ∧ Sx.Ask (z38.d.x = z38.d.x)) ∧ Sx.Ask z0 ∧ Sx.Ask (z38.d.y = z38.d.y)) ∧ Sx.Ask z0 ∧ Sx.Ask (z38.n.x = z38.n.x)) ∧ Sx.Ask z0 ∧ Sx.Ask (z38.n.y = z38.n.y)) ∧ Sx.Ask z0 ∧ Sx.Ask (z38.e.x = z38.e.x)) ∧ Sx.Ask z0 ∧ Sx.Ask (z38.e.y = z38.e.y)) ∧ True) ∧ Sx.Ask (z62.meas g' < z62.meas g)))) (True ∧ True ∧ True ∧ (∃ (g_1 : Nat), let z42 := (o.sds z13 g_1); Sx.Ask ((lnB z41).pre g_1) ∧ True ∧ (Sx.Ask z25 ∧ Sx.Ask z25 ∧ True ∧ True ∧ (Sx.Ask z0 ∧ Sx.Ask ((↑(sdN l g) : Int) = z20)) ∧ (Sx.Ask z0 ∧ Sx.Ask (z44 = (↑g_1 : Int))) ∧ True) ∧ ((((((True ∧ Sx.Ask z0 ∧ Sx.Ask (o.w = z42.w)) ∧ Sx.Ask z0 ∧ Sx.Ask (o.cap = z42.cap)) ∧ Sx.Ask z0 ∧ Sx.Ask (o.join = z42.join)) ∧ Sx.Ask z0 ∧ Sx.Ask (o.limit = z42.limit)) ∧ True) ∧ True) ∧ (Sx.Ask (o.n = z42.n) ∧ (∀ (i : Nat), i < z42.n → Sx.Ask (o.m i = z42.m i) ∧ ∀ (i' : Nat), i' < z42.m i → (True ∧ Sx.Ask z0 ∧ Sx.Ask ((o.p i i').x = (z42.p i i').x)) ∧ Sx.Ask z0 ∧ Sx.Ask ((o.p i i').y = (z42.p i i').y)) ∧ ∀ (i : Nat), i < z42.n → True ∧ Sx.Ask z49) ∧ (Sx.Ask (o.k = z42.k) ∧ ∀ (i : Nat), i < z42.k → (True ∧ Sx.Ask z0 ∧ Sx.Ask ((o.d i).x = (z42.d i).x)) ∧ Sx.Ask z0 ∧ Sx.Ask ((o.d i).y = (z42.d i).y)) ∧ z8 ∧ (Sx.Ask (sdN l g = sdN l z4.length) ∧ ∀ (i : Nat), let z39 := (sdA o.w l i); i < sdN l z4.length → (((((((((True ∧ Sx.Ask z0 ∧ Sx.Ask (z39.p.x = z39.p.x)) ∧ Sx.Ask z0 ∧ Sx.Ask (z39.p.y = z39.p.y)) ∧ Sx.Ask z0 ∧ Sx.Ask (z39.q.x = z39.q.x)) ∧ Sx.Ask z0 ∧ Sx.Ask (z39.q.y = z39.q.y)) ∧ Sx.Ask z0 ∧ Sx.Ask (z39.d.x = z39.d.x)) ∧ Sx.Ask z0 ∧ Sx.Ask (z39.d.y = z39.d.y)) ∧ Sx.Ask z0 ∧ Sx.Ask (z39.n.x = z39.n.x)) ∧ Sx.Ask z0 ∧ Sx.Ask (z39.n.y = z39.n.y)) ∧ Sx.Ask z0 ∧ Sx.Ask (z39.e.x = z39.e.x)) ∧ Sx.Ask z0 ∧ Sx.Ask (z39.e.y = z39.e.y)) ∧ True) ∧ ∀ (g : Nat), let z63 := (↑g : Int); let z21 := (o.sds z13 g); let z3 := (sdA o.w l z63.toNat); let z53 := ((True ∧ Sx.Ask z0 ∧ Sx.Ask (z3.n.x = z3.n.x)) ∧ Sx.Ask z0 ∧ Sx.Ask (z3.n.y = z3.n.y)); let z29 := ((((True ∧ Sx.Ask z0 ∧ Sx.Ask (z3.q.x = z3.q.x)) ∧ Sx.Ask z0 ∧ Sx.Ask (z3.q.y = z3.q.y)) ∧ z53 ∧ True) ∧ Sx.Ask (Fla.small z64 z3.q ∧ Fla.small z64 z3.n)); let z28 := ((((True ∧ Sx.Ask z0 ∧ Sx.Ask (z3.p.x = z3.p.x)) ∧ Sx.Ask z0 ∧ Sx.Ask (z3.p.y = z3.p.y)) ∧ z53 ∧ True) ∧ Sx.Ask (Fla.small z64 z3.p ∧ Fla.small z64 z3.n)); (lnB z41).pre g → True ∧ Sx.Br (decide (z63 < z20)) (Sx.Ask (z44 ≤ z63 ∧ z63 < z20) ∧ Sx.Ask (z63.toNat < sdN l z4.length) ∧ True ∧ True ∧ True ∧ True ∧ True ∧ True ∧ True ∧ z28 ∧ True ∧ True ∧ True ∧ True ∧ z29 ∧ True ∧ True ∧ True ∧ True ∧ z29 ∧ True ∧ True ∧ True ∧ True ∧ z28 ∧ True ∧ ((True ∧ (Sx.Ask z25 ∧ (Sx.Ask ((4 : Nat) = (4 : Nat)) ∧ ∀ (i : Nat), i < (4 : Nat) → (True ∧ Sx.Ask z0 ∧ Sx.Ask ((bif decide (i = z65) then z3.p.x - z3.n.x else bif decide (i = z66) then z3.q.x - z3.n.x else bif decide (i = z61) then z3.q.x + z3.n.x else z3.p.x + z3.n.x) = bif decide (i = z65) then z3.p.x - z3.n.x else bif decide (i = z66) then z3.q.x - z3.n.x else bif decide (i = z61) then z3.q.x + z3.n.x else z3.p.x + z3.n.x)) ∧ Sx.Ask z0 ∧ Sx.Ask ((bif decide (i = z65) then z3.p.y - z3.n.y else bif decide (i = z66) then z3.q.y - z3.n.y else bif decide (i = z61) then z3.q.y + z3.n.y else z3.p.y + z3.n.y) = bif decide (i = z65) then z3.p.y - z3.n.y else bif decide (i = z66) then z3.q.y - z3.n.y else bif decide (i = z61) then z3.q.y + z3.n.y else z3.p.y + z3.n.y)) ∧ True) ∧ ((((((True ∧ Sx.Ask z0 ∧ Sx.Ask (z21.w = z21.w)) ∧ Sx.Ask z0 ∧ Sx.Ask (z21.cap = z21.cap)) ∧ Sx.Ask z0 ∧ Sx.Ask (z21.join = z21.join)) ∧ Sx.Ask z0 ∧ Sx.Ask (z21.limit = z21.limit)) ∧ True) ∧ True) ∧ (Sx.Ask (z21.n = z21.n) ∧ (∀ (i : Nat), i < z21.n → Sx.Ask (z21.m i = z21.m i) ∧ ∀ (i' : Nat), i' < z21.m i → (True ∧ Sx.Ask z0 ∧ Sx.Ask ((z21.p i i').x = (z21.p i i').x)) ∧ Sx.Ask z0 ∧ Sx.Ask ((z21.p i i').y = (z21.p i i').y)) ∧ ∀ (i : Nat), i < z21.n → True ∧ Sx.Ask z49) ∧ (Sx.Ask (z21.k = z21.k) ∧ ∀ (i : Nat), i < z21.k → (True ∧ Sx.Ask z0 ∧ Sx.Ask ((z21.d i).x = (z21.d i).x)) ∧ Sx.Ask z0 ∧ Sx.Ask ((z21.d i).y = (z21.d i).y)) ∧ True) ∧ Sx.Ask (z21.ok ∧ (4 : Nat) ≤ (1048576 : Nat))) ∧ Sx.Ask (z45 ≤ z63 + z32 ∧ z63 + z32 ≤ z46) ∧ True ∧ ∃ (g' : Nat), let z43 := (o.sds z13 g'); Sx.Ask ((lnB z41).pre g') ∧ True ∧ ((Sx.Ask z25 ∧ Sx.Ask z25 ∧ True ∧ True ∧ (Sx.Ask z0 ∧ Sx.Ask (z20 = z20)) ∧ (Sx.Ask z0 ∧ Sx.Ask (z63 + z32 = (↑g' : Int))) ∧ True) ∧ ((((((True ∧ Sx.Ask z0 ∧ Sx.Ask (z21.w = z43.w)) ∧ Sx.Ask z0 ∧ Sx.Ask (z21.cap = z43.cap)) ∧ Sx.Ask z0 ∧ Sx.Ask (z21.join = z43.join)) ∧ Sx.Ask z0 ∧ Sx.Ask (z21.limit = z43.limit)) ∧ True) ∧ True) ∧ (Sx.Ask (z21.n + z61 = z43.n) ∧ (∀ (i : Nat), i < z43.n → Sx.Ask ((z21.add (4 : Nat) fun (i : Nat) => Con.Pt.mk (bif decide (i = z65) then z3.p.x - z3.n.x else bif decide (i = z66) then z3.q.x - z3.n.x else bif decide (i = z61) then z3.q.x + z3.n.x else z3.p.x + z3.n.x) (bif decide (i = z65) then z3.p.y - z3.n.y else bif decide (i = z66) then z3.q.y - z3.n.y else bif decide (i = z61) then z3.q.y + z3.n.y else z3.p.y + z3.n.y)).m i = z43.m i) ∧ ∀ (i' : Nat), i' < z43.m i → (True ∧ Sx.Ask z0 ∧ Sx.Ask ((bif decide (i = z21.n) then bif decide (i' = z65) then z3.p.x - z3.n.x else bif decide (i' = z66) then z3.q.x - z3.n.x else bif decide (i' = z61) then z3.q.x + z3.n.x else z3.p.x + z3.n.x else (z21.p i i').x) = (z43.p i i').x)) ∧ Sx.Ask z0 ∧ Sx.Ask ((bif decide (i = z21.n) then bif decide (i' = z65) then z3.p.y - z3.n.y else bif decide (i' = z66) then z3.q.y - z3.n.y else bif decide (i' = z61) then z3.q.y + z3.n.y else z3.p.y + z3.n.y else (z21.p i i').y) = (z43.p i i').y)) ∧ ∀ (i : Nat), i < z43.n → True ∧ Sx.Ask z49) ∧ (Sx.Ask (z21.k = z43.k) ∧ ∀ (i : Nat), i < z43.k → (True ∧ Sx.Ask z0 ∧ Sx.Ask ((z21.d i).x = (z43.d i).x)) ∧ Sx.Ask z0 ∧ Sx.Ask ((z21.d i).y = (z43.d i).y)) ∧ z8 ∧ z7 ∧ True) ∧ Sx.Ask ((lnB z41).meas g' < (lnB z41).meas g)) (True ∧ (∃ (g_1 : Nat), let z34 := (z16.jns z13 g_1); Sx.Ask ((lnC z41).pre g_1) ∧ True ∧ (Sx.Ask z25 ∧ Sx.Ask z25 ∧ True ∧ (Sx.Ask z0 ∧ Sx.Ask (z32 = (↑g_1 : Int) + z32)) ∧ True) ∧ ((((((True ∧ Sx.Ask z0 ∧ Sx.Ask (z21.w = z34.w)) ∧ Sx.Ask z0 ∧ Sx.Ask (z21.cap = z34.cap)) ∧ Sx.Ask z0 ∧ Sx.Ask (z21.join = z34.join)) ∧ Sx.Ask z0 ∧ Sx.Ask (z21.limit = z34.limit)) ∧ True) ∧ True) ∧ (Sx.Ask (z21.n = z34.n) ∧ (∀ (i : Nat), i < z34.n → Sx.Ask (z21.m i = z34.m i) ∧ ∀ (i' : Nat), i' < z34.m i → (True ∧ Sx.Ask z0 ∧ Sx.Ask ((z21.p i i').x = (z34.p i i').x)) ∧ Sx.Ask z0 ∧ Sx.Ask ((z21.p i i').y = (z34.p i i').y)) ∧ ∀ (i : Nat), i < z34.n → True ∧ Sx.Ask z49) ∧ (Sx.Ask (z21.k = z34.k) ∧ ∀ (i : Nat), i < z34.k → (True ∧ Sx.Ask z0 ∧ Sx.Ask ((z21.d i).x = (z34.d i).x)) ∧ Sx.Ask z0 ∧ Sx.Ask ((z21.d i).y = (z34.d i).y)) ∧ z8 ∧ z7 ∧ True) ∧ ∀ (g : Nat), let z58 := (↑g : Int); let z10 := (sdA o.w l (z58 + z32).toNat); let z6 := (sdA o.w l (z58 + z32 - z32).toNat); let z1 := (z16.jns z13 g); let z51 := (z1.cp z5 z2); let z50 := (z1.jn z2 z5); let z48 := (z1.jn z6 z10); let z27 := (Sx.Ask (z1.k = z1.k) ∧ ∀ (i : Nat), i < z1.k → (True ∧ Sx.Ask z0 ∧ Sx.Ask ((z1.d i).x = (z1.d i).x)) ∧ Sx.Ask z0 ∧ Sx.Ask ((z1.d i).y = (z1.d i).y)); let z26 := ((((((True ∧ Sx.Ask z0 ∧ Sx.Ask (z1.w = z1.w)) ∧ Sx.Ask z0 ∧ Sx.Ask (z1.cap = z1.cap)) ∧ Sx.Ask z0 ∧ Sx.Ask (z1.join = z1.join)) ∧ Sx.Ask z0 ∧ Sx.Ask (z1.limit = z1.limit)) ∧ True) ∧ True); let z19 := (Sx.Ask (z1.n = z1.n) ∧ (∀ (i : Nat), i < z1.n → Sx.Ask (z1.m i = z1.m i) ∧ ∀ (i' : Nat), i' < z1.m i → (True ∧ Sx.Ask z0 ∧ Sx.Ask ((z1.p i i').x = (z1.p i i').x)) ∧ Sx.Ask z0 ∧ Sx.Ask ((z1.p i i').y = (z1.p i i').y)) ∧ ∀ (i : Nat), i < z1.n → True ∧ Sx.Ask z49); (lnC z41).pre g → True ∧ True ∧ True ∧ True ∧ Sx.Br (decide (z58 + z32 < z20)) (True ∧ True ∧ True ∧ Sx.Ask (z45 ≤ z58 + z32 - z32 ∧ z58 + z32 - z32 ≤ z46) ∧ Sx.Ask (z44 ≤ z58 + z32 - z32 ∧ z58 + z32 - z32 < z20) ∧ Sx.Ask ((z58 + z32 - z32).toNat < sdN l z4.length) ∧ True ∧ True ∧ Sx.Ask (z44 ≤ z58 + z32 ∧ z58 + z32 < z20) ∧ Sx.Ask ((z58 + z32).toNat < sdN l z4.length) ∧ ((True ∧ (Sx.Ask z25 ∧ ((((((((((True ∧ Sx.Ask z0 ∧ Sx.Ask (z6.p.x = z6.p.x)) ∧ Sx.Ask z0 ∧ Sx.Ask (z6.p.y = z6.p.y)) ∧ Sx.Ask z0 ∧ Sx.Ask (z6.q.x = z6.q.x)) ∧ Sx.Ask z0 ∧ Sx.Ask (z6.q.y = z6.q.y)) ∧ Sx.Ask z0 ∧ Sx.Ask (z6.d.x = z6.d.x)) ∧ Sx.Ask z0 ∧ Sx.Ask (z6.d.y = z6.d.y)) ∧ Sx.Ask z0 ∧ Sx.Ask (z6.n.x = z6.n.x)) ∧ Sx.Ask z0 ∧ Sx.Ask (z6.n.y = z6.n.y)) ∧ Sx.Ask z0 ∧ Sx.Ask (z6.e.x = z6.e.x)) ∧ Sx.Ask z0 ∧ Sx.Ask (z6.e.y = z6.e.y)) ∧ ((((((((((True ∧ Sx.Ask z0 ∧ Sx.Ask (z10.p.x = z10.p.x)) ∧ Sx.Ask z0 ∧ Sx.Ask (z10.p.y = z10.p.y)) ∧ Sx.Ask z0 ∧ Sx.Ask (z10.q.x = z10.q.x)) ∧ Sx.Ask z0 ∧ Sx.Ask (z10.q.y = z10.q.y)) ∧ Sx.Ask z0 ∧ Sx.Ask (z10.d.x = z10.d.x)) ∧ Sx.Ask z0 ∧ Sx.Ask (z10.d.y = z10.d.y)) ∧ Sx.Ask z0 ∧ Sx.Ask (z10.n.x = z10.n.x)) ∧ Sx.Ask z0 ∧ Sx.Ask (z10.n.y = z10.n.y)) ∧ Sx.Ask z0 ∧ Sx.Ask (z10.e.x = z10.e.x)) ∧ Sx.Ask z0 ∧ Sx.Ask (z10.e.y = z10.e.y)) ∧ True) ∧ z26 ∧ z19 ∧ z27 ∧ True) ∧ Sx.Ask (Stb.JnG.mk z1 z6 z10).ok) ∧ True ∧ Sx.Ask (z45 ≤ z58 + z32 + z32 ∧ z58 + z32 + z32 ≤ z46) ∧ True ∧ ∃ (g' : Nat), let z40 := (z16.jns z13 g'); Sx.Ask ((lnC z41).pre g') ∧ True ∧ ((Sx.Ask z25 ∧ Sx.Ask z25 ∧ True ∧ (Sx.Ask z0 ∧ Sx.Ask (z58 + z32 + z32 = (↑g' : Int) + z32)) ∧ True) ∧ ((((((True ∧ Sx.Ask z0 ∧ Sx.Ask (z48.w = z40.w)) ∧ Sx.Ask z0 ∧ Sx.Ask (z48.cap = z40.cap)) ∧ Sx.Ask z0 ∧ Sx.Ask (z48.join = z40.join)) ∧ Sx.Ask z0 ∧ Sx.Ask (z48.limit = z40.limit)) ∧ True) ∧ True) ∧ (Sx.Ask (z48.n = z40.n) ∧ (∀ (i : Nat), i < z40.n → Sx.Ask (z48.m i = z40.m i) ∧ ∀ (i' : Nat), i' < z40.m i → (True ∧ Sx.Ask z0 ∧ Sx.Ask ((z48.p i i').x = (z40.p i i').x)) ∧ Sx.Ask z0 ∧ Sx.Ask ((z48.p i i').y = (z40.p i i').y)) ∧ ∀ (i : Nat), i < z40.n → True ∧ Sx.Ask z49) ∧ (Sx.Ask (z48.k = z40.k) ∧ ∀ (i : Nat), i < z40.k → (True ∧ Sx.Ask z0 ∧ Sx.Ask ((z48.d i).x = (z40.d i).x)) ∧ Sx.Ask z0 ∧ Sx.Ask ((z48.d i).y = (z40.d i).y)) ∧ z8 ∧ z7 ∧ True) ∧ Sx.Ask ((lnC z41).meas g' < (lnC z41).meas g)) (True ∧ True ∧ Sx.Br l.c (True ∧ True ∧ True ∧ True ∧ Sx.Ask (z45 ≤ z20 - z32 ∧ z20 - z32 ≤ z46) ∧ Sx.Ask (z44 ≤ z20 - z32 ∧ z20 - z32 < z20) ∧ Sx.Ask z67 ∧ True ∧ Sx.Ask (z44 ≤ z44 ∧ z44 < z20) ∧ Sx.Ask (Int.toNat z44 < sdN l z4.length) ∧ ((True ∧ (Sx.Ask z25 ∧ z23 ∧ z24 ∧ True) ∧ z26 ∧ z19 ∧ z27 ∧ True) ∧ Sx.Ask (Stb.JnG.mk z1 z2 z5).ok) ∧ True ∧ True ∧ (True ∧ True) ∧ ((((((True ∧ Sx.Ask z0 ∧ Sx.Ask (z50.w = (o.ln l).w)) ∧ Sx.Ask z0 ∧ Sx.Ask (z50.cap = (o.ln l).cap)) ∧ Sx.Ask z0 ∧ Sx.Ask (z50.join = (o.ln l).join)) ∧ Sx.Ask z0 ∧ Sx.Ask (z50.limit = (o.ln l).limit)) ∧ True) ∧ True) ∧ (Sx.Ask (z50.n = (o.ln l).n) ∧ (∀ (i : Nat), i < (o.ln l).n → Sx.Ask (z50.m i = (o.ln l).m i) ∧ ∀ (i' : Nat), i' < (o.ln l).m i → (True ∧ Sx.Ask z0 ∧ Sx.Ask ((z50.p i i').x = ((o.ln l).p i i').x)) ∧ Sx.Ask z0 ∧ Sx.Ask ((z50.p i i').y = ((o.ln l).p i i').y)) ∧ ∀ (i : Nat), i < (o.ln l).n → True ∧ Sx.Ask z49) ∧ (Sx.Ask (z50.k = (o.ln l).k) ∧ ∀ (i : Nat), i < (o.ln l).k → (True ∧ Sx.Ask z0 ∧ Sx.Ask ((z50.d i).x = ((o.ln l).d i).x)) ∧ Sx.Ask z0 ∧ Sx.Ask ((z50.d i).y = ((o.ln l).d i).y)) ∧ True) (True ∧ True ∧ Sx.Ask (z44 ≤ z44 ∧ z44 < z20) ∧ Sx.Ask (Int.toNat z44 < sdN l z4.length) ∧ True ∧ True ∧ True ∧ Sx.Ask (z45 ≤ z20 - z32 ∧ z20 - z32 ≤ z46) ∧ Sx.Ask (z44 ≤ z20 - z32 ∧ z20 - z32 < z20) ∧ Sx.Ask z67 ∧ ((True ∧ (Sx.Ask z25 ∧ z24 ∧ z23 ∧ True) ∧ z26 ∧ z19 ∧ z27 ∧ True) ∧ Sx.Ask (Stb.JnG.mk z1 z5 z2).ok) ∧ True ∧ True ∧ (True ∧ True) ∧ ((((((True ∧ Sx.Ask z0 ∧ Sx.Ask (z51.w = (o.ln l).w)) ∧ Sx.Ask z0 ∧ Sx.Ask (z51.cap = (o.ln l).cap)) ∧ Sx.Ask z0 ∧ Sx.Ask (z51.join = (o.ln l).join)) ∧ Sx.Ask z0 ∧ Sx.Ask (z51.limit = (o.ln l).limit)) ∧ True) ∧ True) ∧ (Sx.Ask (z51.n = (o.ln l).n) ∧ (∀ (i : Nat), i < (o.ln l).n → Sx.Ask (z51.m i = (o.ln l).m i) ∧ ∀ (i' : Nat), i' < (o.ln l).m i → (True ∧ Sx.Ask z0 ∧ Sx.Ask ((z51.p i i').x = ((o.ln l).p i i').x)) ∧ Sx.Ask z0 ∧ Sx.Ask ((z51.p i i').y = ((o.ln l).p i i').y)) ∧ ∀ (i : Nat), i < (o.ln l).n → True ∧ Sx.Ask z49) ∧ (Sx.Ask (z51.k = (o.ln l).k) ∧ ∀ (i : Nat), i < (o.ln l).k → (True ∧ Sx.Ask z0 ∧ Sx.Ask ((z51.d i).x = ((o.ln l).d i).x)) ∧ Sx.Ask z0 ∧ Sx.Ask ((z51.d i).y = ((o.ln l).d i).y)) ∧ True)))))) (by kernel_rfl) ?_
  simp only [ask_iff, br_iff, eq_self, true_and, and_true, implies_true, forall_const, decide_eq_true_eq, decide_eq_false_iff_not, ne_eq, Nat.mul_one, Nat.add_zero, Nat.zero_add, Int.toNat_natCast, and_self, false_and, and_false]
  obtain ⟨⟨⟨hn, hk⟩, ⟨w0, w1⟩, l0, l1⟩, hl⟩ : ((o.n ≤ 1000 ∧ o.k ≤ 1000) ∧ (1 ≤ o.w ∧ o.w ≤ 1024) ∧ 0 ≤ o.limit ∧ o.limit ≤ 1024) ∧ Li.in l := hg
  have hln : l.n ≤ 65536 := hl.1
  have hcl := cl_len l
  have z0 : Int.toNat 0 = 0 := rfl
  have hw : 0 ≤ o.w ∧ o.w ≤ 1024 := by omega
  simp only [z0]
  refine ⟨by omega, fun hlt => ⟨fun h1 => ?_, fun h1 => ?_⟩, fun hge => ?_⟩
  · rw [show o.ln l = o.dt (gP (clean l) 0) by unfold Olr.ln; rw [if_pos (by omega), if_pos (by omega)]]
    refine ⟨by omega, ⟨⟨⟨show o.n ≤ 1048000 by omega, show o.k ≤ 1048000 by omega⟩, w0, w1⟩, cl_small hl (by omega)⟩, ?_⟩
    exact ⟨⟨⟨⟨rfl, rfl⟩, rfl⟩, rfl⟩, ⟨rfl, fun i _ => ⟨rfl, fun j _ => ⟨rfl, rfl⟩⟩⟩, rfl, fun i _ => ⟨rfl, rfl⟩⟩
  · rw [show o.ln l = o by unfold Olr.ln; rw [if_pos (by omega), if_neg (by omega)]]
    exact ⟨⟨⟨⟨rfl, rfl⟩, rfl⟩, rfl⟩, ⟨rfl, fun i _ => ⟨rfl, fun j _ => ⟨rfl, rfl⟩⟩⟩, rfl, fun i _ => ⟨rfl, rfl⟩⟩
  · have h2 : 2 ≤ (clean l).length := by omega
    have eN : sdN l (clean l).length = if l.c = true then (clean l).length else (clean l).length - 1 := if_neg (Nat.lt_irrefl _)
    have hN : sdN l (clean l).length ≤ 65536 ∧ 1 ≤ sdN l (clean l).length := by rw [eN]; split <;> omega
    have el : o.ln l = ((o.sds (sdA o.w l) (sdN l (clean l).length)).jns (sdA o.w l) (sdN l (clean l).length - 1)).ends l (sdA o.w l) (sdN l (clean l).length) := if_neg (by omega)
    have sok : ∀ k, k < sdN l (clean l).length → Sid.ok (sdA o.w l k) := fun k hk => sdA_ok hw hl h2 hk
    rw [el]
    refine ⟨⟨0, Nat.zero_le _, rfl, ?_, ?_⟩, fun g hg => ⟨fun hlt => ⟨by omega, by omega, fun hn => ?_, fun hn => ⟨fun hc => ?_, fun hc => ?_⟩⟩, fun hge2 => ?_⟩⟩
    · exact (if_pos (by omega)).symm
    · intro i hi
      rw [show sdN l 0 = 0 from if_pos (by omega)] at hi
      exact absurd hi (Nat.not_lt_zero _)
    · have e1 : sdN l g = g := if_pos (by omega)
      have e2 : sdN l (g + 1) = g + 1 := if_pos (by omega)
      have eg : ((g : Int) + 1).toNat = g + 1 := by omega
      have eM : sdA o.w l g = mkSid o.w (gP (clean l) g) (gP (clean l) (g + 1)) := by rw [sdA_eq, if_pos (by omega)]
      have hen := sd_ends hl h2 (show g < sdN l (clean l).length by rw [eN]; split <;> omega)
      rw [if_pos (by omega)] at hen
      rw [eg, e1]
      refine ⟨by omega, by omega, ⟨⟨hen.1, hen.2.1⟩, ?_, hw⟩, by omega, by omega, g + 1, show g + 1 ≤ (clean l).length by omega, ⟨by omega, e2.symm, fun i hi => ?_⟩, show (clean l).length - (g + 1) < (clean l).length - g by omega⟩
      · have := hen.2.2
        exact Classical.byContradiction fun hh => this ⟨Classical.byContradiction fun h => hh (.inl h), Classical.byContradiction fun h => hh (.inr h)⟩
      · exact sd_app eM i (by rwa [e2] at hi)
    · have e1 : sdN l g = g := if_pos (by omega)
      have e2 : sdN l (g + 1) = g + 1 := by unfold sdN; rw [if_neg (by omega), if_pos hc]; omega
      have eM : sdA o.w l g = mkSid o.w (gP (clean l) g) (gP (clean l) 0) := by rw [sdA_eq, if_neg (by omega)]
      have hen := sd_ends hl h2 (show g < sdN l (clean l).length by rw [eN, if_pos hc]; omega)
      rw [if_neg (by omega)] at hen
      rw [e1]
      refine ⟨by omega, ⟨⟨hen.1, hen.2.1⟩, ?_, hw⟩, by omega, by omega, g + 1, show g + 1 ≤ (clean l).length by omega, ⟨by omega, e2.symm, fun i hi => ?_⟩, show (clean l).length - (g + 1) < (clean l).length - g by omega⟩
      · have := hen.2.2
        exact Classical.byContradiction fun hh => this ⟨Classical.byContradiction fun h => hh (.inl h), Classical.byContradiction fun h => hh (.inr h)⟩
      · exact sd_app eM i (by rwa [e2] at hi)
    · have e1 : sdN l g = g := if_pos (by omega)
      have e2 : sdN l (g + 1) = g := by unfold sdN; rw [if_neg (by omega), if_neg (by rw [hc]; decide)]; omega
      exact ⟨by omega, g + 1, show g + 1 ≤ (clean l).length by omega, ⟨by omega, by rw [e1, e2]⟩, show (clean l).length - (g + 1) < (clean l).length - g by omega⟩
    · have hg : g ≤ (clean l).length := hg
      obtain rfl : g = (clean l).length := by omega
      clear hg
      have jok : ∀ i j k, i ≤ sdN l (clean l).length → j < sdN l (clean l).length → k < sdN l (clean l).length → JnG.ok ⟨(o.sds (sdA o.w l) (sdN l (clean l).length)).jns (sdA o.w l) i, sdA o.w l j, sdA o.w l k⟩ := fun i j k hi hj hk' => by
        obtain ⟨⟨-, -, a4⟩, b1, b2⟩ := sds_keeps o (sdA o.w l) (sdN l (clean l).length)
        obtain ⟨⟨-, -, c4⟩, d1, d2⟩ := jns_keeps (o.sds (sdA o.w l) (sdN l (clean l).length)) (sdA o.w l) i
        exact jn_ok (by omega) (by omega) (by omega) (by omega) (sok j hj) (sok k hk')
      refine ⟨⟨0, Nat.zero_le _, ⟨rfl, rfl⟩, ⟨⟨⟨rfl, rfl⟩, rfl⟩, rfl⟩, ⟨rfl, fun i _ => ⟨rfl, fun j _ => ⟨rfl, rfl⟩⟩⟩, ⟨rfl, fun i _ => ⟨rfl, rfl⟩⟩, rfl⟩, fun g hg => ⟨fun hlt => ?_, fun hge3 => ?_⟩⟩
      · have hlt : g < sdN l (clean l).length := by omega
        obtain ⟨⟨hp, hq⟩, -, hnn, -⟩ := sok g hlt
        have wp := sm_le hp (show (32767 : Int) ≤ 1073741824 by omega)
        have wq := sm_le hq (show (32767 : Int) ≤ 1073741824 by omega)
        have wn := sm_le hnn (show (600 : Int) ≤ 1073741824 by omega)
        obtain ⟨-, b1, b2⟩ := sds_keeps o (sdA o.w l) g
        refine ⟨by omega, hlt, ⟨wp, wn⟩, ⟨wq, wn⟩, ⟨wq, wn⟩, ⟨wp, wn⟩, ⟨⟨by omega, by omega⟩, by omega⟩, by omega, g + 1, show g + 1 ≤ sdN l (clean l).length by omega, ⟨by omega, ⟨⟨⟨rfl, rfl⟩, rfl⟩, rfl⟩, ⟨rfl, fun i _ => ⟨rfl, fun j _ => ⟨rfl, rfl⟩⟩⟩, rfl, fun i _ => ⟨rfl, rfl⟩⟩, show sdN l (clean l).length - (g + 1) < sdN l (clean l).length - g by omega⟩
      · have hg : g ≤ sdN l (clean l).length := hg
        obtain rfl : g = sdN l (clean l).length := by omega
        clear hg
        refine ⟨⟨0, Nat.zero_le _, rfl, ⟨⟨⟨rfl, rfl⟩, rfl⟩, rfl⟩, ⟨rfl, fun i _ => ⟨rfl, fun j _ => ⟨rfl, rfl⟩⟩⟩, rfl, fun i _ => ⟨rfl, rfl⟩⟩, fun g hg => ⟨fun hlt => ?_, fun hge4 => ⟨fun hc => ?_, fun hc => ?_⟩⟩⟩
        · have q1 : ((g : Int) + 1 - 1).toNat = g := by omega
          have q2 : ((g : Int) + 1).toNat = g + 1 := by omega
          rw [q1, q2]
          refine ⟨by omega, by omega, by omega, by omega, by omega, jok g g (g + 1) (by omega) (by omega) (by omega), by omega, g + 1, show g + 1 ≤ sdN l (clean l).length - 1 by omega, ⟨by omega, ⟨⟨⟨rfl, rfl⟩, rfl⟩, rfl⟩, ⟨rfl, fun i _ => ⟨rfl, fun j _ => ⟨rfl, rfl⟩⟩⟩, rfl, fun i _ => ⟨rfl, rfl⟩⟩, show sdN l (clean l).length - (g + 1) < sdN l (clean l).length - g by omega⟩
        · have hg : g ≤ sdN l (clean l).length - 1 := hg
          obtain rfl : g = sdN l (clean l).length - 1 := by omega
          have q1 : (((sdN l (clean l).length : Nat) : Int) - 1).toNat = sdN l (clean l).length - 1 := by omega
          rw [q1, show ∀ (x : Olr), x.ends l (sdA o.w l) (sdN l (clean l).length) = x.jn (sdA o.w l (sdN l (clean l).length - 1)) (sdA o.w l 0) from fun x => if_pos hc]
          refine ⟨by omega, by omega, by omega, by omega, by omega, jok _ _ _ (by omega) (by omega) (by omega), ?_⟩
          exact ⟨⟨⟨⟨rfl, rfl⟩, rfl⟩, rfl⟩, ⟨rfl, fun i _ => ⟨rfl, fun j _ => ⟨rfl, rfl⟩⟩⟩, rfl, fun i _ => ⟨rfl, rfl⟩⟩
        · have hg : g ≤ sdN l (clean l).length - 1 := hg
          obtain rfl : g = sdN l (clean l).length - 1 := by omega
          have q1 : (((sdN l (clean l).length : Nat) : Int) - 1).toNat = sdN l (clean l).length - 1 := by omega
          rw [q1, show ∀ (x : Olr), x.ends l (sdA o.w l) (sdN l (clean l).length) = x.cp (sdA o.w l 0) (sdA o.w l (sdN l (clean l).length - 1)) from fun x => if_neg (by rw [hc]; decide)]
          refine ⟨by omega, by omega, by omega, by omega, by omega, jok _ _ _ (by omega) (by omega) (by omega), ?_⟩
          exact ⟨⟨⟨⟨rfl, rfl⟩, rfl⟩, rfl⟩, ⟨rfl, fun i _ => ⟨rfl, fun j _ => ⟨rfl, rfl⟩⟩⟩, rfl, fun i _ => ⟨rfl, rfl⟩⟩
end Go.Proofs.Ytfjbjbmbdadmhaa.Stc
