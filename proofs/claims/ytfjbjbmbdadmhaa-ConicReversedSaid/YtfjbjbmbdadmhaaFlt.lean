/- conic.Flatten, by the evaluation. -/
import Derived.Test.YtfjbjbmbdadmhaaPth
set_option linter.unusedSimpArgs false
set_option linter.unusedVariables false
namespace Go.Proofs.Ytfjbjbmbdadmhaa.Flt
open Go.RowKit Sx Num Aff Con Cop Coh Pth
set_option maxRecDepth 100000
def qpt (q : Pth) (j : Nat) : Pt := ⟨(q.f j).x, (q.f j).y⟩
def qps (q : Pth) (j : Nat) : PsG := ⟨qpt q j, q.f (j + 1)⟩
def ptsOf (g : PsG) : List Pt := (List.range g.n.toNat).map fun i => g.pt (i : Nat)
/-- The points of a subpath behind its first j + 1 segments. -/
def qpp (q : Pth) : Nat → List Pt
  | 0 => [qpt q 0]
  | j + 1 => qpp q j ++ if (q.f (j + 1)).k = 4 then [] else ptsOf (qps q j)
def qline (q : Pth) : List Pt := qpp q (q.n - 1)
def qshut (q : Pth) : Bool := decide ((q.f (q.n - 1)).k = 4)
def gp (l : List Pt) (i : Nat) : Pt := l.getD i ⟨0, 0⟩
def lnS (l : List Pt) : SV := .sl l.length 2 (fun i => lst (ptL (gp l i)))
def liL (q : Pth) : List SV := [lnS (qline q), .bool (qshut q)]
def pat (p : Pth) (t : Nat) : Pth := p.sub p.n t
def linesS (p : Pth) (m : Nat) : SV := .sl m 2 (fun t => lst (liL (pat p t)))
/-! What is known of subpaths. -/
theorem sub_inv {p : Pth} (h : p.chk = 0) : ∀ i, i ≤ p.n → ∀ t, t < p.mv i → 1 ≤ p.ln i t ∧ p.st i t + p.ln i t ≤ i ∧ (p.f (p.st i t)).k = 1 ∧ ∀ j, 0 < j → j < p.ln i t → (p.f (p.st i t + j)).k ≠ 1
  | 0, _, t, ht => by unfold Pth.mv at ht; omega
  | i + 1, hi, t, ht => by
    have hm : p.mv (i + 1) = p.mv i + if (p.f i).k = 1 then 1 else 0 := rfl
    have hl : p.ln (i + 1) t = if t + 1 = p.mv (i + 1) then (if (p.f i).k = 1 then 1 else p.ln i t + 1) else p.ln i t := rfl
    have hs : p.st (i + 1) t = if (p.f i).k = 1 ∧ t = p.mv i then i else p.st i t := rfl
    by_cases hk : (p.f i).k = 1
    · rw [if_pos hk] at hm
      by_cases e : t = p.mv i
      · rw [if_pos (by omega), if_pos hk] at hl
        rw [if_pos ⟨hk, e⟩] at hs
        rw [hl, hs]
        exact ⟨by omega, by omega, hk, fun j h1 h2 => by omega⟩
      · rw [if_neg (by omega)] at hl
        rw [if_neg fun hc => e hc.2] at hs
        rw [hl, hs]
        obtain ⟨a, b, c, d⟩ := sub_inv h i (by omega) t (by omega)
        exact ⟨a, by omega, c, d⟩
    · rw [if_neg hk] at hm
      rw [if_neg fun hc => hk hc.1] at hs
      obtain ⟨a, b, c, d⟩ := sub_inv h i (by omega) t (by omega)
      by_cases e : t + 1 = p.mv (i + 1)
      · rw [if_pos e, if_neg hk] at hl
        have e2 := st_ln h i (by omega) t (by omega)
        rw [hl, hs]
        refine ⟨by omega, by omega, c, fun j h1 h2 => ?_⟩
        by_cases hj : j < p.ln i t
        · exact d j h1 hj
        · have : p.st i t + j = i := by omega
          rw [this]
          exact hk
      · rw [if_neg e] at hl
        rw [hl, hs]
        exact ⟨a, by omega, c, d⟩
structure SubOk (q : Pth) : Prop where
  n1 : 1 ≤ q.n
  n2 : q.n ≤ 1000
  k0 : (q.f 0).k = 1
  kk : ∀ j, 0 < j → j < q.n → (2 ≤ (q.f j).k ∧ (q.f j).k ≤ 4) ∧ ((q.f j).k = 4 → j + 1 = q.n)
  ok : ∀ j, j < q.n → segE (q.f j) = 0
theorem sub_ok {p : Pth} (h : p.chk = 0) {t : Nat} (ht : t < p.mv p.n) : SubOk (pat p t) := by
  obtain ⟨a, b, c, d⟩ := sub_inv h p.n (Nat.le_refl _) t ht
  have hn := (chk_0.1 h).1
  refine ⟨a, (show p.ln p.n t ≤ 1000 by omega), c, fun j h1 h2 => ?_, fun j hj => ?_⟩
  · have h2' : j < p.ln p.n t := h2
    obtain ⟨s1, s2, s3⟩ := seg_ok h (i := p.st p.n t + j) (by omega)
    have s4 := d j h1 h2'
    refine ⟨⟨?_, s1.2⟩, fun h4 => ?_⟩
    · show 2 ≤ (p.f (p.st p.n t + j)).k
      omega
    · refine Classical.byContradiction fun hc => ?_
      have hc' : ¬ j + 1 = p.ln p.n t := hc
      obtain ⟨_, s5, _⟩ := seg_ok h (i := p.st p.n t + (j + 1)) (by omega)
      exact d (j + 1) (by omega) (by omega) (s5 (.inr h4))
  · have hj' : j < p.ln p.n t := hj
    exact (seg_ok h (i := p.st p.n t + j) (by omega)).2.2
theorem seg_in {s : Seg} (h : segE s = 0) (hk : s.k ≠ 4) : (inC s.x ∧ inC s.y ∧ inC s.u ∧ inC s.v) ∧ (s.k = 3 → 16 ≤ s.w ∧ s.w ≤ 4096) := by
  have hb : s.inB = 0 → inC s.x ∧ inC s.y ∧ inC s.u ∧ inC s.v := fun e => by
    unfold Seg.inB at e
    split at e
    · assumption
    · omega
  unfold segE at h
  split at h
  · rename_i h1
    split at h
    · exact ⟨hb h, fun h3 => by omega⟩
    · omega
  · split at h
    · split at h
      · omega
      · exact ⟨hb h, fun _ => by omega⟩
    · omega
theorem ps_ok {q : Pth} (h : SubOk q) {j : Nat} (hj : j + 1 < q.n) (h4 : (q.f (j + 1)).k ≠ 4) : (qps q j).ok := by
  have k1 := h.kk (j + 1) (by omega) hj
  have k0 : (q.f j).k ≠ 4 := by
    by_cases e : j = 0
    · subst e
      rw [h.k0]
      decide
    · intro hc
      have := (h.kk j (by omega) (by omega)).2 hc
      omega
  obtain ⟨⟨a1, a2, _⟩, _⟩ := seg_in (h.ok j (by omega)) k0
  obtain ⟨⟨b1, b2, b3, b4⟩, b5⟩ := seg_in (h.ok (j + 1) hj) h4
  by_cases e : (q.f (j + 1)).k = 2
  · exact .inl e
  · have e3 : (q.f (j + 1)).k = 3 := by omega
    exact .inr ⟨e3, ⟨⟨a1, a2⟩, b3, b4⟩, ⟨b1, b2⟩, b5 e3⟩
theorem n_le (g : PsG) : 1 ≤ g.n ∧ g.n ≤ 512 := by
  unfold PsG.n
  split
  · decide
  · exact divF_range _ 9 1 (by decide) (by decide)
theorem ptsOf_len (g : PsG) : (ptsOf g).length = g.n.toNat := by simp [ptsOf]
theorem gp_pts (g : PsG) {i : Nat} (h : i < g.n.toNat) : gp (ptsOf g) i = g.pt (i : Nat) := by
  unfold gp ptsOf
  rw [List.getD_eq_getElem?_getD, List.getElem?_map, List.getElem?_range h]
  rfl
theorem gp_app (a b : List Pt) (i : Nat) : gp (a ++ b) i = if i < a.length then gp a i else gp b (i - a.length) := by
  unfold gp
  rw [List.getD_eq_getElem?_getD, List.getD_eq_getElem?_getD, List.getD_eq_getElem?_getD]
  split
  · rename_i h; rw [List.getElem?_append_left h]
  · rename_i h; rw [List.getElem?_append_right (by omega)]
theorem qpp_len (q : Pth) : ∀ j, 1 ≤ (qpp q j).length ∧ (qpp q j).length ≤ 1 + 512 * j
  | 0 => ⟨Nat.le_refl 1, Nat.le_refl 1⟩
  | j + 1 => by
    have h := qpp_len q j
    have hn := n_le (qps q j)
    show 1 ≤ (qpp q j ++ _).length ∧ (qpp q j ++ _).length ≤ 1 + 512 * (j + 1)
    rw [List.length_append]
    split
    · simp only [List.length_nil]; omega
    · rw [ptsOf_len]; omega
def tmpF (p : Pth) (t : Int) : List (Nat × SV) := [(5, .osl 0 0), (18, subS p p.n), (19, .int .i64 (p.mv p.n)), (20, .int .i64 t)]
def rowF (p : Pth) (t : Int) : SO := .row 0 t.toNat 2 (fun t => lst (liL (pat p t))) 36
def flOut (p : Pth) : Inv := ⟨Int, fun t => 0 ≤ t ∧ t ≤ p.mv p.n, fun t => ⟨tmpF p t, [rowF p t]⟩, fun t => (p.mv p.n - t).toNat⟩
def flIn (p : Pth) (t : Int) : Inv := ⟨Int, fun j => (0 ≤ j ∧ j ≤ (pat p t.toNat).n - 1) ∧ ∀ i : Nat, (i : Int) < j → ((pat p t.toNat).f (i + 1)).k ≠ 4,
  fun j => ⟨[(8, .own 1 0), (9, .own 3 0), (37, .sl ((pat p t.toNat).n - 1) 6 (fun i => lst (segL ((pat p t.toNat).f (1 + i))))), (38, .int .i64 ((pat p t.toNat).n - 1 : Nat)), (39, .int .i64 j)] ++ tmpF p t,
    [rowF p t, .cells 2 (lst (ptL (qpt (pat p t.toNat) j.toNat))) 34, .row 0 (qpp (pat p t.toNat) j.toNat).length 2 (fun i => lst (ptL (gp (qpp (pat p t.toNat) j.toNat) i))) 34, .cells 2 (lst [.osl 2 0, .lit false]) 36]⟩,
  fun j => ((pat p t.toNat).n - j).toNat⟩
def flCut (p : Pth) (t : Int) : Inv := ⟨Unit, fun _ => True,
  fun _ => ⟨[(9, .own 3 0)] ++ tmpF p t,
    [rowF p t, .cells 2 (fun _ => .any) 34, .row 0 (qline (pat p t.toNat)).length 2 (fun i => lst (ptL (gp (qline (pat p t.toNat)) i))) 34, .cells 2 (lst [.osl 2 0, .bool (qshut (pat p t.toNat))]) 36]⟩, fun _ => 0⟩
def spFlat : FSpec := mkSpec 12 (γ := Pth) (fun | [s] => some ⟨slLen s, pfD s⟩ | _ => none) (fun p => [pthS p]) (fun p => p.n ≤ 9223372036854775807) (fun p => .tup 2 (lst [linesS p (if p.chk = 0 then p.mv p.n else 0), .int .i64 p.chk]))
theorem ok_flat : SpecOK Try.prog spFlat := by
  refine spec_sound (specs := [spCheckPa, spSubs, spPts]) (all_ok (⟨ok_checkPa, ok_subs, ok_pts, trivial⟩)) (eqs := []) (fun _ _ h => (List.not_mem_nil h).elim) Aff.mixed Try.func12 rfl (by kernel_rfl) (fun _ _ => by kernel_rfl) (fun g => (⟨[(6, .nest (flOut g) (fun t => [(11, .inv (flIn g t)), (18, .cut (flCut g t))]))], [(5, [.own 5 36 2]), (18, [.cells 3])]⟩ : Ann)) (fun g => Nat.le_of_ble_eq_true (by kernel_rfl)) ?_
  rintro p hn
  refine vc_of (B := let z29 := (True ∧ True);let z28 := (↑(p.mv p.n) : Int);let z27 := (9223372036854775807 : Nat);let z19 := (0 : Int);let z18 := ((0 : Nat) = (0 : Nat));let z16 := (1 : Nat);let z1 := (IntKind.i64 = IntKind.i64); let z7 := (Sx.Ask z1 ∧ Sx.Ask (z28 = z28)); let z5 := ((Sx.Ask (p.n = p.n) ∧ ∀ (i : Nat), i < p.n → (((((True ∧ Sx.Ask z1 ∧ Sx.Ask ((p.f i).k = (p.f i).k)) ∧ Sx.Ask z1 ∧ Sx.Ask ((p.f i).x = (p.f i).x)) ∧ Sx.Ask z1 ∧ Sx.Ask ((p.f i).y = (p.f i).y)) ∧ Sx.Ask z1 ∧ Sx.Ask ((p.f i).u = (p.f i).u)) ∧ Sx.Ask z1 ∧ Sx.Ask ((p.f i).v = (p.f i).v)) ∧ Sx.Ask z1 ∧ Sx.Ask ((p.f i).w = (p.f i).w)) ∧ True);let z0 := (Sx.Ask (p.mv p.n = p.mv p.n) ∧ ∀ (i : Nat), i < p.mv p.n → True ∧ Sx.Ask (p.ln p.n i = p.ln p.n i) ∧ ∀ (i_1 : Nat), let z11 := ((p.sub p.n i).f i_1); i_1 < p.ln p.n i → (((((True ∧ Sx.Ask z1 ∧ Sx.Ask (z11.k = z11.k)) ∧ Sx.Ask z1 ∧ Sx.Ask (z11.x = z11.x)) ∧ Sx.Ask z1 ∧ Sx.Ask (z11.y = z11.y)) ∧ Sx.Ask z1 ∧ Sx.Ask (z11.u = z11.u)) ∧ Sx.Ask z1 ∧ Sx.Ask (z11.v = z11.v)) ∧ Sx.Ask z1 ∧ Sx.Ask (z11.w = z11.w));True ∧ True ∧ True ∧ (z5 ∧ Sx.Ask (p.n ≤ z27)) ∧ True ∧ True ∧ True ∧ Sx.Br (decide (p.chk ≠ z19)) (True ∧ True ∧ True ∧ True ∧ (True ∧ Sx.Ask ((if p.chk = z19 then p.mv p.n else (0 : Nat)) = (0 : Nat))) ∧ Sx.Ask z1 ∧ Sx.Ask (p.chk = p.chk)) (True ∧ True ∧ (z5 ∧ Sx.Ask (p.chk = z19)) ∧ True ∧ True ∧ (∃ (g : Int), Sx.Ask ((flOut p).pre g) ∧ (True ∧ (Sx.Ask (p.mv p.n = p.mv p.n) ∧ ∀ (i : Nat), i < p.mv p.n → True ∧ Sx.Ask (p.ln p.n i = p.ln p.n i) ∧ ∀ (i_1 : Nat), let z20 := ((p.sub p.n i).f i_1); let z17 := (p.f (p.st p.n i + i_1)); i_1 < p.ln p.n i → (((((True ∧ Sx.Ask z1 ∧ Sx.Ask (z17.k = z20.k)) ∧ Sx.Ask z1 ∧ Sx.Ask (z17.x = z20.x)) ∧ Sx.Ask z1 ∧ Sx.Ask (z17.y = z20.y)) ∧ Sx.Ask z1 ∧ Sx.Ask (z17.u = z20.u)) ∧ Sx.Ask z1 ∧ Sx.Ask (z17.v = z20.v)) ∧ Sx.Ask z1 ∧ Sx.Ask (z17.w = z20.w)) ∧ z7 ∧ (Sx.Ask z1 ∧ Sx.Ask (z19 = g)) ∧ True) ∧ (Sx.Ask ((0 : Nat) = g.toNat) ∧ ∀ (i : Nat), i < g.toNat → (True ∧ False) ∧ False) ∧ True) ∧ ∀ (g : Int), let z24 := (Sx.Ask z1 ∧ Sx.Ask (g = g)); let z32 := (Sx.Ask z18 ∧ True ∧ z0 ∧ z7 ∧ z24 ∧ True); let z15 := (p.ln p.n g.toNat); let z14 := ((p.sub p.n g.toNat).f (Int.toNat z19)); let z13 := (↑(p.ln p.n g.toNat - z16) : Int); let z3 := (pat p g.toNat); let z33 := (qline z3); let z2 := (Sx.Ask (g.toNat = g.toNat) ∧ ∀ (i : Nat), let z21 := (qline (pat p i)); i < g.toNat → (True ∧ Sx.Ask (z21.length = z21.length) ∧ ∀ (i_1 : Nat), i_1 < z21.length → (True ∧ Sx.Ask z1 ∧ Sx.Ask ((gp z21 i_1).x = (gp z21 i_1).x)) ∧ Sx.Ask z1 ∧ Sx.Ask ((gp z21 i_1).y = (gp z21 i_1).y)) ∧ Sx.Ask (qshut (pat p i) = qshut (pat p i))); (flOut p).pre g → True ∧ Sx.Br (decide (g < z28)) (Sx.Ask (z19 ≤ g ∧ g < z28) ∧ True ∧ True ∧ True ∧ Sx.Ask (z19 ≤ z19 ∧ z19 < (↑z15 : Int)) ∧ True ∧ True ∧ True ∧ Sx.Ask (z19 ≤ z19 ∧ z19 < (↑z15 : Int)) ∧ True ∧ True ∧ True ∧ True ∧ True ∧ True ∧ True ∧ True ∧ True ∧ True ∧ (True ∧ Sx.Ask (z19 ≤ Int.ofNat z16 ∧ Int.ofNat z16 ≤ Int.ofNat z15 ∧ Int.ofNat z15 ≤ Int.ofNat z15 ∧ Int.ofNat z15 ≤ (↑z15 : Int)) ∧ True ∧ True ∧ (∃ (g_1 : Int), let z30 := (qpp z3 g_1.toNat); Sx.Ask ((flIn p g).pre g_1) ∧ (Sx.Ask z18 ∧ Sx.Ask z18 ∧ (Sx.Ask ((Int.ofNat z15 - Int.ofNat z16).toNat = p.ln p.n g.toNat - z16) ∧ ∀ (i : Nat), let z25 := (z3.f (z16 + i)); let z8 := ((p.sub p.n g.toNat).f ((Int.ofNat z16).toNat + i)); i < p.ln p.n g.toNat - z16 → (((((True ∧ Sx.Ask z1 ∧ Sx.Ask (z8.k = z25.k)) ∧ Sx.Ask z1 ∧ Sx.Ask (z8.x = z25.x)) ∧ Sx.Ask z1 ∧ Sx.Ask (z8.y = z25.y)) ∧ Sx.Ask z1 ∧ Sx.Ask (z8.u = z25.u)) ∧ Sx.Ask z1 ∧ Sx.Ask (z8.v = z25.v)) ∧ Sx.Ask z1 ∧ Sx.Ask (z8.w = z25.w)) ∧ (Sx.Ask z1 ∧ Sx.Ask ((↑(Int.ofNat z15 - Int.ofNat z16).toNat : Int) = z13)) ∧ (Sx.Ask z1 ∧ Sx.Ask (z19 = g_1)) ∧ True ∧ z0 ∧ z7 ∧ z24 ∧ True) ∧ z2 ∧ ((True ∧ Sx.Ask z1 ∧ Sx.Ask (z14.x = (z3.f g_1.toNat).x)) ∧ Sx.Ask z1 ∧ Sx.Ask (z14.y = (z3.f g_1.toNat).y)) ∧ (Sx.Ask (z16 = z30.length) ∧ ∀ (i : Nat), i < z30.length → (True ∧ Sx.Ask z1 ∧ Sx.Ask (z14.x = (gp z30 i).x)) ∧ Sx.Ask z1 ∧ Sx.Ask (z14.y = (gp z30 i).y)) ∧ (z29 ∧ Sx.Ask (false = false)) ∧ True) ∧ ∀ (g_1 : Int), let z26 := (z3.f g_1.toNat); let z12 := (qpp z3 g_1.toNat); let z9 := (Sx.Ask (z12.length = z33.length) ∧ ∀ (i : Nat), i < z33.length → (True ∧ Sx.Ask z1 ∧ Sx.Ask ((gp z12 i).x = (gp z33 i).x)) ∧ Sx.Ask z1 ∧ Sx.Ask ((gp z12 i).y = (gp z33 i).y)); let z4 := (z3.f (z16 + g_1.toNat)); let z6 := (Cop.PsG.mk (Con.Pt.mk z26.x z26.y) z4); (flIn p g).pre g_1 → True ∧ Sx.Br (decide (g_1 < z13)) (Sx.Ask (z19 ≤ g_1 ∧ g_1 < z13) ∧ True ∧ True ∧ True ∧ True ∧ True ∧ True ∧ Sx.Br (decide (z4.k = (4 : Int))) (True ∧ True ∧ ∃ (g_2 : Unit), Sx.Ask ((flCut p g).pre g_2) ∧ z32 ∧ z2 ∧ (z29 ∧ True) ∧ z9 ∧ (z29 ∧ Sx.Ask (true = qshut z3)) ∧ True) (True ∧ True ∧ True ∧ True ∧ ((((True ∧ Sx.Ask z1 ∧ Sx.Ask (z26.x = z26.x)) ∧ Sx.Ask z1 ∧ Sx.Ask (z26.y = z26.y)) ∧ ((((((True ∧ Sx.Ask z1 ∧ Sx.Ask (z4.k = z4.k)) ∧ Sx.Ask z1 ∧ Sx.Ask (z4.x = z4.x)) ∧ Sx.Ask z1 ∧ Sx.Ask (z4.y = z4.y)) ∧ Sx.Ask z1 ∧ Sx.Ask (z4.u = z4.u)) ∧ Sx.Ask z1 ∧ Sx.Ask (z4.v = z4.v)) ∧ Sx.Ask z1 ∧ Sx.Ask (z4.w = z4.w)) ∧ True) ∧ Sx.Ask z6.ok) ∧ Sx.Ask (z12.length + z6.n.toNat ≤ z27 ∧ (z12.length + z6.n.toNat) * (16 : Nat) ≤ (140737488355328 : Nat)) ∧ True ∧ True ∧ True ∧ True ∧ True ∧ True ∧ True ∧ True ∧ Sx.Ask ((-9223372036854775808 : Int) ≤ g_1 + (1 : Int) ∧ g_1 + (1 : Int) ≤ (9223372036854775807 : Int)) ∧ True ∧ ∃ (g' : Int), let z31 := (qpp z3 g'.toNat); Sx.Ask ((flIn p g).pre g') ∧ ((Sx.Ask z18 ∧ Sx.Ask z18 ∧ (Sx.Ask (p.ln p.n g.toNat - z16 = p.ln p.n g.toNat - z16) ∧ ∀ (i : Nat), let z10 := (z3.f (z16 + i)); i < p.ln p.n g.toNat - z16 → (((((True ∧ Sx.Ask z1 ∧ Sx.Ask (z10.k = z10.k)) ∧ Sx.Ask z1 ∧ Sx.Ask (z10.x = z10.x)) ∧ Sx.Ask z1 ∧ Sx.Ask (z10.y = z10.y)) ∧ Sx.Ask z1 ∧ Sx.Ask (z10.u = z10.u)) ∧ Sx.Ask z1 ∧ Sx.Ask (z10.v = z10.v)) ∧ Sx.Ask z1 ∧ Sx.Ask (z10.w = z10.w)) ∧ (Sx.Ask z1 ∧ Sx.Ask (z13 = z13)) ∧ (Sx.Ask z1 ∧ Sx.Ask (g_1 + (1 : Int) = g')) ∧ True ∧ z0 ∧ z7 ∧ z24 ∧ True) ∧ z2 ∧ ((True ∧ Sx.Ask z1 ∧ Sx.Ask (z4.x = (z3.f g'.toNat).x)) ∧ Sx.Ask z1 ∧ Sx.Ask (z4.y = (z3.f g'.toNat).y)) ∧ (Sx.Ask (z12.length + z6.n.toNat = z31.length) ∧ ∀ (i : Nat), i < z31.length → (True ∧ Sx.Ask z1 ∧ Sx.Ask ((bif decide (i < z12.length) then (gp z12 i).x else (z6.pt (↑(i - z12.length) : Int)).x) = (gp z31 i).x)) ∧ Sx.Ask z1 ∧ Sx.Ask ((bif decide (i < z12.length) then (gp z12 i).y else (z6.pt (↑(i - z12.length) : Int)).y) = (gp z31 i).y)) ∧ (z29 ∧ Sx.Ask (false = false)) ∧ True) ∧ Sx.Ask ((flIn p g).meas g' < (flIn p g).meas g_1))) (∃ (g_2 : Unit), Sx.Ask ((flCut p g).pre g_2) ∧ z32 ∧ z2 ∧ (z29 ∧ True) ∧ z9 ∧ (z29 ∧ Sx.Ask (false = qshut z3)) ∧ True)) ∧ ∀ (g_1 : Unit), (flCut p g).pre g_1 → True ∧ True ∧ True ∧ Sx.Ask (g.toNat + z16 ≤ z27 ∧ (g.toNat + z16) * (32 : Nat) ≤ (140737488355328 : Nat)) ∧ True ∧ Sx.Ask ((-9223372036854775808 : Int) ≤ g + (1 : Int) ∧ g + (1 : Int) ≤ (9223372036854775807 : Int)) ∧ True ∧ ∃ (g' : Int), Sx.Ask ((flOut p).pre g') ∧ ((True ∧ z0 ∧ z7 ∧ (Sx.Ask z1 ∧ Sx.Ask (g + (1 : Int) = g')) ∧ True) ∧ (Sx.Ask (g.toNat + z16 = g'.toNat) ∧ ∀ (i : Nat), let z22 := (qline (pat p i)); i < g'.toNat → (True ∧ Sx.Ask ((bif decide (i < g.toNat) then z22.length else z33.length) = z22.length) ∧ ∀ (i_1 : Nat), i_1 < z22.length → (True ∧ Sx.Ask z1 ∧ Sx.Ask ((bif decide (i < g.toNat) then (gp z22 i_1).x else (gp z33 i_1).x) = (gp z22 i_1).x)) ∧ Sx.Ask z1 ∧ Sx.Ask ((bif decide (i < g.toNat) then (gp z22 i_1).y else (gp z33 i_1).y) = (gp z22 i_1).y)) ∧ Sx.Ask ((bif decide (i < g.toNat) then qshut (pat p i) else qshut z3) = qshut (pat p i))) ∧ True) ∧ Sx.Ask ((flOut p).meas g' < (flOut p).meas g)) (True ∧ True ∧ True ∧ True ∧ (True ∧ Sx.Ask (g.toNat = if p.chk = z19 then p.mv p.n else (0 : Nat)) ∧ ∀ (i : Nat), let z23 := (qline (pat p i)); (i < if p.chk = z19 then p.mv p.n else (0 : Nat)) → (True ∧ Sx.Ask (z23.length = z23.length) ∧ ∀ (i_1 : Nat), i_1 < z23.length → (True ∧ Sx.Ask z1 ∧ Sx.Ask ((gp z23 i_1).x = (gp z23 i_1).x)) ∧ Sx.Ask z1 ∧ Sx.Ask ((gp z23 i_1).y = (gp z23 i_1).y)) ∧ Sx.Ask (qshut (pat p i) = qshut (pat p i))) ∧ Sx.Ask z1 ∧ Sx.Ask (z19 = p.chk)))) (by kernel_rfl) ?_
  simp only [ask_iff, br_iff, eq_self, true_and, and_true, implies_true, forall_const, decide_eq_true_eq, decide_eq_false_iff_not, ne_eq, Nat.mul_one, Nat.add_zero, Nat.zero_add]
  refine ⟨hn, fun h => if_neg h, fun hcc => ?_⟩
  have h0 : p.chk = 0 := Classical.not_not.1 hcc
  have hn2 := (chk_0.1 h0).1
  have hmv : p.mv p.n ≤ p.n := by
    have : ∀ j, p.mv j ≤ j := fun j => by
      induction j with
      | zero => exact Nat.le_refl 0
      | succ j ih => show p.mv j + (if (p.f j).k = 1 then 1 else 0) ≤ j + 1; split <;> omega
    exact this _
  refine ⟨h0, ⟨(0 : Int), ⟨Int.le_refl 0, Int.natCast_nonneg _⟩, ⟨fun t _ j _ => seg6 rfl, rfl⟩, rfl, fun t ht => absurd ht (Nat.not_lt_zero _)⟩, fun t ht => ?_⟩
  have ht' : 0 ≤ t ∧ t ≤ p.mv p.n := ht
  refine ⟨fun hlt => ?_, fun hge => ⟨by rw [if_pos h0]; omega, h0.symm⟩⟩
  have sk := sub_ok h0 (t := t.toNat) (by omega)
  have en : (pat p t.toNat).n = p.ln p.n t.toNat := rfl
  have n1 := sk.n1
  have n2 := sk.n2
  rw [en] at n1 n2
  have e1 : (Int.ofNat 1).toNat = 1 := rfl
  have e0 : Int.toNat 0 = 0 := rfl
  simp only [e1, e0, Int.ofNat_eq_natCast]
  have ef : ∀ j, (p.sub p.n t.toNat).f j = (pat p t.toNat).f j := fun j => rfl
  simp only [ef]
  refine ⟨by omega, by omega, by omega, ⟨by omega, ⟨(0 : Int), ⟨⟨Int.le_refl 0, by omega⟩, fun i hi => absurd hi (by omega)⟩, ⟨⟨by omega, fun i _ => seg6 rfl⟩, by omega, rfl⟩, ⟨rfl, rfl⟩, rfl, fun i hi => ?_⟩, fun j hj => ?_⟩, fun _ _ => ⟨by omega, by omega, t + 1, ⟨show 0 ≤ t + 1 by omega, show t + 1 ≤ (p.mv p.n : Int) by omega⟩, ⟨rfl, by omega, fun i hi => ?_⟩, show (p.mv p.n - (t + 1)).toNat < (p.mv p.n - t).toNat by omega⟩⟩
  · have hi' : i < 1 := hi
    obtain rfl : i = 0 := by omega
    exact ⟨rfl, rfl⟩
  · have hj' : (0 ≤ j ∧ j ≤ (p.ln p.n t.toNat : Int) - 1) ∧ ∀ i : Nat, (i : Int) < j → ((pat p t.toNat).f (i + 1)).k ≠ 4 := hj
    obtain ⟨⟨j0, j1⟩, j2⟩ := hj'
    rw [Nat.add_comm 1 j.toNat]
    have et : (j + 1).toNat = j.toNat + 1 := by omega
    have hq : qpp (pat p t.toNat) (j.toNat + 1) = qpp (pat p t.toNat) j.toNat ++ if ((pat p t.toNat).f (j.toNat + 1)).k = 4 then [] else ptsOf (qps (pat p t.toNat) j.toNat) := rfl
    have hln : qline (pat p t.toNat) = qpp (pat p t.toNat) (p.ln p.n t.toNat - 1) := rfl
    have hsh : qshut (pat p t.toNat) = decide (((pat p t.toNat).f (p.ln p.n t.toNat - 1)).k = 4) := rfl
    have hpl := qpp_len (pat p t.toNat) j.toNat
    refine ⟨fun hl => ⟨⟨by omega, by omega⟩, fun h4 => ?_, fun h4 => ?_⟩, fun hl => ?_⟩
    · have hlast := (sk.kk (j.toNat + 1) (by omega) (by rw [en]; omega)).2 h4
      rw [en] at hlast
      rw [if_pos h4, List.append_nil] at hq
      have e : p.ln p.n t.toNat - 1 = j.toNat + 1 := by omega
      rw [hln, hsh, e, hq, decide_eq_true h4]
      exact ⟨(), trivial, ⟨rfl, fun _ _ => ⟨rfl, rfl⟩⟩, rfl⟩
    · have pok := ps_ok sk (j := j.toNat) (by rw [en]; omega) h4
      have hnn := n_le (qps (pat p t.toNat) j.toNat)
      rw [if_neg h4] at hq
      have hlen : (qpp (pat p t.toNat) (j.toNat + 1)).length = (qpp (pat p t.toNat) j.toNat).length + (qps (pat p t.toNat) j.toNat).n.toNat := by rw [hq, List.length_append, ptsOf_len]
      have eps : (PsG.mk ⟨((pat p t.toNat).f j.toNat).x, ((pat p t.toNat).f j.toNat).y⟩ ((pat p t.toNat).f (j.toNat + 1))) = qps (pat p t.toNat) j.toNat := rfl
      rw [eps]
      refine ⟨pok, by omega, by omega, j + 1, ⟨⟨by omega, by rw [en]; omega⟩, fun i hi => ?_⟩, ⟨rfl, ⟨by rw [et], by rw [et]⟩, by rw [et, hlen], fun i hi => ?_⟩, ?_⟩
      · by_cases e : (i : Int) < j
        · exact j2 i e
        · have : i = j.toNat := by omega
          rw [this]
          exact h4
      · rw [et] at hi ⊢
        rw [hq, gp_app]
        rw [hlen] at hi
        by_cases e : i < (qpp (pat p t.toNat) j.toNat).length
        · rw [decide_eq_true e, if_pos e]
          exact ⟨rfl, rfl⟩
        · rw [decide_eq_false e, if_neg e, gp_pts _ (by omega)]
          exact ⟨rfl, rfl⟩
      · show (((p.ln p.n t.toNat : Nat) : Int) - (j + 1)).toNat < (((p.ln p.n t.toNat : Nat) : Int) - j).toNat
        omega
    · have ej : j.toNat = p.ln p.n t.toNat - 1 := by omega
      have h4 : ¬ ((pat p t.toNat).f (p.ln p.n t.toNat - 1)).k = 4 := by
        by_cases e : p.ln p.n t.toNat = 1
        · rw [e, sk.k0]
          decide
        · have := j2 (p.ln p.n t.toNat - 2) (by omega)
          rw [show p.ln p.n t.toNat - 2 + 1 = p.ln p.n t.toNat - 1 by omega] at this
          exact this
      rw [hln, hsh, ej, decide_eq_false h4]
      exact ⟨(), trivial, ⟨rfl, fun _ _ => ⟨rfl, rfl⟩⟩, rfl⟩
  · by_cases e : i < t.toNat
    · rw [decide_eq_true e]
      exact ⟨⟨rfl, fun _ _ => ⟨rfl, rfl⟩⟩, rfl⟩
    · have : i = t.toNat := by omega
      rw [decide_eq_false e, this]
      exact ⟨⟨rfl, fun _ _ => ⟨rfl, rfl⟩⟩, rfl⟩
end Go.Proofs.Ytfjbjbmbdadmhaa.Flt
