/- path.Reverse, by the evaluation. -/
import Derived.Test.YtfjbjbmbdadmhaaPbo
import Derived.Test.YtfjbjbmbdadmhaaPmp
set_option linter.unusedSimpArgs false
set_option linter.unusedVariables false
namespace Go.Proofs.Ytfjbjbmbdadmhaa.Prv
open Go.RowKit Sx Num Aff Con Cop Coh Pth Pmp
set_option maxRecDepth 100000
/-! Where the subpaths lie. -/
structure SubOK (p : Pth) (i t : Nat) : Prop where
  nx : t + 1 < p.mv i → p.st i t + p.ln i t = p.st i (t + 1)
  la : t + 1 = p.mv i → p.st i t + p.ln i t = i
  z : t = 0 → p.st i t = 0
  pos : 1 ≤ p.ln i t
  ix : ∀ j, p.st i t ≤ j → j < p.st i t + p.ln i t → p.mv (j + 1) = t + 1
  k1 : (p.f (p.st i t)).k = 1
theorem sub_all {p : Pth} (h : p.chk = 0) : ∀ i, i ≤ p.n → ∀ t, t < p.mv i → SubOK p i t
  | 0, _, t, ht => absurd ht (Nat.not_lt_zero _)
  | i + 1, hi, t, ht => by
    have ih := sub_all h i (by omega)
    have hm : p.mv (i + 1) = p.mv i + if (p.f i).k = 1 then 1 else 0 := rfl
    have es : ∀ t, p.st (i + 1) t = if (p.f i).k = 1 ∧ t = p.mv i then i else p.st i t := fun _ => rfl
    have el : ∀ t, p.ln (i + 1) t = if t + 1 = p.mv (i + 1) then (if (p.f i).k = 1 then 1 else p.ln i t + 1) else p.ln i t := fun _ => rfl
    by_cases hk : (p.f i).k = 1
    · rw [if_pos hk] at hm
      have es' : ∀ t, t ≠ p.mv i → p.st (i + 1) t = p.st i t := fun t ht => by rw [es, if_neg (fun hc => ht hc.2)]
      have eT : p.st (i + 1) (p.mv i) = i := by rw [es, if_pos ⟨hk, rfl⟩]
      have el' : ∀ t, t ≠ p.mv i → p.ln (i + 1) t = p.ln i t := fun t ht => by rw [el, if_neg (by omega)]
      have lT : p.ln (i + 1) (p.mv i) = 1 := by rw [el, if_pos (by omega), if_pos hk]
      by_cases hT : t = p.mv i
      · subst hT
        refine ⟨fun h => by omega, fun _ => by rw [eT, lT], fun h0 => ?_, by rw [lT]; exact Nat.le_refl _, fun j h1 h2 => ?_, by rw [eT]; exact hk⟩
        · rw [eT]
          refine Classical.byContradiction fun hc => ?_
          have := mv_pos h i (by omega) (by omega)
          omega
        · rw [eT] at h1 h2
          rw [lT] at h2
          rw [show j = i by omega, hm]
      · have o := ih t (by omega)
        refine ⟨fun h => ?_, fun h => by omega, fun h0 => by rw [es' t hT]; exact o.z h0, by rw [el' t hT]; exact o.pos, fun j h1 h2 => ?_, by rw [es' t hT]; exact o.k1⟩
        · rw [es' t hT, el' t hT]
          by_cases h2 : t + 1 = p.mv i
          · rw [h2, eT]; exact o.la h2
          · rw [es' (t + 1) h2]; exact o.nx (by omega)
        · rw [es' t hT] at h1 h2
          rw [el' t hT] at h2
          exact o.ix j h1 h2
    · rw [if_neg hk] at hm
      have es' : ∀ t, p.st (i + 1) t = p.st i t := fun t => by rw [es, if_neg (fun hc => hk hc.1)]
      have o := ih t (by omega)
      rw [Nat.add_zero] at hm
      by_cases hT : t + 1 = p.mv i
      · have lT : p.ln (i + 1) t = p.ln i t + 1 := by rw [el, if_pos (by omega), if_neg hk]
        have hla := o.la hT
        refine ⟨fun h => by omega, fun _ => by rw [es', lT]; omega, fun h0 => by rw [es']; exact o.z h0, by rw [lT]; omega, fun j h1 h2 => ?_, by rw [es']; exact o.k1⟩
        rw [es'] at h1 h2
        rw [lT] at h2
        by_cases hj : j = i
        · rw [hj, hm]; exact hT.symm
        · exact o.ix j h1 (by omega)
      · have lT : p.ln (i + 1) t = p.ln i t := by rw [el, if_neg (by omega)]
        refine ⟨fun h => by rw [es', es', lT]; exact o.nx (by omega), fun h => by omega, fun h0 => by rw [es']; exact o.z h0, by rw [lT]; exact o.pos, fun j h1 h2 => ?_, by rw [es']; exact o.k1⟩
        rw [es'] at h1 h2
        rw [lT] at h2
        exact o.ix j h1 h2
/-! The reversed path. -/
def pA (p : Pth) (t : Nat) : Nat := p.st p.n t
def pL (p : Pth) (t : Nat) : Nat := p.ln p.n t
def pC (p : Pth) (t : Nat) : Bool := decide ((p.f (pA p t + (pL p t - 1))).k = 4)
def pM (p : Pth) (t : Nat) : Nat := if pC p t = true then pL p t - 1 else pL p t
def rvA (p : Pth) (a m r : Nat) : Seg := if r = 0 then ⟨1, (p.f (a + (m - 1))).x, (p.f (a + (m - 1))).y, 0, 0, 0⟩
  else if r < m then ⟨(p.f (a + (m - r))).k, (p.f (a + (m - r - 1))).x, (p.f (a + (m - r - 1))).y, (p.f (a + (m - r))).u, (p.f (a + (m - r))).v, (p.f (a + (m - r))).w⟩ else ⟨4, 0, 0, 0, 0, 0⟩
def rv (p : Pth) (j : Nat) : Seg := rvA p (pA p (p.mv (j + 1) - 1)) (pM p (p.mv (j + 1) - 1)) (j - pA p (p.mv (j + 1) - 1))
def pB (p : Pth) (t : Nat) : Nat := if t < p.mv p.n then pA p t else p.n
def rvO (p : Pth) : Pth := ⟨if p.chk = 0 then p.n else 0, rv p⟩
def rowR (p : Pth) (len : Nat) : SO := .row 0 len 6 (fun j => lst (segL (rv p j))) 76
def prT (p : Pth) (t : Nat) : List (Nat × SV) := [(5, .osl 0 0), (21, subS p p.n), (22, .int .i64 (p.mv p.n)), (23, .int .i64 t)]
def prOut (p : Pth) : Inv := ⟨Nat, fun t => t ≤ p.mv p.n, fun t => ⟨prT p t, [rowR p (pB p t)]⟩, fun t => p.mv p.n - t⟩
def prS (p : Pth) (t : Nat) : List (Nat × SV) := prT p t ++ [(7, .sl (pL p t) 6 (fun i => lst (segL (p.f (pA p t + i))))), (8, .int .i64 (pM p t)), (9, .bool (pC p t))]
def prCut (p : Pth) (t : Nat) : Inv := ⟨Unit, fun _ => True, fun _ => ⟨prS p t, [rowR p (pB p t)]⟩, fun _ => 0⟩
def prIn (p : Pth) (t : Nat) : Inv := ⟨Nat, fun i => i < pM p t, fun i => ⟨(10, .int .i64 i) :: prS p t, [rowR p (pA p t + (pM p t - i))]⟩, fun i => i⟩
theorem st_le {p : Pth} : ∀ i t, p.st i t ≤ i
  | 0, _ => Nat.le_refl _
  | i + 1, t => by
    show (if (p.f i).k = 1 ∧ t = p.mv i then i else p.st i t) ≤ i + 1
    have := st_le (p := p) i t
    split <;> omega
theorem mv_le {p : Pth} : ∀ i, p.mv i ≤ i
  | 0 => Nat.le_refl _
  | i + 1 => by
    show p.mv i + (if (p.f i).k = 1 then 1 else 0) ≤ i + 1
    have := mv_le (p := p) i
    split <;> omega
theorem pB_le (p : Pth) (t : Nat) : pB p t ≤ p.n := by
  unfold pB
  split
  · exact st_le _ _
  · exact Nat.le_refl _
structure SubAt (p : Pth) (t : Nat) : Prop where
  l1 : 1 ≤ pL p t
  m1 : 1 ≤ pM p t
  ml : pM p t ≤ pL p t
  nx : pA p t + pL p t = pB p (t + 1)
  at' : pB p t = pA p t
  c1 : pC p t = true → pM p t + 1 = pL p t
  c0 : pC p t = false → pM p t = pL p t
  rv' : ∀ r, r < pL p t → rv p (pA p t + r) = rvA p (pA p t) (pM p t) r
  mv' : ∀ r, r < pL p t → p.mv (pA p t + r + 1) = t + 1
  k1 : (p.f (pA p t)).k = 1
theorem sub_at {p : Pth} (h : p.chk = 0) {t : Nat} (ht : t < p.mv p.n) : SubAt p t := by
  have o := sub_all h p.n (Nat.le_refl _) t ht
  have l1 : 1 ≤ pL p t := o.pos
  have nx : pA p t + pL p t = pB p (t + 1) := by
    unfold pB
    by_cases h1 : t + 1 < p.mv p.n
    · rw [if_pos h1]; exact o.nx h1
    · rw [if_neg h1]; exact o.la (by omega)
  have hc : pC p t = true → 2 ≤ pL p t := fun hc => by
    refine Classical.byContradiction fun h2 => ?_
    have h4 := of_decide_eq_true hc
    rw [show pA p t + (pL p t - 1) = p.st p.n t by show p.st p.n t + _ = _; omega] at h4
    rw [o.k1] at h4
    exact absurd h4 (by decide)
  have mv' : ∀ r, r < pL p t → p.mv (pA p t + r + 1) = t + 1 := fun r hr => o.ix (pA p t + r) (Nat.le_add_right _ _) (Nat.add_lt_add_left hr _)
  refine ⟨l1, ?_, ?_, nx, if_pos ht, fun h1 => ?_, fun h0 => ?_, fun r hr => ?_, mv', o.k1⟩
  · unfold pM; split
    · next hcc => have := hc hcc; omega
    · exact l1
  · unfold pM; split <;> omega
  · unfold pM; rw [if_pos h1]; have := hc h1; omega
  · unfold pM; rw [if_neg (by rw [h0]; decide)]
  · unfold rv
    rw [mv' r hr, Nat.add_sub_cancel, Nat.add_sub_cancel_left]
def spRev : FSpec := mkSpec 13 (γ := Pth) (fun | [s] => some ⟨slLen s, pfD s⟩ | _ => none) (fun p => [pthS p]) (fun p => p.n ≤ 9223372036854775807) (fun p => .tup 2 (lst [pthS (rvO p), .int .i64 p.chk]))
theorem ok_rev : SpecOK Try.prog spRev := by
  refine spec_sound (specs := [spCheckPa, spSubs]) (all_ok (⟨ok_checkPa, ok_subs, trivial⟩)) (eqs := []) (fun _ _ h => (List.not_mem_nil h).elim) Aff.mixed Try.func13 rfl (by kernel_rfl) (fun _ _ => by kernel_rfl) (fun g => (⟨[(6, .nest (prOut g) (fun t => [(11, .cut (prCut g t)), (13, .inv (prIn g t))]))], []⟩ : Ann)) (fun g => Nat.le_of_ble_eq_true (by kernel_rfl)) ?_
  rintro p hn
  refine vc_of (B := True ∧ True ∧ True ∧ (((Sx.Ask (p.n = p.n) ∧ ∀ (i : Nat), i < p.n → (((((True ∧ Sx.Ask (IntKind.i64 = IntKind.i64) ∧ Sx.Ask ((p.f i).k = (p.f i).k)) ∧ Sx.Ask (IntKind.i64 = IntKind.i64) ∧ Sx.Ask ((p.f i).x = (p.f i).x)) ∧ Sx.Ask (IntKind.i64 = IntKind.i64) ∧ Sx.Ask ((p.f i).y = (p.f i).y)) ∧ Sx.Ask (IntKind.i64 = IntKind.i64) ∧ Sx.Ask ((p.f i).u = (p.f i).u)) ∧ Sx.Ask (IntKind.i64 = IntKind.i64) ∧ Sx.Ask ((p.f i).v = (p.f i).v)) ∧ Sx.Ask (IntKind.i64 = IntKind.i64) ∧ Sx.Ask ((p.f i).w = (p.f i).w)) ∧ True) ∧ Sx.Ask (p.n ≤ (9223372036854775807 : Nat))) ∧ True ∧ True ∧ True ∧ Sx.Br (decide (p.chk ≠ (0 : Int))) (True ∧ True ∧ True ∧ True ∧ (True ∧ Sx.Ask ((if p.chk = (0 : Int) then p.n else (0 : Nat)) = (0 : Nat))) ∧ Sx.Ask (IntKind.i64 = IntKind.i64) ∧ Sx.Ask (p.chk = p.chk)) (True ∧ True ∧ Sx.Ask ((0 : Int) ≤ (0 : Int) ∧ (0 : Int) ≤ (↑p.n : Int) ∧ (↑(48 : Nat) : Int) * (↑p.n : Int) ≤ (140737488355328 : Int) ∧ (↑p.n : Int) ≤ (9223372036854775807 : Int)) ∧ True ∧ True ∧ (((Sx.Ask (p.n = p.n) ∧ ∀ (i : Nat), i < p.n → (((((True ∧ Sx.Ask (IntKind.i64 = IntKind.i64) ∧ Sx.Ask ((p.f i).k = (p.f i).k)) ∧ Sx.Ask (IntKind.i64 = IntKind.i64) ∧ Sx.Ask ((p.f i).x = (p.f i).x)) ∧ Sx.Ask (IntKind.i64 = IntKind.i64) ∧ Sx.Ask ((p.f i).y = (p.f i).y)) ∧ Sx.Ask (IntKind.i64 = IntKind.i64) ∧ Sx.Ask ((p.f i).u = (p.f i).u)) ∧ Sx.Ask (IntKind.i64 = IntKind.i64) ∧ Sx.Ask ((p.f i).v = (p.f i).v)) ∧ Sx.Ask (IntKind.i64 = IntKind.i64) ∧ Sx.Ask ((p.f i).w = (p.f i).w)) ∧ True) ∧ Sx.Ask (p.chk = (0 : Int))) ∧ True ∧ True ∧ (∃ (g : Nat), Sx.Ask ((prOut p).pre g) ∧ (True ∧ (Sx.Ask (p.mv p.n = p.mv p.n) ∧ ∀ (i : Nat), i < p.mv p.n → True ∧ Sx.Ask (p.ln p.n i = p.ln p.n i) ∧ ∀ (i_1 : Nat), i_1 < p.ln p.n i → (((((True ∧ Sx.Ask (IntKind.i64 = IntKind.i64) ∧ Sx.Ask ((p.f (p.st p.n i + i_1)).k = ((p.sub p.n i).f i_1).k)) ∧ Sx.Ask (IntKind.i64 = IntKind.i64) ∧ Sx.Ask ((p.f (p.st p.n i + i_1)).x = ((p.sub p.n i).f i_1).x)) ∧ Sx.Ask (IntKind.i64 = IntKind.i64) ∧ Sx.Ask ((p.f (p.st p.n i + i_1)).y = ((p.sub p.n i).f i_1).y)) ∧ Sx.Ask (IntKind.i64 = IntKind.i64) ∧ Sx.Ask ((p.f (p.st p.n i + i_1)).u = ((p.sub p.n i).f i_1).u)) ∧ Sx.Ask (IntKind.i64 = IntKind.i64) ∧ Sx.Ask ((p.f (p.st p.n i + i_1)).v = ((p.sub p.n i).f i_1).v)) ∧ Sx.Ask (IntKind.i64 = IntKind.i64) ∧ Sx.Ask ((p.f (p.st p.n i + i_1)).w = ((p.sub p.n i).f i_1).w)) ∧ (Sx.Ask (IntKind.i64 = IntKind.i64) ∧ Sx.Ask ((↑(p.mv p.n) : Int) = (↑(p.mv p.n) : Int))) ∧ (Sx.Ask (IntKind.i64 = IntKind.i64) ∧ Sx.Ask ((0 : Int) = (↑g : Int))) ∧ True) ∧ (Sx.Ask (Int.toNat (0 : Int) = pB p g) ∧ ∀ (i : Nat), i < pB p g → (((((True ∧ Sx.Ask (IntKind.i64 = IntKind.i64) ∧ Sx.Ask ((0 : Int) = (rv p i).k)) ∧ Sx.Ask (IntKind.i64 = IntKind.i64) ∧ Sx.Ask ((0 : Int) = (rv p i).x)) ∧ Sx.Ask (IntKind.i64 = IntKind.i64) ∧ Sx.Ask ((0 : Int) = (rv p i).y)) ∧ Sx.Ask (IntKind.i64 = IntKind.i64) ∧ Sx.Ask ((0 : Int) = (rv p i).u)) ∧ Sx.Ask (IntKind.i64 = IntKind.i64) ∧ Sx.Ask ((0 : Int) = (rv p i).v)) ∧ Sx.Ask (IntKind.i64 = IntKind.i64) ∧ Sx.Ask ((0 : Int) = (rv p i).w)) ∧ True) ∧ ∀ (g : Nat), (prOut p).pre g → True ∧ Sx.Br (decide ((↑g : Int) < (↑(p.mv p.n) : Int))) (Sx.Ask ((0 : Int) ≤ (↑g : Int) ∧ (↑g : Int) < (↑(p.mv p.n) : Int)) ∧ True ∧ True ∧ True ∧ True ∧ True ∧ True ∧ True ∧ Sx.Ask ((-9223372036854775808 : Int) ≤ (↑(p.ln p.n (↑g : Int).toNat) : Int) - (1 : Int) ∧ (↑(p.ln p.n (↑g : Int).toNat) : Int) - (1 : Int) ≤ (9223372036854775807 : Int)) ∧ Sx.Ask ((0 : Int) ≤ (↑(p.ln p.n (↑g : Int).toNat) : Int) - (1 : Int) ∧ (↑(p.ln p.n (↑g : Int).toNat) : Int) - (1 : Int) < (↑(p.ln p.n (↑g : Int).toNat) : Int)) ∧ True ∧ True ∧ True ∧ True ∧ True ∧ (True ∧ Sx.Br (decide (((p.sub p.n (↑g : Int).toNat).f ((↑(p.ln p.n (↑g : Int).toNat) : Int) - (1 : Int)).toNat).k = (4 : Int))) (True ∧ Sx.Ask ((-9223372036854775808 : Int) ≤ (↑(p.ln p.n (↑g : Int).toNat) : Int) - (1 : Int) ∧ (↑(p.ln p.n (↑g : Int).toNat) : Int) - (1 : Int) ≤ (9223372036854775807 : Int)) ∧ True ∧ ∃ (g_1 : Unit), Sx.Ask ((prCut p g).pre g_1) ∧ (True ∧ (Sx.Ask (p.mv p.n = p.mv p.n) ∧ ∀ (i : Nat), i < p.mv p.n → True ∧ Sx.Ask (p.ln p.n i = p.ln p.n i) ∧ ∀ (i_1 : Nat), i_1 < p.ln p.n i → (((((True ∧ Sx.Ask (IntKind.i64 = IntKind.i64) ∧ Sx.Ask (((p.sub p.n i).f i_1).k = ((p.sub p.n i).f i_1).k)) ∧ Sx.Ask (IntKind.i64 = IntKind.i64) ∧ Sx.Ask (((p.sub p.n i).f i_1).x = ((p.sub p.n i).f i_1).x)) ∧ Sx.Ask (IntKind.i64 = IntKind.i64) ∧ Sx.Ask (((p.sub p.n i).f i_1).y = ((p.sub p.n i).f i_1).y)) ∧ Sx.Ask (IntKind.i64 = IntKind.i64) ∧ Sx.Ask (((p.sub p.n i).f i_1).u = ((p.sub p.n i).f i_1).u)) ∧ Sx.Ask (IntKind.i64 = IntKind.i64) ∧ Sx.Ask (((p.sub p.n i).f i_1).v = ((p.sub p.n i).f i_1).v)) ∧ Sx.Ask (IntKind.i64 = IntKind.i64) ∧ Sx.Ask (((p.sub p.n i).f i_1).w = ((p.sub p.n i).f i_1).w)) ∧ (Sx.Ask (IntKind.i64 = IntKind.i64) ∧ Sx.Ask ((↑(p.mv p.n) : Int) = (↑(p.mv p.n) : Int))) ∧ (Sx.Ask (IntKind.i64 = IntKind.i64) ∧ Sx.Ask ((↑g : Int) = (↑g : Int))) ∧ (Sx.Ask (p.ln p.n (↑g : Int).toNat = pL p g) ∧ ∀ (i : Nat), i < pL p g → (((((True ∧ Sx.Ask (IntKind.i64 = IntKind.i64) ∧ Sx.Ask (((p.sub p.n (↑g : Int).toNat).f i).k = (p.f (pA p g + i)).k)) ∧ Sx.Ask (IntKind.i64 = IntKind.i64) ∧ Sx.Ask (((p.sub p.n (↑g : Int).toNat).f i).x = (p.f (pA p g + i)).x)) ∧ Sx.Ask (IntKind.i64 = IntKind.i64) ∧ Sx.Ask (((p.sub p.n (↑g : Int).toNat).f i).y = (p.f (pA p g + i)).y)) ∧ Sx.Ask (IntKind.i64 = IntKind.i64) ∧ Sx.Ask (((p.sub p.n (↑g : Int).toNat).f i).u = (p.f (pA p g + i)).u)) ∧ Sx.Ask (IntKind.i64 = IntKind.i64) ∧ Sx.Ask (((p.sub p.n (↑g : Int).toNat).f i).v = (p.f (pA p g + i)).v)) ∧ Sx.Ask (IntKind.i64 = IntKind.i64) ∧ Sx.Ask (((p.sub p.n (↑g : Int).toNat).f i).w = (p.f (pA p g + i)).w)) ∧ (Sx.Ask (IntKind.i64 = IntKind.i64) ∧ Sx.Ask ((↑(p.ln p.n (↑g : Int).toNat) : Int) - (1 : Int) = (↑(pM p g) : Int))) ∧ Sx.Ask (decide (((p.sub p.n (↑g : Int).toNat).f ((↑(p.ln p.n (↑g : Int).toNat) : Int) - (1 : Int)).toNat).k = (4 : Int)) = pC p g) ∧ True) ∧ (Sx.Ask (pB p g = pB p g) ∧ ∀ (i : Nat), i < pB p g → (((((True ∧ Sx.Ask (IntKind.i64 = IntKind.i64) ∧ Sx.Ask ((rv p i).k = (rv p i).k)) ∧ Sx.Ask (IntKind.i64 = IntKind.i64) ∧ Sx.Ask ((rv p i).x = (rv p i).x)) ∧ Sx.Ask (IntKind.i64 = IntKind.i64) ∧ Sx.Ask ((rv p i).y = (rv p i).y)) ∧ Sx.Ask (IntKind.i64 = IntKind.i64) ∧ Sx.Ask ((rv p i).u = (rv p i).u)) ∧ Sx.Ask (IntKind.i64 = IntKind.i64) ∧ Sx.Ask ((rv p i).v = (rv p i).v)) ∧ Sx.Ask (IntKind.i64 = IntKind.i64) ∧ Sx.Ask ((rv p i).w = (rv p i).w)) ∧ True) (∃ (g_1 : Unit), Sx.Ask ((prCut p g).pre g_1) ∧ (True ∧ (Sx.Ask (p.mv p.n = p.mv p.n) ∧ ∀ (i : Nat), i < p.mv p.n → True ∧ Sx.Ask (p.ln p.n i = p.ln p.n i) ∧ ∀ (i_1 : Nat), i_1 < p.ln p.n i → (((((True ∧ Sx.Ask (IntKind.i64 = IntKind.i64) ∧ Sx.Ask (((p.sub p.n i).f i_1).k = ((p.sub p.n i).f i_1).k)) ∧ Sx.Ask (IntKind.i64 = IntKind.i64) ∧ Sx.Ask (((p.sub p.n i).f i_1).x = ((p.sub p.n i).f i_1).x)) ∧ Sx.Ask (IntKind.i64 = IntKind.i64) ∧ Sx.Ask (((p.sub p.n i).f i_1).y = ((p.sub p.n i).f i_1).y)) ∧ Sx.Ask (IntKind.i64 = IntKind.i64) ∧ Sx.Ask (((p.sub p.n i).f i_1).u = ((p.sub p.n i).f i_1).u)) ∧ Sx.Ask (IntKind.i64 = IntKind.i64) ∧ Sx.Ask (((p.sub p.n i).f i_1).v = ((p.sub p.n i).f i_1).v)) ∧ Sx.Ask (IntKind.i64 = IntKind.i64) ∧ Sx.Ask (((p.sub p.n i).f i_1).w = ((p.sub p.n i).f i_1).w)) ∧ (Sx.Ask (IntKind.i64 = IntKind.i64) ∧ Sx.Ask ((↑(p.mv p.n) : Int) = (↑(p.mv p.n) : Int))) ∧ (Sx.Ask (IntKind.i64 = IntKind.i64) ∧ Sx.Ask ((↑g : Int) = (↑g : Int))) ∧ (Sx.Ask (p.ln p.n (↑g : Int).toNat = pL p g) ∧ ∀ (i : Nat), i < pL p g → (((((True ∧ Sx.Ask (IntKind.i64 = IntKind.i64) ∧ Sx.Ask (((p.sub p.n (↑g : Int).toNat).f i).k = (p.f (pA p g + i)).k)) ∧ Sx.Ask (IntKind.i64 = IntKind.i64) ∧ Sx.Ask (((p.sub p.n (↑g : Int).toNat).f i).x = (p.f (pA p g + i)).x)) ∧ Sx.Ask (IntKind.i64 = IntKind.i64) ∧ Sx.Ask (((p.sub p.n (↑g : Int).toNat).f i).y = (p.f (pA p g + i)).y)) ∧ Sx.Ask (IntKind.i64 = IntKind.i64) ∧ Sx.Ask (((p.sub p.n (↑g : Int).toNat).f i).u = (p.f (pA p g + i)).u)) ∧ Sx.Ask (IntKind.i64 = IntKind.i64) ∧ Sx.Ask (((p.sub p.n (↑g : Int).toNat).f i).v = (p.f (pA p g + i)).v)) ∧ Sx.Ask (IntKind.i64 = IntKind.i64) ∧ Sx.Ask (((p.sub p.n (↑g : Int).toNat).f i).w = (p.f (pA p g + i)).w)) ∧ (Sx.Ask (IntKind.i64 = IntKind.i64) ∧ Sx.Ask ((↑(p.ln p.n (↑g : Int).toNat) : Int) = (↑(pM p g) : Int))) ∧ Sx.Ask (decide (((p.sub p.n (↑g : Int).toNat).f ((↑(p.ln p.n (↑g : Int).toNat) : Int) - (1 : Int)).toNat).k = (4 : Int)) = pC p g) ∧ True) ∧ (Sx.Ask (pB p g = pB p g) ∧ ∀ (i : Nat), i < pB p g → (((((True ∧ Sx.Ask (IntKind.i64 = IntKind.i64) ∧ Sx.Ask ((rv p i).k = (rv p i).k)) ∧ Sx.Ask (IntKind.i64 = IntKind.i64) ∧ Sx.Ask ((rv p i).x = (rv p i).x)) ∧ Sx.Ask (IntKind.i64 = IntKind.i64) ∧ Sx.Ask ((rv p i).y = (rv p i).y)) ∧ Sx.Ask (IntKind.i64 = IntKind.i64) ∧ Sx.Ask ((rv p i).u = (rv p i).u)) ∧ Sx.Ask (IntKind.i64 = IntKind.i64) ∧ Sx.Ask ((rv p i).v = (rv p i).v)) ∧ Sx.Ask (IntKind.i64 = IntKind.i64) ∧ Sx.Ask ((rv p i).w = (rv p i).w)) ∧ True)) ∧ ∀ (g_1 : Unit), (prCut p g).pre g_1 → True ∧ True ∧ True ∧ Sx.Ask ((-9223372036854775808 : Int) ≤ (↑(pM p g) : Int) - (1 : Int) ∧ (↑(pM p g) : Int) - (1 : Int) ≤ (9223372036854775807 : Int)) ∧ Sx.Ask ((0 : Int) ≤ (↑(pM p g) : Int) - (1 : Int) ∧ (↑(pM p g) : Int) - (1 : Int) < (↑(pL p g) : Int)) ∧ True ∧ True ∧ True ∧ True ∧ Sx.Ask ((-9223372036854775808 : Int) ≤ (↑(pM p g) : Int) - (1 : Int) ∧ (↑(pM p g) : Int) - (1 : Int) ≤ (9223372036854775807 : Int)) ∧ Sx.Ask ((0 : Int) ≤ (↑(pM p g) : Int) - (1 : Int) ∧ (↑(pM p g) : Int) - (1 : Int) < (↑(pL p g) : Int)) ∧ True ∧ True ∧ True ∧ True ∧ Sx.Ask (pB p g + (1 : Nat) ≤ (9223372036854775807 : Nat) ∧ (pB p g + (1 : Nat)) * (48 : Nat) ≤ (140737488355328 : Nat)) ∧ True ∧ True ∧ Sx.Ask ((-9223372036854775808 : Int) ≤ (↑(pM p g) : Int) - (1 : Int) ∧ (↑(pM p g) : Int) - (1 : Int) ≤ (9223372036854775807 : Int)) ∧ True ∧ (∃ (g_2 : Nat), Sx.Ask ((prIn p g).pre g_2) ∧ ((Sx.Ask (IntKind.i64 = IntKind.i64) ∧ Sx.Ask ((↑(pM p g) : Int) - (1 : Int) = (↑g_2 : Int))) ∧ True ∧ (Sx.Ask (p.mv p.n = p.mv p.n) ∧ ∀ (i : Nat), i < p.mv p.n → True ∧ Sx.Ask (p.ln p.n i = p.ln p.n i) ∧ ∀ (i_1 : Nat), i_1 < p.ln p.n i → (((((True ∧ Sx.Ask (IntKind.i64 = IntKind.i64) ∧ Sx.Ask (((p.sub p.n i).f i_1).k = ((p.sub p.n i).f i_1).k)) ∧ Sx.Ask (IntKind.i64 = IntKind.i64) ∧ Sx.Ask (((p.sub p.n i).f i_1).x = ((p.sub p.n i).f i_1).x)) ∧ Sx.Ask (IntKind.i64 = IntKind.i64) ∧ Sx.Ask (((p.sub p.n i).f i_1).y = ((p.sub p.n i).f i_1).y)) ∧ Sx.Ask (IntKind.i64 = IntKind.i64) ∧ Sx.Ask (((p.sub p.n i).f i_1).u = ((p.sub p.n i).f i_1).u)) ∧ Sx.Ask (IntKind.i64 = IntKind.i64) ∧ Sx.Ask (((p.sub p.n i).f i_1).v = ((p.sub p.n i).f i_1).v)) ∧ Sx.Ask (IntKind.i64 = IntKind.i64) ∧ Sx.Ask (((p.sub p.n i).f i_1).w = ((p.sub p.n i).f i_1).w)) ∧ (Sx.Ask (IntKind.i64 = IntKind.i64) ∧ Sx.Ask ((↑(p.mv p.n) : Int) = (↑(p.mv p.n) : Int))) ∧ (Sx.Ask (IntKind.i64 = IntKind.i64) ∧ Sx.Ask ((↑g : Int) = (↑g : Int))) ∧ (Sx.Ask (pL p g = pL p g) ∧ ∀ (i : Nat), i < pL p g → (((((True ∧ Sx.Ask (IntKind.i64 = IntKind.i64) ∧ Sx.Ask ((p.f (pA p g + i)).k = (p.f (pA p g + i)).k)) ∧ Sx.Ask (IntKind.i64 = IntKind.i64) ∧ Sx.Ask ((p.f (pA p g + i)).x = (p.f (pA p g + i)).x)) ∧ Sx.Ask (IntKind.i64 = IntKind.i64) ∧ Sx.Ask ((p.f (pA p g + i)).y = (p.f (pA p g + i)).y)) ∧ Sx.Ask (IntKind.i64 = IntKind.i64) ∧ Sx.Ask ((p.f (pA p g + i)).u = (p.f (pA p g + i)).u)) ∧ Sx.Ask (IntKind.i64 = IntKind.i64) ∧ Sx.Ask ((p.f (pA p g + i)).v = (p.f (pA p g + i)).v)) ∧ Sx.Ask (IntKind.i64 = IntKind.i64) ∧ Sx.Ask ((p.f (pA p g + i)).w = (p.f (pA p g + i)).w)) ∧ (Sx.Ask (IntKind.i64 = IntKind.i64) ∧ Sx.Ask ((↑(pM p g) : Int) = (↑(pM p g) : Int))) ∧ Sx.Ask (pC p g = pC p g) ∧ True) ∧ (Sx.Ask (pB p g + (1 : Nat) = pA p g + (pM p g - g_2)) ∧ ∀ (i : Nat), i < pA p g + (pM p g - g_2) → (((((True ∧ Sx.Ask (IntKind.i64 = IntKind.i64) ∧ Sx.Ask ((bif decide (i < pB p g) then (rv p i).k else (1 : Int)) = (rv p i).k)) ∧ Sx.Ask (IntKind.i64 = IntKind.i64) ∧ Sx.Ask ((bif decide (i < pB p g) then (rv p i).x else (p.f (pA p g + ((↑(pM p g) : Int) - (1 : Int)).toNat)).x) = (rv p i).x)) ∧ Sx.Ask (IntKind.i64 = IntKind.i64) ∧ Sx.Ask ((bif decide (i < pB p g) then (rv p i).y else (p.f (pA p g + ((↑(pM p g) : Int) - (1 : Int)).toNat)).y) = (rv p i).y)) ∧ Sx.Ask (IntKind.i64 = IntKind.i64) ∧ Sx.Ask ((bif decide (i < pB p g) then (rv p i).u else (0 : Int)) = (rv p i).u)) ∧ Sx.Ask (IntKind.i64 = IntKind.i64) ∧ Sx.Ask ((bif decide (i < pB p g) then (rv p i).v else (0 : Int)) = (rv p i).v)) ∧ Sx.Ask (IntKind.i64 = IntKind.i64) ∧ Sx.Ask ((bif decide (i < pB p g) then (rv p i).w else (0 : Int)) = (rv p i).w)) ∧ True) ∧ ∀ (g_2 : Nat), (prIn p g).pre g_2 → True ∧ True ∧ Sx.Br (decide ((0 : Int) < (↑g_2 : Int))) (True ∧ True ∧ Sx.Ask ((0 : Int) ≤ (↑g_2 : Int) ∧ (↑g_2 : Int) < (↑(pL p g) : Int)) ∧ True ∧ True ∧ True ∧ True ∧ True ∧ Sx.Ask ((-9223372036854775808 : Int) ≤ (↑g_2 : Int) - (1 : Int) ∧ (↑g_2 : Int) - (1 : Int) ≤ (9223372036854775807 : Int)) ∧ Sx.Ask ((0 : Int) ≤ (↑g_2 : Int) - (1 : Int) ∧ (↑g_2 : Int) - (1 : Int) < (↑(pL p g) : Int)) ∧ True ∧ True ∧ True ∧ True ∧ Sx.Ask ((-9223372036854775808 : Int) ≤ (↑g_2 : Int) - (1 : Int) ∧ (↑g_2 : Int) - (1 : Int) ≤ (9223372036854775807 : Int)) ∧ Sx.Ask ((0 : Int) ≤ (↑g_2 : Int) - (1 : Int) ∧ (↑g_2 : Int) - (1 : Int) < (↑(pL p g) : Int)) ∧ True ∧ True ∧ True ∧ True ∧ True ∧ True ∧ True ∧ True ∧ True ∧ Sx.Ask (pA p g + (pM p g - g_2) + (1 : Nat) ≤ (9223372036854775807 : Nat) ∧ (pA p g + (pM p g - g_2) + (1 : Nat)) * (48 : Nat) ≤ (140737488355328 : Nat)) ∧ True ∧ True ∧ Sx.Ask ((-9223372036854775808 : Int) ≤ (↑g_2 : Int) - (1 : Int) ∧ (↑g_2 : Int) - (1 : Int) ≤ (9223372036854775807 : Int)) ∧ True ∧ ∃ (g' : Nat), Sx.Ask ((prIn p g).pre g') ∧ (((Sx.Ask (IntKind.i64 = IntKind.i64) ∧ Sx.Ask ((↑g_2 : Int) - (1 : Int) = (↑g' : Int))) ∧ True ∧ (Sx.Ask (p.mv p.n = p.mv p.n) ∧ ∀ (i : Nat), i < p.mv p.n → True ∧ Sx.Ask (p.ln p.n i = p.ln p.n i) ∧ ∀ (i_1 : Nat), i_1 < p.ln p.n i → (((((True ∧ Sx.Ask (IntKind.i64 = IntKind.i64) ∧ Sx.Ask (((p.sub p.n i).f i_1).k = ((p.sub p.n i).f i_1).k)) ∧ Sx.Ask (IntKind.i64 = IntKind.i64) ∧ Sx.Ask (((p.sub p.n i).f i_1).x = ((p.sub p.n i).f i_1).x)) ∧ Sx.Ask (IntKind.i64 = IntKind.i64) ∧ Sx.Ask (((p.sub p.n i).f i_1).y = ((p.sub p.n i).f i_1).y)) ∧ Sx.Ask (IntKind.i64 = IntKind.i64) ∧ Sx.Ask (((p.sub p.n i).f i_1).u = ((p.sub p.n i).f i_1).u)) ∧ Sx.Ask (IntKind.i64 = IntKind.i64) ∧ Sx.Ask (((p.sub p.n i).f i_1).v = ((p.sub p.n i).f i_1).v)) ∧ Sx.Ask (IntKind.i64 = IntKind.i64) ∧ Sx.Ask (((p.sub p.n i).f i_1).w = ((p.sub p.n i).f i_1).w)) ∧ (Sx.Ask (IntKind.i64 = IntKind.i64) ∧ Sx.Ask ((↑(p.mv p.n) : Int) = (↑(p.mv p.n) : Int))) ∧ (Sx.Ask (IntKind.i64 = IntKind.i64) ∧ Sx.Ask ((↑g : Int) = (↑g : Int))) ∧ (Sx.Ask (pL p g = pL p g) ∧ ∀ (i : Nat), i < pL p g → (((((True ∧ Sx.Ask (IntKind.i64 = IntKind.i64) ∧ Sx.Ask ((p.f (pA p g + i)).k = (p.f (pA p g + i)).k)) ∧ Sx.Ask (IntKind.i64 = IntKind.i64) ∧ Sx.Ask ((p.f (pA p g + i)).x = (p.f (pA p g + i)).x)) ∧ Sx.Ask (IntKind.i64 = IntKind.i64) ∧ Sx.Ask ((p.f (pA p g + i)).y = (p.f (pA p g + i)).y)) ∧ Sx.Ask (IntKind.i64 = IntKind.i64) ∧ Sx.Ask ((p.f (pA p g + i)).u = (p.f (pA p g + i)).u)) ∧ Sx.Ask (IntKind.i64 = IntKind.i64) ∧ Sx.Ask ((p.f (pA p g + i)).v = (p.f (pA p g + i)).v)) ∧ Sx.Ask (IntKind.i64 = IntKind.i64) ∧ Sx.Ask ((p.f (pA p g + i)).w = (p.f (pA p g + i)).w)) ∧ (Sx.Ask (IntKind.i64 = IntKind.i64) ∧ Sx.Ask ((↑(pM p g) : Int) = (↑(pM p g) : Int))) ∧ Sx.Ask (pC p g = pC p g) ∧ True) ∧ (Sx.Ask (pA p g + (pM p g - g_2) + (1 : Nat) = pA p g + (pM p g - g')) ∧ ∀ (i : Nat), i < pA p g + (pM p g - g') → (((((True ∧ Sx.Ask (IntKind.i64 = IntKind.i64) ∧ Sx.Ask ((bif decide (i < pA p g + (pM p g - g_2)) then (rv p i).k else (p.f (pA p g + (↑g_2 : Int).toNat)).k) = (rv p i).k)) ∧ Sx.Ask (IntKind.i64 = IntKind.i64) ∧ Sx.Ask ((bif decide (i < pA p g + (pM p g - g_2)) then (rv p i).x else (p.f (pA p g + ((↑g_2 : Int) - (1 : Int)).toNat)).x) = (rv p i).x)) ∧ Sx.Ask (IntKind.i64 = IntKind.i64) ∧ Sx.Ask ((bif decide (i < pA p g + (pM p g - g_2)) then (rv p i).y else (p.f (pA p g + ((↑g_2 : Int) - (1 : Int)).toNat)).y) = (rv p i).y)) ∧ Sx.Ask (IntKind.i64 = IntKind.i64) ∧ Sx.Ask ((bif decide (i < pA p g + (pM p g - g_2)) then (rv p i).u else (p.f (pA p g + (↑g_2 : Int).toNat)).u) = (rv p i).u)) ∧ Sx.Ask (IntKind.i64 = IntKind.i64) ∧ Sx.Ask ((bif decide (i < pA p g + (pM p g - g_2)) then (rv p i).v else (p.f (pA p g + (↑g_2 : Int).toNat)).v) = (rv p i).v)) ∧ Sx.Ask (IntKind.i64 = IntKind.i64) ∧ Sx.Ask ((bif decide (i < pA p g + (pM p g - g_2)) then (rv p i).w else (p.f (pA p g + (↑g_2 : Int).toNat)).w) = (rv p i).w)) ∧ True) ∧ Sx.Ask ((prIn p g).meas g' < (prIn p g).meas g_2)) (True ∧ Sx.Br (pC p g) (True ∧ True ∧ True ∧ Sx.Ask (pA p g + (pM p g - g_2) + (1 : Nat) ≤ (9223372036854775807 : Nat) ∧ (pA p g + (pM p g - g_2) + (1 : Nat)) * (48 : Nat) ≤ (140737488355328 : Nat)) ∧ True ∧ Sx.Ask ((-9223372036854775808 : Int) ≤ (↑g : Int) + (1 : Int) ∧ (↑g : Int) + (1 : Int) ≤ (9223372036854775807 : Int)) ∧ True ∧ ∃ (g' : Nat), Sx.Ask ((prOut p).pre g') ∧ ((True ∧ (Sx.Ask (p.mv p.n = p.mv p.n) ∧ ∀ (i : Nat), i < p.mv p.n → True ∧ Sx.Ask (p.ln p.n i = p.ln p.n i) ∧ ∀ (i_1 : Nat), i_1 < p.ln p.n i → (((((True ∧ Sx.Ask (IntKind.i64 = IntKind.i64) ∧ Sx.Ask (((p.sub p.n i).f i_1).k = ((p.sub p.n i).f i_1).k)) ∧ Sx.Ask (IntKind.i64 = IntKind.i64) ∧ Sx.Ask (((p.sub p.n i).f i_1).x = ((p.sub p.n i).f i_1).x)) ∧ Sx.Ask (IntKind.i64 = IntKind.i64) ∧ Sx.Ask (((p.sub p.n i).f i_1).y = ((p.sub p.n i).f i_1).y)) ∧ Sx.Ask (IntKind.i64 = IntKind.i64) ∧ Sx.Ask (((p.sub p.n i).f i_1).u = ((p.sub p.n i).f i_1).u)) ∧ Sx.Ask (IntKind.i64 = IntKind.i64) ∧ Sx.Ask (((p.sub p.n i).f i_1).v = ((p.sub p.n i).f i_1).v)) ∧ Sx.Ask (IntKind.i64 = IntKind.i64) ∧ Sx.Ask (((p.sub p.n i).f i_1).w = ((p.sub p.n i).f i_1).w)) ∧ (Sx.Ask (IntKind.i64 = IntKind.i64) ∧ Sx.Ask ((↑(p.mv p.n) : Int) = (↑(p.mv p.n) : Int))) ∧ (Sx.Ask (IntKind.i64 = IntKind.i64) ∧ Sx.Ask ((↑g : Int) + (1 : Int) = (↑g' : Int))) ∧ True) ∧ (Sx.Ask (pA p g + (pM p g - g_2) + (1 : Nat) = pB p g') ∧ ∀ (i : Nat), i < pB p g' → (((((True ∧ Sx.Ask (IntKind.i64 = IntKind.i64) ∧ Sx.Ask ((bif decide (i < pA p g + (pM p g - g_2)) then (rv p i).k else (4 : Int)) = (rv p i).k)) ∧ Sx.Ask (IntKind.i64 = IntKind.i64) ∧ Sx.Ask ((bif decide (i < pA p g + (pM p g - g_2)) then (rv p i).x else (0 : Int)) = (rv p i).x)) ∧ Sx.Ask (IntKind.i64 = IntKind.i64) ∧ Sx.Ask ((bif decide (i < pA p g + (pM p g - g_2)) then (rv p i).y else (0 : Int)) = (rv p i).y)) ∧ Sx.Ask (IntKind.i64 = IntKind.i64) ∧ Sx.Ask ((bif decide (i < pA p g + (pM p g - g_2)) then (rv p i).u else (0 : Int)) = (rv p i).u)) ∧ Sx.Ask (IntKind.i64 = IntKind.i64) ∧ Sx.Ask ((bif decide (i < pA p g + (pM p g - g_2)) then (rv p i).v else (0 : Int)) = (rv p i).v)) ∧ Sx.Ask (IntKind.i64 = IntKind.i64) ∧ Sx.Ask ((bif decide (i < pA p g + (pM p g - g_2)) then (rv p i).w else (0 : Int)) = (rv p i).w)) ∧ True) ∧ Sx.Ask ((prOut p).meas g' < (prOut p).meas g)) (Sx.Ask ((-9223372036854775808 : Int) ≤ (↑g : Int) + (1 : Int) ∧ (↑g : Int) + (1 : Int) ≤ (9223372036854775807 : Int)) ∧ True ∧ ∃ (g' : Nat), Sx.Ask ((prOut p).pre g') ∧ ((True ∧ (Sx.Ask (p.mv p.n = p.mv p.n) ∧ ∀ (i : Nat), i < p.mv p.n → True ∧ Sx.Ask (p.ln p.n i = p.ln p.n i) ∧ ∀ (i_1 : Nat), i_1 < p.ln p.n i → (((((True ∧ Sx.Ask (IntKind.i64 = IntKind.i64) ∧ Sx.Ask (((p.sub p.n i).f i_1).k = ((p.sub p.n i).f i_1).k)) ∧ Sx.Ask (IntKind.i64 = IntKind.i64) ∧ Sx.Ask (((p.sub p.n i).f i_1).x = ((p.sub p.n i).f i_1).x)) ∧ Sx.Ask (IntKind.i64 = IntKind.i64) ∧ Sx.Ask (((p.sub p.n i).f i_1).y = ((p.sub p.n i).f i_1).y)) ∧ Sx.Ask (IntKind.i64 = IntKind.i64) ∧ Sx.Ask (((p.sub p.n i).f i_1).u = ((p.sub p.n i).f i_1).u)) ∧ Sx.Ask (IntKind.i64 = IntKind.i64) ∧ Sx.Ask (((p.sub p.n i).f i_1).v = ((p.sub p.n i).f i_1).v)) ∧ Sx.Ask (IntKind.i64 = IntKind.i64) ∧ Sx.Ask (((p.sub p.n i).f i_1).w = ((p.sub p.n i).f i_1).w)) ∧ (Sx.Ask (IntKind.i64 = IntKind.i64) ∧ Sx.Ask ((↑(p.mv p.n) : Int) = (↑(p.mv p.n) : Int))) ∧ (Sx.Ask (IntKind.i64 = IntKind.i64) ∧ Sx.Ask ((↑g : Int) + (1 : Int) = (↑g' : Int))) ∧ True) ∧ (Sx.Ask (pA p g + (pM p g - g_2) = pB p g') ∧ ∀ (i : Nat), i < pB p g' → (((((True ∧ Sx.Ask (IntKind.i64 = IntKind.i64) ∧ Sx.Ask ((rv p i).k = (rv p i).k)) ∧ Sx.Ask (IntKind.i64 = IntKind.i64) ∧ Sx.Ask ((rv p i).x = (rv p i).x)) ∧ Sx.Ask (IntKind.i64 = IntKind.i64) ∧ Sx.Ask ((rv p i).y = (rv p i).y)) ∧ Sx.Ask (IntKind.i64 = IntKind.i64) ∧ Sx.Ask ((rv p i).u = (rv p i).u)) ∧ Sx.Ask (IntKind.i64 = IntKind.i64) ∧ Sx.Ask ((rv p i).v = (rv p i).v)) ∧ Sx.Ask (IntKind.i64 = IntKind.i64) ∧ Sx.Ask ((rv p i).w = (rv p i).w)) ∧ True) ∧ Sx.Ask ((prOut p).meas g' < (prOut p).meas g)))) (True ∧ True ∧ True ∧ True ∧ (True ∧ Sx.Ask (pB p g = if p.chk = (0 : Int) then p.n else (0 : Nat)) ∧ ∀ (i : Nat), (i < if p.chk = (0 : Int) then p.n else (0 : Nat)) → (((((True ∧ Sx.Ask (IntKind.i64 = IntKind.i64) ∧ Sx.Ask ((rv p i).k = ((rvO p).f i).k)) ∧ Sx.Ask (IntKind.i64 = IntKind.i64) ∧ Sx.Ask ((rv p i).x = ((rvO p).f i).x)) ∧ Sx.Ask (IntKind.i64 = IntKind.i64) ∧ Sx.Ask ((rv p i).y = ((rvO p).f i).y)) ∧ Sx.Ask (IntKind.i64 = IntKind.i64) ∧ Sx.Ask ((rv p i).u = ((rvO p).f i).u)) ∧ Sx.Ask (IntKind.i64 = IntKind.i64) ∧ Sx.Ask ((rv p i).v = ((rvO p).f i).v)) ∧ Sx.Ask (IntKind.i64 = IntKind.i64) ∧ Sx.Ask ((rv p i).w = ((rvO p).f i).w)) ∧ Sx.Ask (IntKind.i64 = IntKind.i64) ∧ Sx.Ask ((0 : Int) = p.chk)))) (by kernel_rfl) ?_
  simp only [ask_iff, br_iff, eq_self, true_and, and_true, implies_true, forall_const, decide_eq_true_eq, decide_eq_false_iff_not, ne_eq, Nat.mul_one, Nat.add_zero, Nat.zero_add]
  refine ⟨hn, fun hc => if_neg hc, fun hc => ?_⟩
  have hc := Classical.not_not.1 hc
  have hN := (chk_0.1 hc).1
  refine ⟨by omega, hc, ⟨0, Nat.zero_le _, ⟨fun t _ j _ => seg6 rfl, rfl⟩, ?_⟩, fun t ht => ⟨fun hlt => ?_, fun hge => ?_⟩⟩
  · have e : pB p 0 = 0 := by
      unfold pB
      by_cases h : 0 < p.mv p.n
      · rw [if_pos h]; exact (sub_all hc p.n (Nat.le_refl _) 0 h).z rfl
      · rw [if_neg h]
        refine Classical.byContradiction fun h0 => ?_
        have := mv_pos hc p.n (by omega) (Nat.le_refl _)
        omega
    rw [e]
    exact ⟨rfl, fun i hi => absurd hi (Nat.not_lt_zero _)⟩
  · have hlt : t < p.mv p.n := by omega
    have z : ((t : Int)).toNat = t := rfl
    have o := sub_at hc hlt
    have hl : p.ln p.n t = pL p t := rfl
    have l1 := o.l1; have m1 := o.m1; have ml := o.ml; have nx := o.nx; have at' := o.at'
    have bn := pB_le p (t + 1)
    have hmv := mv_le (p := p) p.n
    have z1 : (((pL p t : Nat) : Int) - 1).toNat = pL p t - 1 := by omega
    have z2 : (((pM p t : Nat) : Int) - 1).toNat = pM p t - 1 := by omega
    have ek : ((p.sub p.n t).f (pL p t - 1)).k = (p.f (pA p t + (pL p t - 1))).k := rfl
    rw [z, hl, z1, z2]
    have ms : (prOut p).meas (t + 1) < (prOut p).meas t := by show p.mv p.n - (t + 1) < p.mv p.n - t; omega
    refine ⟨by omega, by omega, by omega, ⟨fun h4 => ⟨by omega, (), trivial, ⟨rfl, fun i _ => seg6 rfl⟩, ?_, rfl⟩, fun h4 => ⟨(), trivial, ⟨rfl, fun i _ => seg6 rfl⟩, ?_, rfl⟩⟩, fun _ _ => ⟨by omega, by omega, by omega, by omega, by omega, by omega, ⟨pM p t - 1, ?_, by omega, by omega, fun i hi => ?_⟩, fun i hi => ⟨fun hpos => ?_, fun hz => ?_⟩⟩⟩
    · have := o.c1 (decide_eq_true h4); omega
    · have := o.c0 (decide_eq_false h4); omega
    · show pM p t - 1 < pM p t; omega
    · refine step6 (F := rv p) (I := pB p t) (v := ⟨1, (p.f (pA p t + (pM p t - 1))).x, (p.f (pA p t + (pM p t - 1))).y, 0, 0, 0⟩) ?_ (by omega)
      have := o.rv' 0 (by omega)
      rw [at', show pA p t = pA p t + 0 from rfl, this]
      rfl
    · have hi : i < pM p t := hi
      have hpos : 0 < i := by omega
      have zi : ((i : Int)).toNat = i := rfl
      have zi1 : ((i : Int) - 1).toNat = i - 1 := by omega
      rw [zi, zi1]
      refine ⟨by omega, by omega, by omega, by omega, by omega, by omega, by omega, i - 1, (by omega : i - 1 < pM p t), ⟨by omega, by omega, fun j hj => ?_⟩, by show i - 1 < i; omega⟩
      refine step6 (F := rv p) (I := pA p t + (pM p t - i)) (v := ⟨(p.f (pA p t + i)).k, (p.f (pA p t + (i - 1))).x, (p.f (pA p t + (i - 1))).y, (p.f (pA p t + i)).u, (p.f (pA p t + i)).v, (p.f (pA p t + i)).w⟩) ?_ (by omega)
      rw [o.rv' (pM p t - i) (by omega)]
      unfold rvA
      rw [if_neg (by omega), if_pos (by omega), show pM p t - (pM p t - i) = i by omega]
    · have hi : i < pM p t := hi
      have hi0 : i = 0 := by omega
      subst hi0
      refine ⟨fun h1 => ⟨by omega, by omega, t + 1, hlt, ⟨rfl, by have := o.c1 h1; omega, fun j hj => ?_⟩, ms⟩, fun h0 => ⟨by omega, t + 1, hlt, ⟨rfl, by have := o.c0 h0; omega⟩, ms⟩⟩
      have hcl := o.c1 h1
      refine step6 (F := rv p) (I := pA p t + (pM p t - 0)) (v := ⟨4, 0, 0, 0, 0, 0⟩) ?_ (by omega)
      rw [Nat.sub_zero, o.rv' (pM p t) (by omega)]
      unfold rvA
      rw [if_neg (by omega), if_neg (Nat.lt_irrefl _)]
  · have ht : t ≤ p.mv p.n := ht
    have e : t = p.mv p.n := by omega
    subst e
    rw [if_pos hc, show pB p (p.mv p.n) = p.n from if_neg (Nat.lt_irrefl _)]
    exact ⟨⟨rfl, fun i _ => seg6 rfl⟩, hc.symm⟩
end Go.Proofs.Ytfjbjbmbdadmhaa.Prv
