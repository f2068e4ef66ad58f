/- Plain law of FillReversed: lines traversed backwards have edges of the opposite signs. -/
import Derived.Test.YtppdojjhegiffaaFlu
set_option linter.unusedSimpArgs false
set_option linter.unusedVariables false
namespace Go.Proofs.Ytppdojjhegiffaa.Flx
open Go.RowKit Sx Num Aff Con Rga Rgl Rgn Fla Flb Flc Fld Fle Flp Flq Flf Flg Flr Flu
def revL (l : Li) : Li := ⟨l.n, fun i => l.f (l.n - 1 - i), l.c⟩
def revG (g : Lns) : Lns := ⟨g.n, fun i => revL (g.f i)⟩
theorem sumN_rev (F : Nat → Int) : ∀ n, sumN (fun i => F (n - 1 - i)) n = sumN F n
  | 0 => rfl
  | n + 1 => by
    rw [sumN_head]
    have e : sumN (fun k => F (n + 1 - 1 - (k + 1))) n = sumN (fun i => F (n - 1 - i)) n := sumN_congr (fun k hk => by rw [show n + 1 - 1 - (k + 1) = n - 1 - k by omega])
    rw [e, sumN_rev F n, show n + 1 - 1 - 0 = n by omega]
    show F n + sumN F n = sumN F n + F n
    omega
theorem cyc_rev (ψ : Pt → Pt → Int) (p : Nat → Pt) : ∀ m, sumN (fun i => ψ (p (m - 1 - i)) (p (m - 1 - (i + 1) % m))) m = sumN (fun i => ψ (p ((i + 1) % m)) (p i)) m
  | 0 => rfl
  | m + 1 => by
    show sumN _ m + ψ (p (m + 1 - 1 - m)) (p (m + 1 - 1 - (m + 1) % (m + 1))) = sumN _ m + ψ (p ((m + 1) % (m + 1))) (p m)
    rw [Nat.mod_self, show m + 1 - 1 - m = 0 by omega, show m + 1 - 1 - 0 = m by omega]
    have e1 : sumN (fun i => ψ (p (m + 1 - 1 - i)) (p (m + 1 - 1 - (i + 1) % (m + 1)))) m = sumN (fun i => (fun k => ψ (p (k + 1)) (p k)) (m - 1 - i)) m := sumN_congr fun k hk => by
      rw [Nat.mod_eq_of_lt (show k + 1 < m + 1 by omega)]
      show _ = ψ (p (m - 1 - k + 1)) (p (m - 1 - k))
      rw [show m + 1 - 1 - k = m - 1 - k + 1 by omega, show m + 1 - 1 - (k + 1) = m - 1 - k by omega]
    have e2 : sumN (fun i => ψ (p ((i + 1) % (m + 1))) (p i)) m = sumN (fun k => ψ (p (k + 1)) (p k)) m := sumN_congr fun k hk => by rw [Nat.mod_eq_of_lt (show k + 1 < m + 1 by omega)]
    rw [e1, sumN_rev (fun k => ψ (p (k + 1)) (p k)) m, e2]
theorem sumN_neg (φ : Nat → Int) : ∀ n, sumN (fun i => -φ i) n = -sumN φ n
  | 0 => rfl
  | n + 1 => by
    show sumN (fun i => -φ i) n + -φ n = -(sumN φ n + φ n)
    rw [sumN_neg φ n]
    omega
theorem li_rev {φ : Ed → Int} {ψ : Pt → Pt → Int} (h : ∀ a b, sl φ (mkE a b) = ψ a b) (hs : ∀ a b, ψ b a = -ψ a b) (l : Li) : sl φ ((revL l).ed l.n) = -sl φ (l.ed l.n) := by
  rw [sl_li2 h, sl_li2 h]
  show sumN (fun i => ψ (l.f (l.n - 1 - i)) (l.f (l.n - 1 - (i + 1) % l.n))) l.n = _
  rw [cyc_rev ψ l.f l.n, ← sumN_neg]
  exact sumN_congr fun k _ => hs _ _
theorem lns_rev {φ : Ed → Int} {ψ : Pt → Pt → Int} (h : ∀ a b, sl φ (mkE a b) = ψ a b) (hs : ∀ a b, ψ b a = -ψ a b) (g : Lns) : ∀ i, sl φ ((revG g).ed i) = -sl φ (g.ed i)
  | 0 => rfl
  | i + 1 => by
    show sl φ ((revG g).ed i ++ (revL (g.f i)).ed (g.f i).n) = -sl φ (g.ed i ++ (g.f i).ed (g.f i).n)
    rw [sl_app, sl_app, lns_rev h hs g i, li_rev h hs]
    omega
def ceP (y x : Int) (a b : Pt) : Int := if fy a b y ≤ x then Flf.up y a - Flf.up y b else 0
theorem ceP_sym (y x : Int) (a b : Pt) : ceP y x b a = -ceP y x a b := by
  unfold ceP
  by_cases h : a.y = b.y
  · have e : Flf.up y a = Flf.up y b := by unfold Flf.up; rw [h]
    rw [e]
    split <;> split <;> omega
  · have e : fy b a y = fy a b y := by
      unfold fy
      by_cases c : a.y < b.y
      · rw [if_pos c, if_neg (by omega)]; rfl
      · rw [if_neg c, if_pos (by omega)]; rfl
    rw [e]
    split <;> omega
theorem wE_sl (g : Lns) (y x : Int) : wE (eI g.E) g.E.length y x = sl (cellE y x) g.E := sl_eI (cellE y x) g.E
theorem wE_rev (g : Lns) (y x : Int) : wE (eI (revG g).E) (revG g).E.length y x = -wE (eI g.E) g.E.length y x := by
  rw [wE_sl, wE_sl]
  exact lns_rev (cell_mkE y x) (ceP_sym y x) g g.n
theorem fill_rev {ins : Int → Bool} (h : ∀ n, ins (-n) = ins n) (g : Lns) : fillL ins (revG g) = fillL ins g := by
  unfold fillL
  congr 1
  funext y x
  unfold chi
  rw [wE_rev, h]
theorem ins1_neg (n : Int) : ins1 (-n) = ins1 n := by
  unfold ins1
  by_cases h : n = 0
  · subst h; rfl
  · rw [decide_eq_true h, decide_eq_true (by omega)]
theorem ins2_neg (n : Int) : ins2 (-n) = ins2 n := by
  unfold ins2
  by_cases h : n % 2 = 1
  · rw [decide_eq_true h, decide_eq_true (by omega)]
  · rw [decide_eq_false h, decide_eq_false (by omega)]
theorem lar_rev (g : Lns) : ∀ i, lnAr (revG g) i = -lnAr g i
  | 0 => rfl
  | i + 1 => by
    show lnAr (revG g) i + liAr (revL (g.f i)) (g.f i).n = -(lnAr g i + liAr (g.f i) (g.f i).n)
    have e : liAr (revL (g.f i)) (g.f i).n = -liAr (g.f i) (g.f i).n := by
      rw [liAr_sum, liAr_sum]
      show sumN (fun k => cr ((g.f i).f ((g.f i).n - 1 - k)) ((g.f i).f ((g.f i).n - 1 - (k + 1) % (g.f i).n))) (g.f i).n = _
      rw [cyc_rev cr (g.f i).f, ← sumN_neg]
      exact sumN_congr fun k _ => by unfold cr; omega
    rw [lar_rev g i, e]
    omega
theorem fin_rev {g : Lns} (h : g.fin) : (revG g).fin := ⟨h.1, fun i hi => ⟨(h.2 i hi).1, fun k hk => (h.2 i hi).2 _ (by have : k < (g.f i).n := hk; show (g.f i).n - 1 - k < (g.f i).n; omega)⟩⟩
theorem mkE_len (a b : Pt) : (mkE a b).length ≤ 1 := by
  unfold mkE
  split
  · exact Nat.le_refl _
  · split
    · exact Nat.le_refl _
    · exact Nat.zero_le _
theorem li_len (l : Li) : ∀ j, (l.ed j).length ≤ j
  | 0 => Nat.le_refl _
  | j + 1 => by
    show (l.ed j ++ mkE _ _).length ≤ j + 1
    rw [List.length_append]
    have := li_len l j
    have := mkE_len (l.f j) (l.f ((j + 1) % l.n))
    omega
theorem ed_len (g : Lns) : ∀ i, i ≤ g.n → g.fin → (g.ed i).length ≤ 1024 * i
  | 0, _, _ => Nat.le_refl _
  | i + 1, hi, h => by
    show (g.ed i ++ (g.f i).ed (g.f i).n).length ≤ 1024 * (i + 1)
    rw [List.length_append]
    have := ed_len g i (by omega) h
    have := li_len (g.f i) (g.f i).n
    have := (h.2 i (by omega)).1
    omega
theorem E_len {g : Lns} (h : g.fin) : g.E.length ≤ 1048576 := by
  have h1 := ed_len g g.n (Nat.le_refl _) h
  have h2 := h.1
  show (g.ed g.n).length ≤ _
  omega
end Go.Proofs.Ytppdojjhegiffaa.Flx
