/- Pull-back keeps the key and the paper and leaves no fringe: the plain law. -/
import Derived.Test.YtbkgncikjhibiaaPkl
set_option linter.unusedSimpArgs false
set_option linter.unusedVariables false
namespace Go.Proofs.Ytbkgncikjhibiaa.Pke
open Go.RowKit Sx Num Aff Con Rga Rgl Rgm Rgn Rgb Rgc Rgd Rgo Gat Gar Ows Apl Apt Som Cel Mol Moe Mos Pul Ofl Pkl
set_option maxRecDepth 100000
/-- The page after pull-back. -/
noncomputable def pd (o : OfG) (r : Nat) : OfG := ⟨o.w, o.h, 256 * o.w * o.h, PuG.out ⟨⟨o.w, o.h, Gt.P (ofA o)⟩, r⟩⟩
structure Pg (o : OfG) (r : Nat) : Prop where
  w : 1 ≤ o.w ∧ o.w ≤ 2
  h : 1 ≤ o.h ∧ o.h ≤ 2
  r : r ≤ 8
theorem Pg.ok {o : OfG} {r : Nat} (g : Pg o r) : OfOK o (Gt.P (ofA o)) := by
  have := g.w; have := g.h
  have h1 : 256 * o.w ≤ 512 := by omega
  have := Nat.mul_le_mul h1 g.h.2
  exact of_ok ⟨by omega, by omega⟩ ⟨by omega, by omega⟩ (by omega)
theorem Pg.pd {o : OfG} {r : Nat} (g : Pg o r) : OfOK (pd o r) (Gt.P (ofA (Pke.pd o r))) := by
  have := g.w; have := g.h
  have h1 : 256 * o.w ≤ 512 := by omega
  have := Nat.mul_le_mul h1 g.h.2
  exact of_ok (g := Pke.pd o r) ⟨by show 1 ≤ o.w; omega, by show o.w ≤ 256; omega⟩ ⟨by show 1 ≤ o.h; omega, by show o.h ≤ 256; omega⟩ (by show 256 * o.w * o.h ≤ 4096; omega)
theorem kOf_inj {u v : Vec} (h : kOf u = kOf v) : u 0 = v 0 ∧ u 1 = v 1 := by
  unfold kOf at h
  simp only [List.cons.injEq, and_true] at h
  exact ⟨h.1, h.2.1⟩
theorem key1_nul (v : Vec) : kOf (key1 v) = nul ↔ kOf v = nul := by
  by_cases h : v 0 = 255
  · have e : key1 v 0 = 255 := by unfold key1; rw [decide_eq_true h]; rfl
    constructor
    · intro hn
      have : key1 v 0 = 0 := (List.cons.inj hn).1
      omega
    · intro hn
      have : v 0 = 0 := (List.cons.inj hn).1
      omega
  · rw [key1_not h]
theorem key1_0 (v : Vec) : key1 v 0 = v 0 := by
  by_cases h : v 0 = 255
  · unfold key1; rw [decide_eq_true h, h]; rfl
  · rw [key1_not h]
theorem key1_1 {v : Vec} (h : v 0 = 255) : key1 v 1 = 0 := by
  unfold key1; rw [decide_eq_true h]; rfl
/-- What pull-back leaves of a cell. -/
theorem cell {o : OfG} {r : Nat} (g : Pg o r) {y x : Int} (hin : (0 ≤ y ∧ y < 16 * (o.h : Int)) ∧ 0 ≤ x ∧ x < 16 * (o.w : Int)) :
    (kOf ((pd o r).f (ix o.w y x)) = nul ↔ kOf (o.f (ix o.w y x)) = nul) ∧ (pd o r).f (ix o.w y x) 0 = o.f (ix o.w y x) 0 ∧ (nigh o r y x → o.f (ix o.w y x) 0 = 255 → (pd o r).f (ix o.w y x) 1 = 0) := by
  obtain ⟨h1, h2⟩ := out_of g.ok g.w.2 g.h.2 g.r hin
  have e : (pd o r).f = PuG.out ⟨⟨o.w, o.h, Gt.P (ofA o)⟩, r⟩ := rfl
  rw [← e] at h1 h2
  by_cases hn : nigh o r y x
  · have := h1 hn
    have h3 := kOf_inj this
    refine ⟨?_, ?_, fun _ h => ?_⟩
    · rw [this, key1_nul]
    · rw [h3.1, key1_0]
    · rw [h3.2, key1_1 h]
  · have := h2 hn
    exact ⟨by rw [this], (kOf_inj this).1, fun h => absurd h hn⟩
theorem same_painted {o : OfG} {r : Nat} (g : Pg o r) : smR (fun _ => true) (Gt.P (ofA o)) = smR (fun _ => true) (Gt.P (ofA (pd o r))) := by
  refine eq_of (smR_vld _ _) (smR_vld _ _) fun y x => ?_
  rw [sel_of g.ok all_eight, sel_of g.pd all_eight]
  show _ ↔ ((0 ≤ y ∧ y < 16 * (o.h : Int)) ∧ 0 ≤ x ∧ x < 16 * (o.w : Int)) ∧ kOf ((pd o r).f (ix o.w y x)) ≠ nul ∧ _
  constructor
  · rintro ⟨h1, h2, _⟩
    exact ⟨h1, fun hc => h2 ((cell g h1).1.1 hc), rfl⟩
  · rintro ⟨h1, h2, _⟩
    exact ⟨h1, fun hc => h2 ((cell g h1).1.2 hc), rfl⟩
theorem same_key {o : OfG} {r : Nat} (g : Pg o r) : smR (has ⟨0, 1⟩) (Gt.P (ofA o)) = smR (has ⟨0, 1⟩) (Gt.P (ofA (pd o r))) := by
  refine eq_of (smR_vld _ _) (smR_vld _ _) fun y x => ?_
  have h8 : Eight (has ⟨0, 1⟩) := has_eight (by decide)
  rw [sel_of g.ok h8, sel_of g.pd h8]
  show _ ↔ ((0 ≤ y ∧ y < 16 * (o.h : Int)) ∧ 0 ≤ x ∧ x < 16 * (o.w : Int)) ∧ kOf ((pd o r).f (ix o.w y x)) ≠ nul ∧ has ⟨0, 1⟩ ((pd o r).f (ix o.w y x)) = true
  have e : ∀ h1 : (0 ≤ y ∧ y < 16 * (o.h : Int)) ∧ 0 ≤ x ∧ x < 16 * (o.w : Int), has ⟨0, 1⟩ ((pd o r).f (ix o.w y x)) = has ⟨0, 1⟩ (o.f (ix o.w y x)) := fun h1 => by
    unfold has
    show decide ((1 : Int) ≤ (pd o r).f (ix o.w y x) 0) = decide ((1 : Int) ≤ o.f (ix o.w y x) 0)
    rw [(cell g h1).2.1]
  constructor
  · rintro ⟨h1, h2, h3⟩
    exact ⟨h1, fun hc => h2 ((cell g h1).1.1 hc), by rw [e h1]; exact h3⟩
  · rintro ⟨h1, h2, h3⟩
    exact ⟨h1, fun hc => h2 ((cell g h1).1.2 hc), by rw [← e h1]; exact h3⟩
theorem sh_mem (dx dy : Int) (L : List Rn) (y x : Int) : mem (shL dx dy L) y x = mem L (y - dy) (x - dx) := by
  rw [Bool.eq_iff_iff, mem_iff, mem_iff]
  constructor
  · rintro ⟨s, hs, h1, h2, h3⟩
    obtain ⟨t, ht, rfl⟩ := List.mem_map.1 hs
    unfold shR at h1 h2 h3
    exact ⟨t, ht, by simp only at h1; omega, by simp only at h2; omega, by simp only at h3; omega⟩
  · rintro ⟨t, ht, h1, h2, h3⟩
    exact ⟨shR dx dy t, List.mem_map_of_mem ht, by unfold shR; simp only; omega, by unfold shR; simp only; omega, by unfold shR; simp only; omega⟩
theorem no_fringe {o : OfG} {r : Nat} (g : Pg o r) (hv : ∀ i, o.f i 0 ≤ 255) {dx dy : Int} (hx : -(r : Int) ≤ dx ∧ dx ≤ r) (hy : -(r : Int) ≤ dy ∧ dy ≤ r) (hok : FrG.Ok ⟨⟨o.w, o.h, Gt.P (ofA (pd o r))⟩, 1, dx, dy⟩) : (FrG.out ⟨⟨o.w, o.h, Gt.P (ofA (pd o r))⟩, 1, dx, dy⟩).length = 0 := by
  suffices h : FrG.out ⟨⟨o.w, o.h, Gt.P (ofA (pd o r))⟩, 1, dx, dy⟩ = [] by rw [h]; rfl
  refine eq_of (un_vld _ _ _) vld_nil fun y x => ⟨fun hm => ?_, fun hm => absurd hm (by simp [mem])⟩
  exfalso
  have hc : ChG.Ok ⟨o.w, o.h, Gt.P (ofA (pd o r))⟩ := hok.c
  have hv1 : vld (shL dx dy (FrG.under ⟨⟨o.w, o.h, Gt.P (ofA (pd o r))⟩, 1, dx, dy⟩)) := by
    have h := shift_ok (under_bx hok) hok.x hok.y
    exact sh_vld (un_vld _ _ _) (fun s hs => by
      obtain ⟨i, hi, rfl⟩ := List.mem_iff_getElem.1 hs
      have := h.4 i hi
      have e : rI (FrG.under ⟨⟨o.w, o.h, Gt.P (ofA (pd o r))⟩, 1, dx, dy⟩) i = (FrG.under ⟨⟨o.w, o.h, Gt.P (ofA (pd o r))⟩, 1, dx, dy⟩)[i] := by
        unfold rI
        rw [List.getD_eq_getElem?_getD, List.getElem?_eq_getElem hi]; rfl
      exact e ▸ this)
  have hv2 : vld (rectL o.w o.h) := rectL_vld hc.w hc.h
  have hm : mem (un and (paperL ⟨o.w, o.h, Gt.P (ofA (pd o r))⟩) (un and (shL dx dy (FrG.under ⟨⟨o.w, o.h, Gt.P (ofA (pd o r))⟩, 1, dx, dy⟩)) (rectL o.w o.h))) y x = true := hm
  have hpv : vld (paperL ⟨o.w, o.h, Gt.P (ofA (pd o r))⟩) := un_vld _ _ _
  rw [un_mem rfl hpv (un_vld _ _ _), un_mem rfl hv1 hv2, Bool.and_eq_true, Bool.and_eq_true, sh_mem] at hm
  obtain ⟨hp, hu, _⟩ := hm
  obtain ⟨p1, p2⟩ := (paper_of g.pd).1 hp
  have p1 : (0 ≤ y ∧ y < 16 * (o.h : Int)) ∧ 0 ≤ x ∧ x < 16 * (o.w : Int) := p1
  have p3 : kOf (o.f (ix o.w y x)) = nul := (cell g p1).1.1 p2
  unfold FrG.under at hu
  rw [un_mem rfl (smR_vld _ _) (smR_vld _ _), Bool.and_eq_true, sel_of g.pd (has_eight (by decide)), sel_of g.pd (has_eight (by show (1 : Nat) < 8; decide))] at hu
  obtain ⟨⟨u1, _, u2⟩, ⟨_, _, u3⟩⟩ := hu
  have u1 : (0 ≤ y - dy ∧ y - dy < 16 * (o.h : Int)) ∧ 0 ≤ x - dx ∧ x - dx < 16 * (o.w : Int) := u1
  have u2 : decide ((255 : Int) ≤ (pd o r).f (ix o.w (y - dy) (x - dx)) 0) = true := u2
  have u3 : decide ((1 : Int) ≤ (pd o r).f (ix o.w (y - dy) (x - dx)) 1) = true := u3
  rw [decide_eq_true_eq] at u2 u3
  obtain ⟨_, c0, c1⟩ := cell g u1
  have hn : nigh o r (y - dy) (x - dx) := ⟨dy, dx, hy, hx, by rw [show y - dy + dy = y by omega, show x - dx + dx = x by omega]; exact p1, by rw [show y - dy + dy = y by omega, show x - dx + dx = x by omega]; exact p3⟩
  have := hv (ix o.w (y - dy) (x - dx))
  have := c1 hn (by omega)
  omega
/-! Values. -/
def byt (v : Vec) : Prop := ∀ j, 0 ≤ v j ∧ v j ≤ 255
theorem byt0 : byt (fun _ => 0) := fun _ => ⟨Int.le_refl 0, by show (0 : Int) ≤ 255; decide⟩
theorem byt_key {v : Vec} (h : byt v) : byt (key1 v) := fun j => by
  unfold key1
  cases decide (v 0 = 255)
  · exact h j
  · show 0 ≤ (if j = 0 then (255 : Int) else 0) ∧ (if j = 0 then (255 : Int) else 0) ≤ 255
    split <;> decide
theorem byt_ceR {g : CeG} {c : Nat → Vec} {k : Nat} (hk : byt (g.P.ink k)) (hc : ∀ i, byt (c i)) : ∀ j i, byt (ceR g c k j i)
  | 0, i => hc i
  | j + 1, i => by
    show byt (putR g.w (ceR g c k j) (g.P.p k j) (g.P.ink k) i)
    unfold putR put
    cases decide (rwAt g.w (g.P.p k j) + (g.P.p k j).x0.toNat ≤ i ∧ i < rwAt g.w (g.P.p k j) + (g.P.p k j).x1.toNat)
    · exact byt_ceR hk hc j i
    · exact hk
theorem byt_ceP {g : CeG} (hP : ∀ k, k < g.P.n → byt (g.P.ink k)) : ∀ n, n ≤ g.P.n → ∀ i, byt (ceP g n i)
  | 0, _, _ => byt0
  | n + 1, hn, i => byt_ceR (hP n (by omega)) (byt_ceP hP n (by omega)) _ i
theorem byt_pul {w h : Nat} {c : Nat → Vec} {f : Nat → Rn} (hc : ∀ i, byt (c i)) : ∀ n i, byt (pulR w h c f n i)
  | 0, i => hc i
  | n + 1, i => by
    show byt (pul1 w h (pulR w h c f n) (f n) (xb w (f n)) i)
    unfold pul1
    cases (inside h (f n) && decide ((rwAt w (f n) : Int) + xa (f n) ≤ i ∧ (i : Int) < rwAt w (f n) + xb w (f n)))
    · exact byt_pul hc n i
    · exact byt_key (byt_pul hc n i)
theorem byt_of {g : OfG} {P : Pcs} (h : OfOK g P) (hf : ∀ i, byt (g.f i)) : ∀ k, k < P.n → byt (P.ink k) := fun k hk => by
  obtain ⟨i, e⟩ := h.from' k hk
  rw [e]; exact hf i
theorem byt_pd {o : OfG} {r : Nat} (g : Pg o r) (hf : ∀ i, byt (o.f i)) : ∀ i, byt ((pd o r).f i) := fun i => byt_pul (byt_ceP (byt_of g.ok hf) _ (Nat.le_refl _)) _ i
/-! The half of a page under key ink. -/
def rc : ReG := ⟨0, 0, 8, 16⟩
theorem rc_ok : rc.ok := ⟨by decide, by decide, by decide, by decide, by decide, by decide⟩
structure Half (P : Pcs) : Prop where
  n : P.n = 1
  m : P.m 0 = (Lf rc.f rc.n).length
  p : P.p 0 = rI (Lf rc.f rc.n)
  k : kOf (P.ink 0) = [255, 100, 0, 0, 0, 0, 0, 0]
def hf (P : Pcs) : OfG := ⟨1, 1, 256, fun i => if i % 16 < 8 then P.ink 0 else fun _ => 0⟩
theorem Half.L {P : Pcs} (h : Half P) : Pcs.L P 0 = Lf rc.f rc.n := by
  show Lf (P.p 0) (P.m 0) = _
  rw [h.m, h.p, Lf_rI]
theorem Half.mem {P : Pcs} (h : Half P) (y x : Int) : mem (Pcs.L P 0) y x = true ↔ (0 ≤ y ∧ y < 16) ∧ 0 ≤ x ∧ x < 8 := by
  rw [h.L, rect_mem, decide_eq_true_eq]
  exact Iff.rfl
theorem Half.f {P : Pcs} (h : Half P) {y x : Int} (hy : 0 ≤ y) (hx : 0 ≤ x ∧ x < 16) : kOf ((hf P).f (ix 1 y x)) = if x < 8 then [255, 100, 0, 0, 0, 0, 0, 0] else nul := by
  have e : ix 1 y x % 16 = x.toNat := by unfold ix; omega
  show kOf (if ix 1 y x % 16 < 8 then P.ink 0 else fun _ => 0) = _
  rw [e]
  by_cases hc : x < 8
  · rw [if_pos (by omega), if_pos hc, h.k]
  · rw [if_neg (by omega), if_neg hc]; rfl
theorem Half.of {P : Pcs} (h : Half P) : OfOK (hf P) P := by
  have h0 := of_ok (g := hf P) ⟨Nat.le_refl _, by show 1 ≤ 256; decide⟩ ⟨Nat.le_refl _, by show 1 ≤ 256; decide⟩ (by show 256 * 1 * 1 ≤ 4096; decide)
  have k0 : ∀ k, k < P.n → k = 0 := fun k hk => by have := h.n; omega
  have hm16 : P.m 0 = 16 := by rw [h.m, Lf_len]; rfl
  refine ⟨h0.n, ⟨⟨Nat.le_refl _, by show 1 ≤ 256; decide⟩, ⟨Nat.le_refl _, by show 1 ≤ 256; decide⟩, ⟨by rw [h.n]; decide, ?_, fun k hk => ?_, fun k hk => ?_, fun i j hij hj => ?_, fun i j hij hj => ?_, fun k hk => ?_⟩, fun k hk => ?_, fun k r hk hr => ?_⟩, fun k hk => ?_, fun k hk y x => ?_, fun y x hin hz => ?_⟩
  · rw [h.n]
    show ([] ++ alr P 0 (P.m 0)).length ≤ _
    rw [List.nil_append, alr_len, hm16]; decide
  · rw [k0 k hk, h.L]; exact rect_vld rc_ok (by decide)
  · rw [k0 k hk, hm16]; decide
  · have hj : j < P.n := hj
    have := h.n; omega
  · have hj : j < P.n := hj
    have := h.n; omega
  · have hk : k + 1 < P.n := hk
    have := h.n; omega
  · rw [k0 k hk]
    show kOf (P.ink 0) ≠ nul
    rw [h.k]; decide
  · have hk : k < P.n := hk
    have hr : r < P.m k := hr
    rw [k0 k hk] at hr ⊢
    rw [hm16] at hr
    show (0 ≤ (P.p 0 r).y ∧ (P.p 0 r).y < 16 * ((1 : Nat) : Int)) ∧ 0 ≤ (P.p 0 r).x0 ∧ (P.p 0 r).x1 ≤ 16 * ((1 : Nat) : Int)
    rw [h.p, Lf_get rc.f (show r < rc.n from hr)]
    show (0 ≤ (0 : Int) + r ∧ (0 : Int) + r < 16 * ((1 : Nat) : Int)) ∧ 0 ≤ (0 : Int) ∧ (8 : Int) ≤ 16 * ((1 : Nat) : Int)
    omega
  · rw [k0 k hk]; exact ⟨0, rfl⟩
  · rw [k0 k hk, h.mem, h.k]
    show _ ↔ ((0 ≤ y ∧ y < 16 * ((1 : Nat) : Int)) ∧ 0 ≤ x ∧ x < 16 * ((1 : Nat) : Int)) ∧ kOf ((hf P).f (ix 1 y x)) = _
    constructor
    · intro hc
      refine ⟨by omega, ?_⟩
      rw [h.f (by omega) (by omega), if_pos (by omega)]
    · rintro ⟨hin, he⟩
      rw [h.f (by omega) (by omega)] at he
      by_cases hc : x < 8
      · omega
      · rw [if_neg hc] at he
        exact absurd he (by decide)
  · have hin : (0 ≤ y ∧ y < 16 * ((1 : Nat) : Int)) ∧ 0 ≤ x ∧ x < 16 * ((1 : Nat) : Int) := hin
    have e : ck (hf P).f (16 * (hf P).w) y x = _ := h.f (by omega) (by omega)
    rw [e] at hz ⊢
    by_cases hc : x < 8
    · rw [if_pos hc]
      exact ⟨0, by rw [h.n]; decide, h.k⟩
    · rw [if_neg hc] at hz
      exact absurd rfl hz
theorem Half.nigh {P : Pcs} (h : Half P) {y x : Int} (hin : (0 ≤ y ∧ y < 16) ∧ 0 ≤ x ∧ x < 16) : Pkl.nigh (hf P) 3 y x ↔ 5 ≤ x := by
  constructor
  · rintro ⟨a, b, ha, hb, h1, h2⟩
    have h1 : (0 ≤ y + a ∧ y + a < 16 * ((1 : Nat) : Int)) ∧ 0 ≤ x + b ∧ x + b < 16 * ((1 : Nat) : Int) := h1
    have h2 : kOf ((hf P).f (ix 1 (y + a) (x + b))) = nul := h2
    rw [h.f (by omega) (by omega)] at h2
    by_cases hc : x + b < 8
    · rw [if_pos hc] at h2; exact absurd h2 (by decide)
    · omega
  · intro hx
    by_cases hc : x < 8
    · refine ⟨0, 3, by omega, by omega, ?_, ?_⟩
      · show (0 ≤ y + 0 ∧ y + 0 < 16 * ((1 : Nat) : Int)) ∧ 0 ≤ x + 3 ∧ x + 3 < 16 * ((1 : Nat) : Int)
        omega
      · show kOf ((hf P).f (ix 1 (y + 0) (x + 3))) = nul
        rw [h.f (by omega) (by omega), if_neg (by omega)]
    · refine ⟨0, 0, by omega, by omega, ?_, ?_⟩
      · show (0 ≤ y + 0 ∧ y + 0 < 16 * ((1 : Nat) : Int)) ∧ 0 ≤ x + 0 ∧ x + 0 < 16 * ((1 : Nat) : Int)
        omega
      · show kOf ((hf P).f (ix 1 (y + 0) (x + 0))) = nul
        rw [h.f (by omega) (by omega), if_neg (by omega)]
def hq (P : Pcs) (out : Nat → Vec) : OfG := ⟨1, 1, 256 * 1 * 1, out⟩
theorem Half.out {P : Pcs} (h : Half P) {y x : Int} (hin : (0 ≤ y ∧ y < 16) ∧ 0 ≤ x ∧ x < 16) : kOf (PuG.out ⟨⟨1, 1, P⟩, 3⟩ (ix 1 y x)) = if x < 5 then [255, 100, 0, 0, 0, 0, 0, 0] else if x < 8 then [255, 0, 0, 0, 0, 0, 0, 0] else nul := by
  have hin' : (0 ≤ y ∧ y < 16 * (((hf P).h : Nat) : Int)) ∧ 0 ≤ x ∧ x < 16 * (((hf P).w : Nat) : Int) := by
    show (0 ≤ y ∧ y < 16 * ((1 : Nat) : Int)) ∧ 0 ≤ x ∧ x < 16 * ((1 : Nat) : Int)
    omega
  obtain ⟨h1, h2⟩ := out_of h.of (by show 1 ≤ 2; decide) (by show 1 ≤ 2; decide) (r := 3) (by decide) hin'
  have e : ix (hf P).w y x = ix 1 y x := rfl
  rw [e] at h1 h2
  by_cases hx : x < 5
  · rw [if_pos hx]
    have := h2 (fun hc => by have := (h.nigh hin).1 hc; omega)
    refine this.trans ?_
    rw [h.f (by omega) (by omega), if_pos (by omega)]
  · rw [if_neg hx]
    refine (h1 ((h.nigh hin).2 (by omega))).trans ?_
    by_cases hx8 : x < 8
    · rw [if_pos hx8]
      have e0 : (hf P).f (ix 1 y x) 0 = 255 := by
        have := h.f hin.1.1 hin.2
        rw [if_pos hx8] at this
        exact (List.cons.inj this).1
      have e1 : key1 ((hf P).f (ix 1 y x)) = fun j => if j = 0 then 255 else 0 := by funext j; unfold key1; rw [decide_eq_true e0]; rfl
      rw [e1]; rfl
    · rw [if_neg hx8]
      rw [key1_nul, h.f hin.1.1 hin.2, if_neg hx8]
theorem Half.two {P : Pcs} (h : Half P) : (ofA (hq P (PuG.out ⟨⟨1, 1, P⟩, 3⟩))).full = false ∧ (Gt.P (ofA (hq P (PuG.out ⟨⟨1, 1, P⟩, 3⟩)))).n = 2 := by
  have H := of_ok (g := hq P (PuG.out ⟨⟨1, 1, P⟩, 3⟩)) ⟨Nat.le_refl _, by show 1 ≤ 256; decide⟩ ⟨Nat.le_refl _, by show 1 ≤ 256; decide⟩ (by show 256 * 1 * 1 ≤ 4096; decide)
  refine ⟨H.n, ?_⟩
  generalize Gt.P (ofA (hq P (PuG.out ⟨⟨1, 1, P⟩, 3⟩))) = Q at H
  have ckE : ∀ y x, ck (hq P (PuG.out ⟨⟨1, 1, P⟩, 3⟩)).f (16 * (hq P (PuG.out ⟨⟨1, 1, P⟩, 3⟩)).w) y x = kOf (PuG.out ⟨⟨1, 1, P⟩, 3⟩ (ix 1 y x)) := fun _ _ => rfl
  have inE : ∀ y x : Int, ((0 ≤ y ∧ y < 16 * (((hq P (PuG.out ⟨⟨1, 1, P⟩, 3⟩)).h : Nat) : Int)) ∧ 0 ≤ x ∧ x < 16 * (((hq P (PuG.out ⟨⟨1, 1, P⟩, 3⟩)).w : Nat) : Int)) ↔ ((0 ≤ y ∧ y < 16) ∧ 0 ≤ x ∧ x < 16) := fun y x => by
    show ((0 ≤ y ∧ y < 16 * ((1 : Nat) : Int)) ∧ 0 ≤ x ∧ x < 16 * ((1 : Nat) : Int)) ↔ _
    omega
  obtain ⟨a, ha, ea⟩ := H.cov 0 0 ((inE 0 0).2 (by omega)) (by rw [ckE, h.out (by omega)]; decide)
  obtain ⟨b, hb, eb⟩ := H.cov 0 5 ((inE 0 5).2 (by omega)) (by rw [ckE, h.out (by omega)]; decide)
  rw [ckE, h.out (by omega), if_pos (by decide)] at ea
  rw [ckE, h.out (by omega), if_neg (by decide), if_pos (by decide)] at eb
  have hab : a ≠ b := fun hc => by rw [hc, eb] at ea; exact absurd ea (by decide)
  have inj : ∀ i j, i < Q.n → j < Q.n → kOf (Q.ink i) = kOf (Q.ink j) → i = j := fun i j hi hj he => by
    rcases Nat.lt_trichotomy i j with hl | hl | hl
    · exact absurd he (H.c.P.dist i j hl hj)
    · exact hl
    · exact absurd he.symm (H.c.P.dist j i hl hi)
  have all : ∀ k, k < Q.n → k = a ∨ k = b := fun k hk => by
    have ne := H.c.P.ne k hk
    have hr := L_mem (P := Q) ne
    have okr := ((H.c.P.v k hk).1 _ hr).2
    obtain ⟨h1, h2⟩ := (H.m k hk _ _).1 ((mem_iff _ _ _).2 ⟨_, hr, rfl, Int.le_refl _, okr⟩)
    have h1 := (inE _ _).1 h1
    rw [ckE, h.out h1] at h2
    split at h2
    · exact .inl (inj k a hk ha (h2.symm.trans ea.symm))
    · split at h2
      · exact .inr (inj k b hk hb (h2.symm.trans eb.symm))
      · exact absurd h2.symm (H.c.nz k hk)
  have h0 := all 0 (by omega)
  rcases Nat.lt_or_ge 2 Q.n with hc | hc
  · have h1 := all 1 (by omega)
    have h2 := all 2 hc
    omega
  · omega
end Go.Proofs.Ytbkgncikjhibiaa.Pke
