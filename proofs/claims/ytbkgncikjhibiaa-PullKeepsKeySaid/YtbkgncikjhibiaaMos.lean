/- Morphology: the plain laws of dilation, erosion, opening and closing. -/
import Derived.Test.YtbkgncikjhibiaaMoe
set_option linter.unusedSimpArgs false
set_option linter.unusedVariables false
namespace Go.Proofs.Ytbkgncikjhibiaa.Mos
open Rga Rgl Rgm Rgn Rgb Rgo Itr Mol Moe
noncomputable def dil (w : Nat) (L : List Rn) : List Rn := DiG.o ⟨Ls L, w⟩
noncomputable def er (w : Nat) (L : List Rn) : List Rn := ero ⟨Ls L, w⟩
theorem Ls_L (L : List Rn) : (Ls L).L = L := Rg.L_of L
structure Bx (B : Int) (L : List Rn) : Prop where
  v : vld L
  b : ∀ y x, mem L y x = true → (-B ≤ y ∧ y ≤ B) ∧ -B ≤ x ∧ x ≤ B
theorem Bx.run {B : Int} {L : List Rn} (h : Bx B L) {r : Rn} (hr : r ∈ L) : (-B ≤ r.y ∧ r.y ≤ B) ∧ (-B ≤ r.x0 ∧ r.x1 ≤ B + 1) ∧ r.x0 < r.x1 := by
  have ok := (h.v.1 r hr).2
  have h1 := h.b r.y r.x0 ((mem_iff _ _ _).2 ⟨r, hr, rfl, Int.le_refl _, ok⟩)
  have h2 := h.b r.y (r.x1 - 1) ((mem_iff _ _ _).2 ⟨r, hr, rfl, by omega, by omega⟩)
  omega
theorem Bx.mono {B C : Int} {L : List Rn} (h : Bx B L) (hBC : B ≤ C) : Bx C L := ⟨h.v, fun y x hm => by have := h.b y x hm; omega⟩
theorem Bx.ok {B : Int} {L : List Rn} (h : Bx B L) (hB : B ≤ 900) {w : Nat} (hw : w ≤ 64) : (⟨Ls L, w⟩ : DiG).Ok := by
  refine ⟨⟨by rw [Ls_L]; exact h.v, fun i hi => ?_⟩, hw⟩
  have := h.run (rI_mem (L := L) (i := i) hi)
  show (-1000 ≤ (rI L i).y ∧ (rI L i).y ≤ 1000) ∧ -1000 ≤ (rI L i).x0 ∧ (rI L i).x1 ≤ 1000
  omega
theorem dil_mem {B : Int} {L : List Rn} (h : Bx B L) (hB : B ≤ 900) {w : Nat} (hw : w ≤ 64) {y x : Int} : mem (dil w L) y x = true ↔ ∃ a b : Int, (-(w : Int) ≤ a ∧ a ≤ w) ∧ (-(w : Int) ≤ b ∧ b ≤ w) ∧ mem L (y + a) (x + b) = true := by
  have := DiG.o_mem (h.ok hB hw) (y := y) (x := x)
  rw [show (DiG.g ⟨Ls L, w⟩).L = L from Ls_L L] at this
  exact this
theorem er_mem {B : Int} {L : List Rn} (h : Bx B L) (hB : B ≤ 900) {w : Nat} (hw : w ≤ 64) {y x : Int} : mem (er w L) y x = true ↔ ∀ a b : Int, (-(w : Int) ≤ a ∧ a ≤ w) → (-(w : Int) ≤ b ∧ b ≤ w) → mem L (y + a) (x + b) = true := by
  have := ero_mem (h.ok hB hw) (y := y) (x := x)
  rw [show (DiG.g ⟨Ls L, w⟩).L = L from Ls_L L] at this
  exact this
theorem dil_vld (w : Nat) (L : List Rn) : vld (dil w L) := DiG.o_vld _
theorem er_vld {B : Int} {L : List Rn} (h : Bx B L) (hB : B ≤ 900) {w : Nat} (hw : w ≤ 64) : vld (er w L) := ero_vld (h.ok hB hw)
theorem dil_box {B : Int} {L : List Rn} (h : Bx B L) (hB : B ≤ 900) {w : Nat} (hw : w ≤ 64) : Bx (B + w) (dil w L) := by
  refine ⟨dil_vld w L, fun y x hm => ?_⟩
  obtain ⟨a, b, ha, hb, hm⟩ := (dil_mem h hB hw).1 hm
  have := h.b _ _ hm
  omega
theorem er_box {B : Int} {L : List Rn} (h : Bx B L) (hB : B ≤ 900) {w : Nat} (hw : w ≤ 64) : Bx B (er w L) := by
  refine ⟨er_vld h hB hw, fun y x hm => ?_⟩
  have := (er_mem h hB hw).1 hm 0 0 (by omega) (by omega)
  rw [Int.add_zero, Int.add_zero] at this
  exact h.b _ _ this
/-! How many runs in a small box. -/
theorem len_key : ∀ (L : List Rn) (r : Rn), vld (r :: L) → (∀ s ∈ r :: L, (-50 ≤ s.y ∧ s.y ≤ 50) ∧ -50 ≤ s.x0 ∧ s.x0 ≤ 50) → 2 * ((r :: L).length : Int) ≤ 5202 - (r.y * 103 + r.x0)
  | [], r, h, hb => by
    have := hb r (List.mem_cons_self ..)
    show 2 * (1 : Int) ≤ _
    omega
  | s :: L, r, h, hb => by
    have ih := len_key L s (vld_cons.1 h).2.2 (fun t ht => hb t (List.mem_cons_of_mem _ ht))
    have hl := (vld_cons.1 h).2.1 s (List.mem_cons_self ..)
    have h1 := hb r (List.mem_cons_self ..)
    have h2 := hb s (List.mem_cons_of_mem _ (List.mem_cons_self ..))
    have ok := (vld_cons.1 h).1.2
    have e : ((r :: s :: L).length : Int) = ((s :: L).length : Int) + 1 := by simp
    rw [e]
    unfold ltR at hl
    omega
theorem Bx.len {L : List Rn} (h : Bx 50 L) : L.length ≤ 5210 := by
  cases L with
  | nil => exact Nat.zero_le _
  | cons r L =>
    have := len_key L r h.v (fun s hs => by have := h.run hs; omega)
    have := h.run (List.mem_cons_self (a := r) (l := L))
    omega
theorem Bx.diOk {B : Int} {L : List Rn} (h : Bx B L) (hB : B ≤ 50) {w : Nat} (hw : w ≤ 64) : (⟨Ls L, w⟩ : DiG).Ok ∧ (⟨Ls L, w⟩ : DiG).g.n * (2 * w + 1) ≤ 1000000 := by
  refine ⟨h.ok (by omega) hw, ?_⟩
  have h1 := (h.mono hB).len
  show L.length * (2 * w + 1) ≤ 1000000
  exact Nat.le_trans (Nat.mul_le_mul h1 (show 2 * w + 1 ≤ 129 by omega)) (by decide)
/-! Sets. -/
theorem eq_of {L M : List Rn} (hL : vld L) (hM : vld M) (h : ∀ y x, mem L y x = true ↔ mem M y x = true) : L = M := uniq _ _ hL hM (fun y x => by rw [Bool.eq_iff_iff]; exact h y x)
theorem sub_iff {A B : List Rn} (hA : vld A) (hB : vld B) : (un mn A B).length = 0 ↔ ∀ y x, mem A y x = true → mem B y x = true := by
  rw [List.length_eq_zero_iff]
  constructor
  · intro h y x hm
    have := un_mem (K := mn) rfl hA hB y x
    rw [h, hm] at this
    cases hb : mem B y x
    · rw [hb] at this; cases this
    · rfl
  · intro h
    refine eq_of (un_vld _ _ _) vld_nil (fun y x => ?_)
    rw [un_mem (K := mn) rfl hA hB]
    constructor
    · intro hm
      cases ha : mem A y x
      · rw [ha] at hm; cases hm
      · rw [ha, h y x ha] at hm; cases hm
    · intro hm; cases hm
theorem split_abs {a : Int} {v w : Nat} (h : -((v + w : Nat) : Int) ≤ a ∧ a ≤ ((v + w : Nat) : Int)) : ∃ p q : Int, (-(v : Int) ≤ p ∧ p ≤ v) ∧ (-(w : Int) ≤ q ∧ q ≤ w) ∧ a = q + p := by
  by_cases h1 : a ≤ -(v : Int)
  · exact ⟨-(v : Int), a + v, by omega, by omega, by omega⟩
  · by_cases h2 : a ≤ v
    · exact ⟨a, 0, by omega, by omega, by omega⟩
    · exact ⟨v, a - v, by omega, by omega, by omega⟩
/-- Dilating twice. -/
theorem dil_dil {B : Int} {L : List Rn} (h : Bx B L) (hB : B ≤ 50) {v w : Nat} (hv : v ≤ 20) (hw : w ≤ 20) : dil w (dil v L) = dil (v + w) L := by
  have hd := dil_box h (by omega) (w := v) (by omega)
  refine eq_of (dil_vld _ _) (dil_vld _ _) (fun y x => ?_)
  rw [dil_mem hd (by omega) (by omega), dil_mem h (by omega) (by omega)]
  constructor
  · rintro ⟨a, b, ha, hb, hm⟩
    obtain ⟨c, d, hc, hd, hm⟩ := (dil_mem h (by omega) (by omega)).1 hm
    exact ⟨a + c, b + d, by omega, by omega, by rw [← Int.add_assoc, ← Int.add_assoc]; exact hm⟩
  · rintro ⟨a, b, ha, hb, hm⟩
    obtain ⟨p, q, hp, hq, rfl⟩ := split_abs ha
    obtain ⟨s, t, hs, ht, rfl⟩ := split_abs hb
    exact ⟨q, t, hq, ht, (dil_mem h (by omega) (by omega)).2 ⟨p, s, hp, hs, by rw [Int.add_assoc, Int.add_assoc]; exact hm⟩⟩
theorem er_er {B : Int} {L : List Rn} (h : Bx B L) (hB : B ≤ 100) {v w : Nat} (hv : v ≤ 20) (hw : w ≤ 20) : er w (er v L) = er (v + w) L := by
  have he := er_box h (by omega) (w := v) (by omega)
  refine eq_of (er_vld he (by omega) (by omega)) (er_vld h (by omega) (by omega)) (fun y x => ?_)
  rw [er_mem he (by omega) (by omega), er_mem h (by omega) (by omega)]
  constructor
  · intro hm a b ha hb
    obtain ⟨p, q, hp, hq, rfl⟩ := split_abs ha
    obtain ⟨s, t, hs, ht, rfl⟩ := split_abs hb
    rw [← Int.add_assoc, ← Int.add_assoc]
    exact (er_mem h (by omega) (by omega)).1 (hm q t hq ht) p s hp hs
  · intro hm a b ha hb
    refine (er_mem h (by omega) (by omega)).2 (fun c d hc hd => ?_)
    rw [Int.add_assoc, Int.add_assoc]
    exact hm (a + c) (b + d) (by omega) (by omega)
/-- The adjunction. -/
theorem adj {B : Int} {L M : List Rn} (hL : Bx B L) (hM : Bx B M) (hB : B ≤ 900) {w : Nat} (hw : w ≤ 64) : (∀ y x, mem (dil w L) y x = true → mem M y x = true) ↔ ∀ y x, mem L y x = true → mem (er w M) y x = true := by
  constructor
  · intro h y x hm
    refine (er_mem hM hB hw).2 (fun a b ha hb => h _ _ ((dil_mem hL hB hw).2 ⟨-a, -b, by omega, by omega, ?_⟩))
    rw [show y + a + -a = y by omega, show x + b + -b = x by omega]
    exact hm
  · intro h y x hm
    obtain ⟨a, b, ha, hb, hm⟩ := (dil_mem hL hB hw).1 hm
    have := (er_mem hM hB hw).1 (h _ _ hm) (-a) (-b) (by omega) (by omega)
    rw [show y + a + -a = y by omega, show x + b + -b = x by omega] at this
    exact this
theorem dil_mono {B : Int} {L M : List Rn} (hL : Bx B L) (hM : Bx B M) (hB : B ≤ 900) {w : Nat} (hw : w ≤ 64) (h : ∀ y x, mem L y x = true → mem M y x = true) (y x : Int) (hm : mem (dil w L) y x = true) : mem (dil w M) y x = true := by
  obtain ⟨a, b, ha, hb, hm⟩ := (dil_mem hL hB hw).1 hm
  exact (dil_mem hM hB hw).2 ⟨a, b, ha, hb, h _ _ hm⟩
theorem er_mono {B : Int} {L M : List Rn} (hL : Bx B L) (hM : Bx B M) (hB : B ≤ 900) {w : Nat} (hw : w ≤ 64) (h : ∀ y x, mem L y x = true → mem M y x = true) (y x : Int) (hm : mem (er w L) y x = true) : mem (er w M) y x = true :=
  (er_mem hM hB hw).2 (fun a b ha hb => h _ _ ((er_mem hL hB hw).1 hm a b ha hb))
theorem close_up {B : Int} {L : List Rn} (h : Bx B L) (hB : B ≤ 800) {w : Nat} (hw : w ≤ 64) : ∀ y x, mem L y x = true → mem (er w (dil w L)) y x = true :=
  (adj (h.mono (show B ≤ B + w by omega)) (dil_box h (by omega) hw) (by omega) hw).1 (fun _ _ h => h)
theorem open_down {B : Int} {L : List Rn} (h : Bx B L) (hB : B ≤ 800) {w : Nat} (hw : w ≤ 64) : ∀ y x, mem (dil w (er w L)) y x = true → mem L y x = true :=
  (adj (er_box h (by omega) hw) h (by omega) hw).2 (fun _ _ h => h)
/-- Opening again. -/
theorem open_open {B : Int} {L : List Rn} (h : Bx B L) (hB : B ≤ 700) {w : Nat} (hw : w ≤ 64) : dil w (er w (dil w (er w L))) = dil w (er w L) := by
  have he := er_box h (by omega) hw
  have hd := dil_box he (by omega) hw
  have he2 := er_box hd (by omega) hw
  refine eq_of (dil_vld _ _) (dil_vld _ _) (fun y x => ⟨fun hm => open_down hd (by omega) hw y x hm, fun hm => ?_⟩)
  exact dil_mono (he.mono (show B ≤ B + w by omega)) he2 (by omega) hw (close_up he (by omega) hw) y x hm
theorem close_close {B : Int} {L : List Rn} (h : Bx B L) (hB : B ≤ 700) {w : Nat} (hw : w ≤ 64) : er w (dil w (er w (dil w L))) = er w (dil w L) := by
  have hd := dil_box h (by omega) hw
  have he := er_box hd (by omega) hw
  have hd2 := dil_box he (by omega) hw
  refine eq_of (er_vld hd2 (by omega) hw) (er_vld hd (by omega) hw) (fun y x => ⟨fun hm => ?_, fun hm => close_up he (by omega) hw y x hm⟩)
  exact er_mono hd2 (hd.mono (show B + w ≤ B + w + w by omega)) (by omega) hw (open_down hd (by omega) hw) y x hm
/-- near's regions. -/
theorem near_box {m : Int} (hm : 1 ≤ m ∧ m ≤ 1000) (g : Rg) : Bx m (nr m g) := by
  refine ⟨nr_vld m g, fun y x h => ?_⟩
  obtain ⟨r, hr, h1, h2, h3⟩ := (mem_iff _ _ _).1 h
  have := nr_in hm hr
  omega
/-! The trial. -/
def sqG : DiG := ⟨⟨1, fun _ => ⟨5, 5, 6⟩⟩, 1⟩
theorem sq_ok : sqG.Ok := by
  refine ⟨⟨⟨fun r hr => ?_, List.pairwise_singleton _ _⟩, fun i hi => by show ((-1000 : Int) ≤ 5 ∧ (5 : Int) ≤ 1000) ∧ (-1000 : Int) ≤ 5 ∧ (6 : Int) ≤ 1000; decide⟩, by decide⟩
  have hr : r ∈ [(⟨5, 5, 6⟩ : Rn)] := hr
  rw [List.mem_singleton.1 hr]
  unfold okR
  decide
theorem sq_o : sqG.o = [⟨4, 4, 7⟩, ⟨5, 4, 7⟩, ⟨6, 4, 7⟩] := by
  refine eq_of (DiG.o_vld _) ?_ (fun y x => ?_)
  · refine vld_cons.2 ⟨by unfold okR; decide, fun s hs => ?_, vld_cons.2 ⟨by unfold okR; decide, fun s hs => ?_, vld_cons.2 ⟨by unfold okR; decide, fun s hs => (List.not_mem_nil hs).elim, vld_nil⟩⟩⟩
    · unfold ltR
      rcases List.mem_cons.1 hs with rfl | hs
      · decide
      · rw [List.mem_singleton.1 hs]; decide
    · unfold ltR
      rw [List.mem_singleton.1 hs]; decide
  · rw [DiG.o_mem sq_ok]
    have hL : ∀ y x, mem sqG.g.L y x = true ↔ y = 5 ∧ x = 5 := fun y x => by
      rw [show sqG.g.L = [(⟨5, 5, 6⟩ : Rn)] from rfl, mem_one, inR_iff]
      show (5 : Int) = y ∧ (5 : Int) ≤ x ∧ x < 6 ↔ _
      omega
    simp only [hL, mem_cons, Bool.or_eq_true, inR_iff, show mem [] y x = false from rfl, Bool.false_eq_true, or_false]
    show (∃ a b : Int, (-1 ≤ a ∧ a ≤ 1) ∧ (-1 ≤ b ∧ b ≤ 1) ∧ y + a = 5 ∧ x + b = 5) ↔ ((4 : Int) = y ∧ (4 : Int) ≤ x ∧ x < 7) ∨ ((5 : Int) = y ∧ (4 : Int) ≤ x ∧ x < 7) ∨ ((6 : Int) = y ∧ (4 : Int) ≤ x ∧ x < 7)
    constructor
    · rintro ⟨a, b, ha, hb, h1, h2⟩; omega
    · intro h
      exact ⟨5 - y, 5 - x, by omega, by omega, by omega, by omega⟩
end Go.Proofs.Ytbkgncikjhibiaa.Mos
