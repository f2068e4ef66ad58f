/- Morphology: the plain laws. -/
import Derived.Test.YtbkgncikjhibiaaItr
set_option linter.unusedSimpArgs false
set_option linter.unusedVariables false
namespace Go.Proofs.Ytbkgncikjhibiaa.Mol
open Rga Rgl Rgm Rgn Rgo Itr
/-! Common places of two rows. -/
def mx (g : Rg) (i : Nat) (x : Int) : Prop := ∃ k, i ≤ k ∧ k < g.n ∧ (g.f k).x0 ≤ x ∧ x < (g.f k).x1
structure MtG where
  a : Rg
  b : Rg
  y : Int
open Classical in
noncomputable def MtG.χ (g : MtG) (y x : Int) : Bool := decide (y = g.y ∧ mx g.a 0 x ∧ mx g.b 0 x)
theorem MtG.χ_iff (g : MtG) (y x : Int) : g.χ y x = true ↔ y = g.y ∧ mx g.a 0 x ∧ mx g.b 0 x := by
  classical
  unfold MtG.χ
  exact decide_eq_true_iff
noncomputable def MtG.o (g : MtG) : List Rn := ofSet g.χ
structure OneRow (g : Rg) : Prop where
  ok : ∀ i, i < g.n → okR (g.f i)
  lt : ∀ i j, i < j → j < g.n → (g.f i).x1 < (g.f j).x0
structure MtG.Ok (g : MtG) : Prop where
  a : OneRow g.a
  b : OneRow g.b
  y : -8192 ≤ g.y ∧ g.y < 8192
structure MtS where
  i : Nat
  j : Nat
  L : List Rn
structure MtP (g : MtG) (s : MtS) : Prop where
  hi : s.i ≤ g.a.n
  hj : s.j ≤ g.b.n
  hv : vld s.L
  hy : ∀ r ∈ s.L, r.y = g.y
  hm : ∀ x, (mx g.a 0 x ∧ mx g.b 0 x) ↔ mem s.L g.y x = true ∨ (mx g.a s.i x ∧ mx g.b s.j x)
  hl : s.i < g.a.n → s.j < g.b.n → ∀ r ∈ s.L, r.x1 < (g.a.f s.i).x0 ∨ r.x1 < (g.b.f s.j).x0
  hn : s.L.length ≤ s.i + s.j
theorem mt_start (g : MtG) : MtP g ⟨0, 0, []⟩ := ⟨Nat.zero_le _, Nat.zero_le _, vld_nil, fun r h => (List.not_mem_nil h).elim, fun x => ⟨fun h => .inr h, fun h => h.elim (fun h => by cases h) id⟩, fun _ _ r h => (List.not_mem_nil h).elim, Nat.le_refl _⟩
theorem mx_succ {g : Rg} {i : Nat} (h : i < g.n) (x : Int) : mx g i x ↔ ((g.f i).x0 ≤ x ∧ x < (g.f i).x1) ∨ mx g (i + 1) x := by
  constructor
  · rintro ⟨k, h1, h2, h3⟩
    by_cases e : k = i
    · rw [e] at h3; exact .inl h3
    · exact .inr ⟨k, by omega, h2, h3⟩
  · rintro (h3 | ⟨k, h1, h2, h3⟩)
    · exact ⟨i, Nat.le_refl _, h, h3⟩
    · exact ⟨k, by omega, h2, h3⟩
theorem mx_after {g : Rg} (hg : OneRow g) {i : Nat} {x : Int} (h : mx g (i + 1) x) : (g.f i).x1 < x := by
  obtain ⟨k, h1, h2, h3, h4⟩ := h
  have := hg.lt i k (by omega) h2
  omega
/-- The next run of both, if there is one. -/
def mtN (g : MtG) (s : MtS) : List Rn := if max (g.a.f s.i).x0 (g.b.f s.j).x0 < min (g.a.f s.i).x1 (g.b.f s.j).x1 then s.L ++ [⟨g.y, max (g.a.f s.i).x0 (g.b.f s.j).x0, min (g.a.f s.i).x1 (g.b.f s.j).x1⟩] else s.L
theorem mt_new {g : MtG} (hg : g.Ok) {s : MtS} (P : MtP g s) (hi : s.i < g.a.n) (hj : s.j < g.b.n) :
    vld (mtN g s) ∧ (∀ r ∈ mtN g s, r.y = g.y) ∧ (∀ x, mem (mtN g s) g.y x = true ↔ mem s.L g.y x = true ∨ (((g.a.f s.i).x0 ≤ x ∧ x < (g.a.f s.i).x1) ∧ (g.b.f s.j).x0 ≤ x ∧ x < (g.b.f s.j).x1)) ∧
    (∀ r ∈ mtN g s, r ∈ s.L ∨ (r.x1 ≤ (g.a.f s.i).x1 ∧ r.x1 ≤ (g.b.f s.j).x1)) ∧ (mtN g s).length ≤ s.L.length + 1 := by
  obtain ⟨⟨⟨a1, a2⟩, ⟨a3, a4⟩, a5, a6⟩, a7⟩ := hg.a.ok _ hi
  obtain ⟨⟨⟨b1, b2⟩, ⟨b3, b4⟩, b5, b6⟩, b7⟩ := hg.b.ok _ hj
  unfold mtN
  by_cases h : max (g.a.f s.i).x0 (g.b.f s.j).x0 < min (g.a.f s.i).x1 (g.b.f s.j).x1
  · rw [if_pos h]
    refine ⟨vld_snoc.2 ⟨P.hv, ⟨⟨hg.y, (show -8192 ≤ max (g.a.f s.i).x0 (g.b.f s.j).x0 ∧ max (g.a.f s.i).x0 (g.b.f s.j).x0 ≤ 8192 by omega), (show -8192 ≤ min (g.a.f s.i).x1 (g.b.f s.j).x1 by omega), (show min (g.a.f s.i).x1 (g.b.f s.j).x1 ≤ 8192 by omega)⟩, h⟩, fun r hr => ?_⟩, fun r hr => ?_, fun x => ?_, fun r hr => ?_, ?_⟩
    · have h1 := P.hl hi hj r hr
      have h2 := P.hy r hr
      refine .inr ⟨h2, ?_⟩
      show r.x1 < max _ _
      omega
    · rcases List.mem_append.1 hr with hr | hr
      · exact P.hy r hr
      · rw [List.mem_singleton.1 hr]
    · rw [mem_app, mem_one, Bool.or_eq_true, inR_iff]
      show _ ∨ g.y = g.y ∧ max _ _ ≤ x ∧ x < min _ _ ↔ _
      constructor
      · rintro (h | h)
        · exact .inl h
        · exact .inr ⟨⟨by omega, by omega⟩, by omega, by omega⟩
      · rintro (h | h)
        · exact .inl h
        · exact .inr ⟨rfl, by omega, by omega⟩
    · rcases List.mem_append.1 hr with hr | hr
      · exact .inl hr
      · rw [List.mem_singleton.1 hr]
        exact .inr ⟨by show min _ _ ≤ _; omega, by show min _ _ ≤ _; omega⟩
    · simp
  · rw [if_neg h]
    refine ⟨P.hv, P.hy, fun x => ⟨fun h => .inl h, fun h' => h'.elim id (fun h' => absurd h (by omega))⟩, fun r hr => .inl hr, by omega⟩
theorem mt_stepA {g : MtG} (hg : g.Ok) {s : MtS} (P : MtP g s) (hi : s.i < g.a.n) (hj : s.j < g.b.n) (h : (g.a.f s.i).x1 < (g.b.f s.j).x1) : MtP g ⟨s.i + 1, s.j, mtN g s⟩ := by
  obtain ⟨n1, n2, n3, n4, n5⟩ := mt_new hg P hi hj
  refine ⟨hi, P.hj, n1, n2, fun x => ?_, fun hi' _ r hr => ?_, by have := P.hn; show (mtN g s).length ≤ s.i + 1 + s.j; omega⟩
  · rw [P.hm, n3, mx_succ hi]
    constructor
    · rintro (h1 | ⟨h1 | h1, h2⟩)
      · exact .inl (.inl h1)
      · rcases (mx_succ hj x).1 h2 with h2 | h2
        · exact .inl (.inr ⟨h1, h2⟩)
        · have := mx_after hg.b h2; omega
      · exact .inr ⟨h1, h2⟩
    · rintro ((h1 | h1) | h1)
      · exact .inl h1
      · exact .inr ⟨.inl h1.1, (mx_succ hj x).2 (.inl h1.2)⟩
      · exact .inr ⟨.inr h1.1, h1.2⟩
  · have hlt := hg.a.lt s.i (s.i + 1) (Nat.lt_succ_self _) hi'
    show r.x1 < (g.a.f (s.i + 1)).x0 ∨ r.x1 < (g.b.f s.j).x0
    rcases n4 r hr with hr | hr
    · have := P.hl hi hj r hr
      have := (hg.a.ok s.i hi).2
      omega
    · omega
theorem mt_stepB {g : MtG} (hg : g.Ok) {s : MtS} (P : MtP g s) (hi : s.i < g.a.n) (hj : s.j < g.b.n) (h : ¬ (g.a.f s.i).x1 < (g.b.f s.j).x1) : MtP g ⟨s.i, s.j + 1, mtN g s⟩ := by
  obtain ⟨n1, n2, n3, n4, n5⟩ := mt_new hg P hi hj
  refine ⟨P.hi, hj, n1, n2, fun x => ?_, fun _ hj' r hr => ?_, by have := P.hn; show (mtN g s).length ≤ s.i + (s.j + 1); omega⟩
  · rw [P.hm, n3, mx_succ hj]
    constructor
    · rintro (h1 | ⟨h2, h1 | h1⟩)
      · exact .inl (.inl h1)
      · rcases (mx_succ hi x).1 h2 with h2 | h2
        · exact .inl (.inr ⟨h2, h1⟩)
        · have := mx_after hg.a h2; omega
      · exact .inr ⟨h2, h1⟩
    · rintro ((h1 | h1) | h1)
      · exact .inl h1
      · exact .inr ⟨(mx_succ hi x).2 (.inl h1.1), .inl h1.2⟩
      · exact .inr ⟨h1.1, .inr h1.2⟩
  · have hlt := hg.b.lt s.j (s.j + 1) (Nat.lt_succ_self _) hj'
    show r.x1 < (g.a.f s.i).x0 ∨ r.x1 < (g.b.f (s.j + 1)).x0
    rcases n4 r hr with hr | hr
    · have := P.hl hi hj r hr
      have := (hg.b.ok s.j hj).2
      omega
    · omega
theorem mem_row {L : List Rn} {y : Int} (h : ∀ r ∈ L, r.y = y) {y' x : Int} (hm : mem L y' x = true) : y' = y := by
  obtain ⟨r, hr, e, _⟩ := (mem_iff _ _ _).1 hm
  rw [← e, h r hr]
theorem mt_end {g : MtG} {s : MtS} (P : MtP g s) (h : ¬ s.i < g.a.n ∨ ¬ s.j < g.b.n) : g.o = s.L := by
  refine ofSet_eq P.hv (fun y x => ?_)
  have hh := P.hm x
  have no : ¬ (mx g.a s.i x ∧ mx g.b s.j x) := by
    rintro ⟨⟨k, h1, h2, _⟩, l, h3, h4, _⟩
    omega
  rw [Bool.eq_iff_iff, MtG.χ_iff]
  constructor
  · intro h1
    have e := mem_row P.hy h1
    rw [e] at h1
    exact ⟨e, hh.2 (.inl h1)⟩
  · rintro ⟨rfl, h1⟩
    exact (hh.1 h1).elim id (fun h => absurd h no)
theorem mt_vld (g : MtG) : vld g.o := ofSet_vld _
/-! Dilation. -/
structure DiG where
  g : Rg
  w : Nat
def wid (w : Nat) (r : Rn) : Rn := ⟨r.y, r.x0 - w, r.x1 + w⟩
/-- Within a box that is far from the edges. -/
structure Boxed (g : Rg) : Prop where
  v : vld g.L
  b : ∀ i, i < g.n → (-1000 ≤ (g.f i).y ∧ (g.f i).y ≤ 1000) ∧ -1000 ≤ (g.f i).x0 ∧ (g.f i).x1 ≤ 1000
def DiG.W (h : DiG) : Nat → List Rn
  | 0 => []
  | i + 1 => addR (h.W i) (wid h.w (h.g.f i))
structure DiG.Ok (h : DiG) : Prop where
  g : Boxed h.g
  w : h.w ≤ 64
def DiG.q (h : DiG) : Nat := 2 * h.w + 1
/-- The widened runs. -/
def DiG.V (h : DiG) : List Rn := h.W h.g.n
def DiG.R (h : DiG) (k : Nat) : Rn := ⟨(rI h.V (k / h.q)).y - h.w + ((k % h.q : Nat) : Int), (rI h.V (k / h.q)).x0, (rI h.V (k / h.q)).x1⟩
noncomputable def DiG.o (h : DiG) : List Rn := Rgg.joOut ⟨h.V.length * h.q, h.R⟩
theorem DiG.jo {h : DiG} (hh : h.Ok) : ∀ i, i ≤ h.g.n → JoP (fun k => wid h.w (h.g.f k)) h.g.n i (h.W i)
  | 0, _ => jo_start _ _
  | i + 1, hi => by
    refine jo_step (fun k hk => ?_) (fun j k hjk hk => ?_) (DiG.jo hh i (by omega)) hi
    · have h1 := hh.g.b k hk
      have h2 := hh.w
      have h3 := (ok_of hh.g.v hk).2
      unfold wid okR
      show ((-8192 ≤ (h.g.f k).y ∧ (h.g.f k).y < 8192) ∧ (-8192 ≤ (h.g.f k).x0 - (h.w : Int) ∧ (h.g.f k).x0 - (h.w : Int) ≤ 8192) ∧ -8192 ≤ (h.g.f k).x1 + (h.w : Int) ∧ (h.g.f k).x1 + (h.w : Int) ≤ 8192) ∧ (h.g.f k).x0 - (h.w : Int) < (h.g.f k).x1 + (h.w : Int)
      omega
    · have h1 := lt_of hh.g.v hjk hk
      have h3 := (ok_of hh.g.v (show j < h.g.n by omega)).2
      unfold ltR at h1
      show (h.g.f j).y < (h.g.f k).y ∨ ((h.g.f j).y = (h.g.f k).y ∧ (h.g.f j).x0 - (h.w : Int) ≤ (h.g.f k).x0 - (h.w : Int))
      omega
theorem addR_len (L : List Rn) (r : Rn) : (addR L r).length ≤ L.length + 1 := by
  rcases last_cases L with rfl | ⟨P, s, rfl⟩
  · rw [add_nil]; split <;> simp
  · rw [add_snoc]
    split
    · split <;> simp
    · exact Nat.le_succ _
theorem DiG.W_len (h : DiG) : ∀ i, (h.W i).length ≤ i
  | 0 => Nat.le_refl _
  | i + 1 => by
    have h1 := addR_len (h.W i) (wid h.w (h.g.f i))
    have h2 := DiG.W_len h i
    show (addR (h.W i) (wid h.w (h.g.f i))).length ≤ i + 1
    omega
theorem DiG.V_mem {h : DiG} (hh : h.Ok) {y x : Int} : mem h.V y x = true ↔ ∃ i, i < h.g.n ∧ (h.g.f i).y = y ∧ (h.g.f i).x0 - h.w ≤ x ∧ x < (h.g.f i).x1 + h.w := by
  rw [show mem h.V y x = mem (Lf (fun k => wid h.w (h.g.f k)) h.g.n) y x from (DiG.jo hh h.g.n (Nat.le_refl _)).hm y x]
  exact mem_g (g := ⟨h.g.n, fun k => wid h.w (h.g.f k)⟩)
theorem DiG.V_vld {h : DiG} (hh : h.Ok) : vld h.V := (DiG.jo hh h.g.n (Nat.le_refl _)).hL
theorem rI_mem {L : List Rn} {i : Nat} (h : i < L.length) : rI L i ∈ L := by
  unfold rI
  rw [List.getD_eq_getElem?_getD, List.getElem?_eq_getElem h]
  exact List.getElem_mem _
theorem mem_rI {L : List Rn} {y x : Int} : mem L y x = true ↔ ∃ i, i < L.length ∧ (rI L i).y = y ∧ (rI L i).x0 ≤ x ∧ x < (rI L i).x1 := by
  have h := mem_g (g := ⟨L.length, rI L⟩) (y := y) (x := x)
  rw [Rg.L_of] at h
  exact h
theorem DiG.V_box {h : DiG} (hh : h.Ok) {m : Nat} (hm : m < h.V.length) : (-1000 ≤ (rI h.V m).y ∧ (rI h.V m).y ≤ 1000) ∧ (-1100 ≤ (rI h.V m).x0 ∧ (rI h.V m).x1 ≤ 1100) ∧ (rI h.V m).x0 < (rI h.V m).x1 := by
  have hr := rI_mem hm
  have ok := ((DiG.V_vld hh).1 _ hr).2
  have hw := hh.w
  obtain ⟨i, hi, a1, a2, a3⟩ := (DiG.V_mem hh).1 ((mem_iff _ _ _).2 ⟨_, hr, rfl, Int.le_refl _, ok⟩)
  obtain ⟨j, hj, b1, b2, b3⟩ := (DiG.V_mem hh).1 ((mem_iff _ (rI h.V m).y ((rI h.V m).x1 - 1)).2 ⟨_, hr, rfl, by omega, by omega⟩)
  have c1 := hh.g.b i hi
  have c2 := hh.g.b j hj
  omega
theorem DiG.R_ok {h : DiG} (hh : h.Ok) {k : Nat} (hk : k < h.V.length * h.q) : okR (h.R k) := by
  have hq : 0 < h.q := Nat.succ_pos _
  have hw := hh.w
  obtain ⟨⟨h1, h2⟩, ⟨h3, h4⟩, h5⟩ := DiG.V_box hh (Nat.div_lt_of_lt_mul (show k < h.q * h.V.length by rw [Nat.mul_comm]; exact hk))
  have hr := Nat.mod_lt k hq
  have hq' : h.q = 2 * h.w + 1 := rfl
  unfold okR DiG.R
  show ((-8192 ≤ (rI h.V (k / h.q)).y - (h.w : Int) + ((k % h.q : Nat) : Int) ∧ (rI h.V (k / h.q)).y - (h.w : Int) + ((k % h.q : Nat) : Int) < 8192) ∧ (-8192 ≤ (rI h.V (k / h.q)).x0 ∧ (rI h.V (k / h.q)).x0 ≤ 8192) ∧ -8192 ≤ (rI h.V (k / h.q)).x1 ∧ (rI h.V (k / h.q)).x1 ≤ 8192) ∧ (rI h.V (k / h.q)).x0 < (rI h.V (k / h.q)).x1
  omega
theorem DiG.at {h : DiG} {m c : Nat} (hc : c < h.q) : (m * h.q + c) / h.q = m ∧ (m * h.q + c) % h.q = c := by
  have hq : 0 < h.q := Nat.succ_pos _
  constructor
  · rw [Nat.mul_comm, Nat.mul_add_div hq, Nat.div_eq_of_lt hc, Nat.add_zero]
  · rw [Nat.mul_comm, Nat.mul_add_mod, Nat.mod_eq_of_lt hc]
theorem DiG.o_vld (h : DiG) : vld h.o := ofSet_vld _
theorem DiG.o_mem {h : DiG} (hh : h.Ok) {y x : Int} : mem h.o y x = true ↔ ∃ a b : Int, (-(h.w : Int) ≤ a ∧ a ≤ h.w) ∧ (-(h.w : Int) ≤ b ∧ b ≤ h.w) ∧ mem h.g.L (y + a) (x + b) = true := by
  rw [show h.o = Rgg.joOut ⟨h.V.length * h.q, h.R⟩ from rfl, jo_mem (fun k hk => DiG.R_ok hh hk), mem_g]
  have hq' : h.q = 2 * h.w + 1 := rfl
  have hq : 0 < h.q := Nat.succ_pos _
  constructor
  · rintro ⟨k, hk, h1, h2, h3⟩
    have hk : k < h.V.length * h.q := hk
    have hm := Nat.div_lt_of_lt_mul (show k < h.q * h.V.length by rw [Nat.mul_comm]; exact hk)
    have hr := Nat.mod_lt k hq
    have h1 : (rI h.V (k / h.q)).y - (h.w : Int) + ((k % h.q : Nat) : Int) = y := h1
    obtain ⟨i, hi, a1, a2, a3⟩ := (DiG.V_mem hh).1 (mem_rI.2 ⟨_, hm, rfl, h2, h3⟩)
    have ok := (ok_of hh.g.v hi).2
    by_cases c1 : x < (h.g.f i).x0
    · exact ⟨(h.g.f i).y - y, (h.g.f i).x0 - x, by omega, by omega, mem_g.2 ⟨i, hi, by omega, by omega, by omega⟩⟩
    · by_cases c2 : x < (h.g.f i).x1
      · exact ⟨(h.g.f i).y - y, 0, by omega, by omega, mem_g.2 ⟨i, hi, by omega, by omega, by omega⟩⟩
      · exact ⟨(h.g.f i).y - y, (h.g.f i).x1 - 1 - x, by omega, by omega, mem_g.2 ⟨i, hi, by omega, by omega, by omega⟩⟩
  · rintro ⟨a, b, ha, hb, hm⟩
    obtain ⟨i, hi, a1, a2, a3⟩ := mem_g.1 hm
    obtain ⟨m, hm, b1, b2, b3⟩ := mem_rI.1 ((DiG.V_mem hh).2 ⟨i, hi, rfl, show (h.g.f i).x0 - (h.w : Int) ≤ x by omega, show x < (h.g.f i).x1 + (h.w : Int) by omega⟩)
    obtain ⟨c, hc⟩ : ∃ c : Nat, (c : Int) = h.w - a := ⟨(h.w - a).toNat, by omega⟩
    have e1 : (m * h.q + c) / h.q = m := by
      rw [Nat.mul_comm, Nat.mul_add_div hq, Nat.div_eq_of_lt (by omega), Nat.add_zero]
    have e2 : (m * h.q + c) % h.q = c := by
      rw [Nat.mul_comm, Nat.mul_add_mod, Nat.mod_eq_of_lt (by omega)]
    have hlt : m * h.q + c < h.V.length * h.q := by
      have : (m + 1) * h.q ≤ h.V.length * h.q := Nat.mul_le_mul_right _ hm
      rw [Nat.succ_mul] at this
      omega
    refine ⟨m * h.q + c, hlt, ?_⟩
    show (rI h.V ((m * h.q + c) / h.q)).y - (h.w : Int) + (((m * h.q + c) % h.q : Nat) : Int) = y ∧ (rI h.V ((m * h.q + c) / h.q)).x0 ≤ x ∧ x < (rI h.V ((m * h.q + c) / h.q)).x1
    rw [e1, e2]
    exact ⟨by omega, b2, b3⟩
end Go.Proofs.Ytbkgncikjhibiaa.Mol
