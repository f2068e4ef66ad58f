/- Package stroke: what becomes of small lines; the stroke of lines put together: plain. -/
import Derived.Test.YtfjbjbmbdadmhaaSte
import Derived.Test.YtfjbjbmbdadmhaaFlu
set_option linter.unusedSimpArgs false
set_option linter.unusedVariables false
namespace Go.Proofs.Ytfjbjbmbdadmhaa.Stl
open Go.RowKit Sx Num Aff Con Rgl Rga Rgm Rgn Fla Fle Flp Flf Flu Sta Stb Stc Sto Ste
set_option maxRecDepth 100000
/-! How many runs are filled. -/
def cntE (f : Nat → Ed) (y x : Int) : Nat → Nat
  | 0 => 0
  | n + 1 => cntE f y x n + (if Ed.on (f n) y = true ∧ (f n).first y ≤ x then 1 else 0)
theorem cntE_le (f : Nat → Ed) (y x : Int) : ∀ n, cntE f y x n ≤ n
  | 0 => Nat.le_refl _
  | n + 1 => by
    have := cntE_le f y x n
    show cntE f y x n + _ ≤ n + 1
    split <;> omega
theorem cntE_mono (f : Nat → Ed) (y : Int) {x x' : Int} (h : x ≤ x') : ∀ n, cntE f y x n ≤ cntE f y x' n
  | 0 => Nat.le_refl _
  | n + 1 => by
    have := cntE_mono f y h n
    show cntE f y x n + _ ≤ cntE f y x' n + _
    by_cases h1 : Ed.on (f n) y = true ∧ (f n).first y ≤ x
    · rw [if_pos h1, if_pos ⟨h1.1, Int.le_trans h1.2 h⟩]; omega
    · rw [if_neg h1]; omega
theorem cntE_eq (f : Nat → Ed) (y : Int) {x x' : Int} (h : x ≤ x') : ∀ n, cntE f y x n = cntE f y x' n → wE f n y x = wE f n y x'
  | 0, _ => rfl
  | n + 1, he => by
    have m := cntE_mono f y h n
    have he : cntE f y x n + (if Ed.on (f n) y = true ∧ (f n).first y ≤ x then 1 else 0) = cntE f y x' n + (if Ed.on (f n) y = true ∧ (f n).first y ≤ x' then 1 else 0) := he
    have hn : (Ed.on (f n) y = true ∧ (f n).first y ≤ x) → (Ed.on (f n) y = true ∧ (f n).first y ≤ x') := fun hh => ⟨hh.1, Int.le_trans hh.2 h⟩
    have ih : wE f n y x = wE f n y x' := cntE_eq f y h n (by
      by_cases h1 : Ed.on (f n) y = true ∧ (f n).first y ≤ x
      · rw [if_pos h1, if_pos (hn h1)] at he; omega
      · rw [if_neg h1] at he; omega)
    show wE f n y x + (if Ed.on (f n) y = true ∧ (f n).first y ≤ x then (f n).s else 0) = wE f n y x' + (if Ed.on (f n) y = true ∧ (f n).first y ≤ x' then (f n).s else 0)
    rw [ih]
    by_cases h1 : Ed.on (f n) y = true ∧ (f n).first y ≤ x
    · rw [if_pos h1, if_pos (hn h1)]
    · by_cases h2 : Ed.on (f n) y = true ∧ (f n).first y ≤ x'
      · rw [if_neg h1, if_pos h2] at he
        omega
      · rw [if_neg h1, if_neg h2]
theorem pw_tri {α : Type} {P : α → α → Prop} : ∀ {L : List α} {a b : α}, L.Pairwise P → a ∈ L → b ∈ L → a ≠ b → P a b ∨ P b a
  | r :: L, a, b, h, ha, hb, hne => by
    obtain ⟨h1, h2⟩ := List.pairwise_cons.1 h
    rcases List.mem_cons.1 ha with ea | ha2
    · rcases List.mem_cons.1 hb with eb | hb2
      · exact absurd (ea.trans eb.symm) hne
      · exact .inl (by rw [ea]; exact h1 b hb2)
    · rcases List.mem_cons.1 hb with eb | hb2
      · exact .inr (by rw [eb]; exact h1 a ha2)
      · exact pw_tri h2 ha2 hb2 hne
/-- A run's place: its row, and how many edges lie at its left end or left of it. -/
def code (f : Nat → Ed) (n : Nat) (r : Rn) : Nat := (r.y + 8192).toNat * (n + 1) + cntE f r.y r.x0 n
theorem code_lt {ins : Int → Bool} {f : Nat → Ed} {n : Nat} {L : List Rn} (hv : vld L) (hm : ∀ y x, mem L y x = chi ins f n y x) {r s : Rn} (hr : r ∈ L) (hs : s ∈ L) (h : ltR r s) : code f n r < code f n s := by
  obtain ⟨⟨⟨a1, a2⟩, ⟨a3, a4⟩, a5, a6⟩, a7⟩ := hv.1 r hr
  obtain ⟨⟨⟨b1, b2⟩, ⟨b3, b4⟩, b5, b6⟩, b7⟩ := hv.1 s hs
  have c1 := cntE_le f r.y r.x0 n
  rcases h with h | ⟨h, hx⟩
  · have h1 : (r.y + 8192).toNat + 1 ≤ (s.y + 8192).toNat := by omega
    have h2 : ((r.y + 8192).toNat + 1) * (n + 1) ≤ (s.y + 8192).toNat * (n + 1) := Nat.mul_le_mul_right _ h1
    rw [Nat.add_mul] at h2
    unfold code
    omega
  · have hin : mem L s.y s.x0 = true := (mem_iff _ _ _).2 ⟨s, hs, rfl, Int.le_refl _, b7⟩
    have hout : mem L s.y (s.x0 - 1) = false := Bool.eq_false_iff.2 fun hc => by
      obtain ⟨t, ht, ty, t0, t1⟩ := (mem_iff _ _ _).1 hc
      have tri : t = s ∨ ltR t s ∨ ltR s t := by
        by_cases e : t = s
        · exact .inl e
        · exact .inr (pw_tri hv.2 ht hs e)
      rcases tri with e | e | e
      · rw [e] at t0; omega
      · unfold ltR at e; omega
      · unfold ltR at e; omega
    rw [hm] at hin hout
    have hne : cntE f s.y (s.x0 - 1) n ≠ cntE f s.y s.x0 n := fun e => by
      have ew := cntE_eq f s.y (show s.x0 - 1 ≤ s.x0 by omega) n e
      have i1 : chi ins f n s.y s.x0 = ins (wE f n s.y s.x0) := by
        unfold chi
        rw [decide_eq_true (show (-8192 ≤ s.y ∧ s.y < 8192) ∧ -8192 ≤ s.x0 ∧ s.x0 < 8192 by omega), Bool.true_and]
      have i2 : chi ins f n s.y (s.x0 - 1) = ins (wE f n s.y (s.x0 - 1)) := by
        unfold chi
        rw [decide_eq_true (show (-8192 ≤ s.y ∧ s.y < 8192) ∧ -8192 ≤ s.x0 - 1 ∧ s.x0 - 1 < 8192 by omega), Bool.true_and]
      rw [i1, ← ew, ← i2, hout] at hin
      cases hin
    have m1 := cntE_mono f s.y (show s.x0 - 1 ≤ s.x0 by omega) n
    have m2 := cntE_mono f s.y (show r.x0 ≤ s.x0 - 1 by omega) n
    unfold code
    rw [h]
    omega
/-- A list whose places rise. -/
theorem rise {α : Type} (c : α → Nat) {N : Nat} : ∀ (L : List α) (b : Nat), L.Pairwise (fun r s => c r < c s) → (∀ r ∈ L, b ≤ c r ∧ c r < N) → L.length + b ≤ max N b
  | [], b, _, _ => by show 0 + b ≤ _; omega
  | r :: L, b, h, hb => by
    obtain ⟨h1, h2⟩ := List.pairwise_cons.1 h
    have h0 := hb r (List.mem_cons_self ..)
    have := rise c L (c r + 1) h2 fun s hs => ⟨h1 s hs, (hb s (List.mem_cons_of_mem _ hs)).2⟩
    show L.length + 1 + b ≤ _
    omega
theorem pw_mem {α : Type} {P Q : α → α → Prop} : ∀ {L : List α}, L.Pairwise P → (∀ r ∈ L, ∀ s ∈ L, P r s → Q r s) → L.Pairwise Q
  | [], _, _ => List.Pairwise.nil
  | r :: L, h, hq => by
    obtain ⟨h1, h2⟩ := List.pairwise_cons.1 h
    exact List.pairwise_cons.2 ⟨fun s hs => hq r (List.mem_cons_self ..) s (List.mem_cons_of_mem _ hs) (h1 s hs), pw_mem h2 fun a ha b hb => hq a (List.mem_cons_of_mem _ ha) b (List.mem_cons_of_mem _ hb)⟩
theorem fill_len (ins : Int → Bool) (g : Lns) {n : Nat} (hn : g.E.length = n) : (fillL ins g).length ≤ 16384 * (n + 1) := by
  have hv := fill_vld ins g
  have hm := fill_mem ins g
  rw [hn] at hm
  have h := rise (code (eI g.E) n) (N := 16384 * (n + 1)) (fillL ins g) 0 (pw_mem hv.2 fun r hr s hs h => code_lt hv hm hr hs h) fun r hr => by
    obtain ⟨⟨⟨a1, a2⟩, -⟩, -⟩ := hv.1 r hr
    have c1 := cntE_le (eI g.E) r.y r.x0 n
    have h2 : (r.y + 8192).toNat * (n + 1) ≤ 16383 * (n + 1) := Nat.mul_le_mul_right _ (by omega)
    unfold code
    omega
  omega
/-! Small lines. -/
def good (o : Olr) : Prop := (∀ t, t < o.n → o.m t ≤ 4 ∧ ∀ j, j < o.m t → small 32767 (o.p t j)) ∧ ∀ t, t < o.k → small 32767 (o.d t)
theorem good_add {o : Olr} {l : Nat} {f : Nat → Pt} (h : good o) (hl : l ≤ 4) (hf : ∀ j, j < l → small 32767 (f j)) : good (o.add l f) := by
  refine ⟨fun t ht => ?_, h.2⟩
  have ht : t < o.n + 1 := ht
  show (bif decide (t = o.n) then l else o.m t) ≤ 4 ∧ ∀ j, j < (bif decide (t = o.n) then l else o.m t) → small 32767 ⟨bif decide (t = o.n) then (f j).x else (o.p t j).x, bif decide (t = o.n) then (f j).y else (o.p t j).y⟩
  by_cases e : t = o.n
  · rw [decide_eq_true e]; exact ⟨hl, hf⟩
  · rw [decide_eq_false e]; exact h.1 t (by omega)
theorem good_dsc {o : Olr} {c : Pt} (h : good o) (hc : small 32767 c) : good (o.dsc c) := by
  refine ⟨h.1, fun t ht => ?_⟩
  have ht : t < o.k + 1 := ht
  show small 32767 ⟨bif decide (t < o.k) then (o.d t).x else c.x, bif decide (t < o.k) then (o.d t).y else c.y⟩
  by_cases e : t < o.k
  · rw [decide_eq_true e]; exact h.2 t e
  · rw [decide_eq_false e]; exact hc
theorem good_dsc2 {o : Olr} {a b : Pt} (h : good o) (ha : small 32767 a) (hb : small 32767 b) : good (o.dsc2 a b) := by
  refine ⟨h.1, fun t ht => ?_⟩
  show small 32767 ⟨bif decide (t < o.k) then (o.d t).x else bif decide (t - o.k = 1) then b.x else a.x, bif decide (t < o.k) then (o.d t).y else bif decide (t - o.k = 1) then b.y else a.y⟩
  by_cases e : t < o.k
  · rw [decide_eq_true e]; exact h.2 t e
  · rw [decide_eq_false e]
    by_cases e2 : t - o.k = 1
    · rw [decide_eq_true e2]; exact hb
    · rw [decide_eq_false e2]; exact ha
theorem sm4 {M : Int} {a b c d : Pt} (ha : small M a) (hb : small M b) (hc : small M c) (hd : small M d) : ∀ j, j < 4 → small M (p4 a b c d j)
  | 0, _ => ha
  | 1, _ => hb
  | 2, _ => hc
  | 3, _ => hd
theorem sm3 {M : Int} {a b c : Pt} (ha : small M a) (hb : small M b) (hc : small M c) : ∀ j, j < 3 → small M (p3 a b c j)
  | 0, _ => ha
  | 1, _ => hb
  | 2, _ => hc
theorem sm_add {A B M : Int} {v n : Pt} {s : Int} (hs : s = 1 ∨ s = -1) (hv : small A v) (hn : small B n) (h : A + B ≤ M) : small M (addP v (mulP s n)) := by
  obtain ⟨⟨a1, a2⟩, a3, a4⟩ := hv
  obtain ⟨⟨b1, b2⟩, b3, b4⟩ := hn
  rcases hs with rfl | rfl
  · exact sm (by show -M ≤ v.x + 1 * n.x ∧ v.x + 1 * n.x ≤ M; omega) (by show -M ≤ v.y + 1 * n.y ∧ v.y + 1 * n.y ≤ M; omega)
  · exact sm (by show -M ≤ v.x + -1 * n.x ∧ v.x + -1 * n.x ≤ M; omega) (by show -M ≤ v.y + -1 * n.y ∧ v.y + -1 * n.y ≤ M; omega)
theorem sm_addP {A B : Int} (M : Int) {v n : Pt} (hv : small A v) (hn : small B n) (h : A + B ≤ M) : small M (addP v n) := by
  obtain ⟨⟨a1, a2⟩, a3, a4⟩ := hv
  obtain ⟨⟨b1, b2⟩, b3, b4⟩ := hn
  exact sm (by show -M ≤ v.x + n.x ∧ v.x + n.x ≤ M; omega) (by show -M ≤ v.y + n.y ∧ v.y + n.y ≤ M; omega)
theorem sm_subP {A B : Int} (M : Int) {v n : Pt} (hv : small A v) (hn : small B n) (h : A + B ≤ M) : small M (subP v n) := by
  obtain ⟨⟨a1, a2⟩, a3, a4⟩ := hv
  obtain ⟨⟨b1, b2⟩, b3, b4⟩ := hn
  exact sm (by show -M ≤ v.x - n.x ∧ v.x - n.x ≤ M; omega) (by show -M ≤ v.y - n.y ∧ v.y - n.y ≤ M; omega)
theorem sq_le' {a b : Int} (hb : 0 ≤ b) (h : a * a ≤ b * b) : -b ≤ a ∧ a ≤ b := by
  constructor
  · refine Int.not_lt.1 fun hc => ?_
    have : (b + 1) * (b + 1) ≤ (-a) * (-a) := Int.mul_le_mul (by omega) (by omega) (by omega) (by omega)
    rw [Int.neg_mul_neg, Int.add_mul, Int.mul_add] at this
    omega
  · refine Int.not_lt.1 fun hc => ?_
    have : (b + 1) * (b + 1) ≤ a * a := Int.mul_le_mul (by omega) (by omega) (by omega) (by omega)
    rw [Int.add_mul, Int.mul_add] at this
    omega
/-- q times a coordinate of the sum. -/
theorem qs_in {q S x q' : Int} (hq : 0 ≤ q ∧ q ≤ 1800) (hq' : q' ≤ 1800) (hS : 1 ≤ S) (hx : x * x ≤ 2 * S + q' - q) : -31000 * S ≤ q * x ∧ q * x ≤ 31000 * S := by
  have c1 : 0 ≤ (q - 1200) * (q - 1200) * (q + 600) := Int.mul_nonneg (sqn _) (by omega)
  have c2 : (q - 1200) * (q - 1200) * (q + 600) = 864000000 - q * q * (1800 - q) := by grind
  have c3 : q * q * (x * x) ≤ q * q * (2 * S + q' - q) := Int.mul_le_mul_of_nonneg_left hx (sqn q)
  have c4 : q * q * (2 * S + q' - q) ≤ q * q * (2 * S + (1800 - q)) := Int.mul_le_mul_of_nonneg_left (by omega) (sqn q)
  have c5 : q * q * (2 * S + (1800 - q)) = 2 * (q * q * S) + q * q * (1800 - q) := by grind
  have c6 : q * q ≤ 1800 * 1800 := Int.mul_le_mul hq.2 hq.2 hq.1 (by omega)
  have c7 : q * q * S ≤ 1800 * 1800 * S := Int.mul_le_mul_of_nonneg_right c6 (by omega)
  have c8 : S * 1 ≤ S * S := Int.mul_le_mul_of_nonneg_left hS (by omega)
  have c9 : (q * x) * (q * x) = q * q * (x * x) := by grind
  have c10 : (31000 * S) * (31000 * S) = 961000000 * (S * S) := by grind
  have := sq_le' (a := q * x) (b := 31000 * S) (by omega) (by omega)
  omega
theorem tip_in {a b : Sid} (ha : small 30 a.n) (hb : small 30 b.n) (hS : 1 ≤ dotP a.n a.n + dotP a.n b.n) : small 31000 (tipP a b) := by
  obtain ⟨⟨a1, a2⟩, a3, a4⟩ := ha
  obtain ⟨⟨b1, b2⟩, b3, b4⟩ := hb
  have d1 := Fla.mul_in (a := a.n.x) (x := a.n.x) (A := 30) (X := 30) ⟨a1, a2⟩ ⟨a1, a2⟩
  have d2 := Fla.mul_in (a := a.n.y) (x := a.n.y) (A := 30) (X := 30) ⟨a3, a4⟩ ⟨a3, a4⟩
  have d3 := Fla.mul_in (a := b.n.x) (x := b.n.x) (A := 30) (X := 30) ⟨b1, b2⟩ ⟨b1, b2⟩
  have d4 := Fla.mul_in (a := b.n.y) (x := b.n.y) (A := 30) (X := 30) ⟨b3, b4⟩ ⟨b3, b4⟩
  have e1 := sqn a.n.x
  have e2 := sqn a.n.y
  have hq : 0 ≤ dotP a.n a.n ∧ dotP a.n a.n ≤ 1800 := by unfold dotP; omega
  have hq' : dotP b.n b.n ≤ 1800 := by unfold dotP; omega
  have key : (a.n.x + b.n.x) * (a.n.x + b.n.x) + (a.n.y + b.n.y) * (a.n.y + b.n.y) = 2 * (dotP a.n a.n + dotP a.n b.n) + dotP b.n b.n - dotP a.n a.n := by unfold dotP; grind
  have sx := sqn (a.n.x + b.n.x)
  have sy := sqn (a.n.y + b.n.y)
  have tx := qs_in hq hq' hS (x := a.n.x + b.n.x) (by omega)
  have ty := qs_in hq hq' hS (x := a.n.y + b.n.y) (by omega)
  exact sm (nr_between hS tx.1 tx.2) (nr_between hS ty.1 ty.2)
structure Tight (s : Sid) : Prop where
  p : small 200 s.p
  q : small 200 s.q
  n : small 30 s.n
  e : small 30 s.e
theorem half30 {w l x : Int} (hw : 0 ≤ w ∧ w ≤ 60) (hl : 1 ≤ l) (h : -l ≤ 1024 * x ∧ 1024 * x ≤ l) : -30 ≤ half w l x ∧ half w l x ≤ 30 := by
  have h1 : w * (1024 * x) ≤ w * l := Int.mul_le_mul_of_nonneg_left h.2 hw.1
  have h2 : w * -l ≤ w * (1024 * x) := Int.mul_le_mul_of_nonneg_left h.1 hw.1
  have h3 : w * l ≤ 60 * l := Int.mul_le_mul_of_nonneg_right hw.2 (by omega)
  have e : w * (1024 * x) = 2 * (512 * w * x) := by grind
  have e2 : w * -l = -(w * l) := Int.mul_neg _ _
  unfold half
  exact nr_between hl (by omega) (by omega)
theorem tight_mk {w : Int} {p q : Pt} (hw : 0 ≤ w ∧ w ≤ 60) (hp : small 200 p) (hq : small 200 q) (h : ¬ eqPt p q) : Tight (mkSid w p q) := by
  have hne : (subP q p).x ≠ 0 ∨ (subP q p).y ≠ 0 := by
    by_cases hx : p.x = q.x
    · refine .inr fun hy => h ⟨hx, ?_⟩
      have hy : q.y - p.y = 0 := hy
      omega
    · refine .inl fun hy => hx ?_
      have hy : q.x - p.x = 0 := hy
      omega
  have l1 := len_pos hne
  have lx := len_x (subP q p)
  have ly := len_y (subP q p)
  exact ⟨hp, hq, sm (half30 hw l1 (by omega)) (half30 hw l1 lx), sm (half30 hw l1 lx) (half30 hw l1 ly)⟩
def tiny (l : Li) : Prop := l.n ≤ 8 ∧ ∀ i, i < l.n → small 200 (l.f i)
theorem tiny_in {l : Li} (h : tiny l) : Li.in l := ⟨Nat.le_trans h.1 (by decide), fun i hi => sm_le (h.2 i hi) (by omega)⟩
theorem cl_tiny {l : Li} (hl : tiny l) {i : Nat} (h : i < (clean l).length) : small 200 (gP (clean l) i) := by
  obtain ⟨j, h1, h2⟩ := cl_mem l i h
  rw [h2]
  exact hl.2 j h1
theorem sd_tight {w : Int} {l : Li} (hw : 0 ≤ w ∧ w ≤ 60) (hl : tiny l) {k : Nat} (h2 : 2 ≤ (clean l).length) (h : k < sdN l (clean l).length) : Tight (sdA w l k) := by
  have hc := (sd_ends (tiny_in hl) h2 h).2.2
  have en : sdN l (clean l).length = if l.c = true then (clean l).length else (clean l).length - 1 := if_neg (Nat.lt_irrefl _)
  have hk : k < (clean l).length := by rw [en] at h; split at h <;> omega
  rw [sdA_eq]
  refine tight_mk hw (cl_tiny hl hk) ?_ hc
  split
  · exact cl_tiny hl (by assumption)
  · exact cl_tiny hl (by omega)
theorem good_jn {o : Olr} {a b : Sid} (h : good o) (ha : Tight a) (hb : Tight b) : good (o.jn a b) := by
  have hs : sgn a b = 1 ∨ sgn a b = -1 := by unfold sgn; split; exact .inr rfl; exact .inl rfl
  unfold Olr.jn
  split
  · exact good_dsc h (sm_le hb.p (by omega))
  · split
    · exact h
    · split
      · rename_i hj
        exact good_add h (Nat.le_refl _) (sm4 (sm_le hb.p (by omega)) (sm_add hs hb.p ha.n (by omega)) (sm_add hs hb.p (tip_in ha.n hb.n (by have := hj.2.1; omega)) (by omega)) (sm_add hs hb.p hb.n (by omega)))
      · exact good_add h (by omega) (sm3 (sm_le hb.p (by omega)) (sm_add hs hb.p ha.n (by omega)) (sm_add hs hb.p hb.n (by omega)))
theorem good_cp {o : Olr} {a b : Sid} (h : good o) (ha : Tight a) (hb : Tight b) : good (o.cp a b) := by
  unfold Olr.cp
  split
  · exact good_dsc2 h (sm_le ha.p (by omega)) (sm_le hb.q (by omega))
  · split
    · have a1 := sm_addP 230 ha.p ha.n (by omega)
      have a2 := sm_subP 230 ha.p ha.n (by omega)
      have b1 := sm_addP 230 hb.q hb.n (by omega)
      have b2 := sm_subP 230 hb.q hb.n (by omega)
      exact good_add (good_add h (Nat.le_refl _) (sm4 (sm_le a1 (by omega)) (sm_le a2 (by omega)) (sm_subP _ a2 ha.e (by omega)) (sm_subP _ a1 ha.e (by omega)))) (Nat.le_refl _) (sm4 (sm_le b1 (by omega)) (sm_le b2 (by omega)) (sm_addP _ b2 hb.e (by omega)) (sm_addP _ b1 hb.e (by omega)))
    · exact h
theorem good_dt {o : Olr} {v : Pt} (h : good o) (hw : 0 ≤ o.w ∧ o.w ≤ 60) (hv : small 200 v) : good (o.dt v) := by
  have hn := nr_in (b := 2) (x := o.w) (M := 60) (by omega) (by omega) ⟨by omega, by omega⟩
  have h2 : -60 ≤ 0 - nr o.w 2 ∧ 0 - nr o.w 2 ≤ 60 := by omega
  unfold Olr.dt
  split
  · exact good_dsc h (sm_le hv (by omega))
  · split
    · exact good_add h (Nat.le_refl _) (sm4 (sm_addP _ hv (sm h2 h2) (by omega)) (sm_addP _ hv (sm h2 hn) (by omega)) (sm_addP _ hv (sm hn hn) (by omega)) (sm_addP _ hv (sm hn h2) (by omega)))
    · exact h
theorem good_sds {o : Olr} {S : Nat → Sid} (h : good o) : ∀ i, (∀ k, k < i → Tight (S k)) → good (o.sds S i)
  | 0, _ => h
  | i + 1, hS => by
    have t := hS i (Nat.lt_succ_self i)
    exact good_add (good_sds h i fun k hk => hS k (by omega)) (Nat.le_refl _) (sm4 (sm_addP _ t.p t.n (by omega)) (sm_addP _ t.q t.n (by omega)) (sm_subP _ t.q t.n (by omega)) (sm_subP _ t.p t.n (by omega)))
theorem good_jns {o : Olr} {S : Nat → Sid} (h : good o) : ∀ i, (∀ k, k < i + 1 → Tight (S k)) → good (o.jns S i)
  | 0, _ => h
  | i + 1, hS => good_jn (good_jns h i fun k hk => hS k (by omega)) (hS i (by omega)) (hS (i + 1) (by omega))
def Sty.tiny (s : Sty) : Prop := s.ok ∧ s.w ≤ 60
/-- What an outline has. -/
theorem ln_good {s : Sty} {l : Li} (hs : Sty.tiny s) (hl : tiny l) : good (lnO s l) ∧ (lnO s l).n ≤ 20 ∧ (lnO s l).k ≤ 20 := by
  have h0 : good (o0 s) := ⟨fun t ht => absurd ht (Nat.not_lt_zero _), fun t ht => absurd ht (Nat.not_lt_zero _)⟩
  obtain ⟨⟨⟨⟨w0, w1⟩, -⟩, -⟩, w2⟩ := hs
  have hw : 0 ≤ (o0 s).w ∧ (o0 s).w ≤ 60 := ⟨show 0 ≤ s.w by omega, w2⟩
  have hcl := cl_len l
  have hln := hl.1
  unfold lnO Olr.ln
  split
  · split
    · refine ⟨good_dt h0 hw (cl_tiny hl (by omega)), ?_⟩
      unfold Olr.dt
      split
      · exact ⟨show 0 ≤ 20 by omega, show 0 + 1 ≤ 20 by omega⟩
      · split
        · exact ⟨show 0 + 1 ≤ 20 by omega, show 0 ≤ 20 by omega⟩
        · exact ⟨show 0 ≤ 20 by omega, show 0 ≤ 20 by omega⟩
    · exact ⟨h0, show 0 ≤ 20 by omega, show 0 ≤ 20 by omega⟩
  · have h2 : 2 ≤ (clean l).length := by omega
    have en : sdN l (clean l).length = if l.c = true then (clean l).length else (clean l).length - 1 := if_neg (Nat.lt_irrefl _)
    have hN : sdN l (clean l).length ≤ 8 ∧ 1 ≤ sdN l (clean l).length := by rw [en]; split <;> omega
    have T : ∀ k, k < sdN l (clean l).length → Tight (sdA (o0 s).w l k) := fun k hk => sd_tight hw hl h2 hk
    generalize sdA (o0 s).w l = S at T ⊢
    generalize sdN l (clean l).length = c at hN T ⊢
    have g1 := good_sds h0 c T
    have g2 := good_jns (S := S) g1 (c - 1) fun k hk => T k (by omega)
    obtain ⟨-, b1, b2⟩ := sds_keeps (o0 s) S c
    obtain ⟨-, d1, d2⟩ := jns_keeps ((o0 s).sds S c) S (c - 1)
    have z1 : (o0 s).n = 0 := rfl
    have z2 : (o0 s).k = 0 := rfl
    unfold Olr.ends
    split
    · obtain ⟨-, f1, f2⟩ := jn_keeps (((o0 s).sds S c).jns S (c - 1)) (S (c - 1)) (S 0)
      exact ⟨good_jn g2 (T _ (by omega)) (T _ (by omega)), by omega, by omega⟩
    · refine ⟨good_cp g2 (T _ (by omega)) (T _ (by omega)), ?_⟩
      generalize ((o0 s).sds S c).jns S (c - 1) = o at d1 d2 ⊢
      unfold Olr.cp
      split
      · exact ⟨show o.n ≤ 20 by omega, show o.k + 2 ≤ 20 by omega⟩
      · split
        · exact ⟨show o.n + 1 + 1 ≤ 20 by omega, show o.k ≤ 20 by omega⟩
        · exact ⟨by omega, by omega⟩
theorem good_flip {o : Olr} (h : good o) (i : Nat) : good (o.flip i) := by
  refine ⟨fun t ht => ⟨(h.1 t ht).1, fun j hj => ?_⟩, h.2⟩
  have hj : j < o.m t := hj
  show small 32767 ⟨bif decide (t < i ∧ neg o t) then (o.p t (o.m t - 1 - j)).x else (o.p t j).x, bif decide (t < i ∧ neg o t) then (o.p t (o.m t - 1 - j)).y else (o.p t j).y⟩
  by_cases e : t < i ∧ neg o t
  · rw [decide_eq_true e]; exact (h.1 t ht).2 _ (by omega)
  · rw [decide_eq_false e]; exact (h.1 t ht).2 j hj
theorem out_good {s : Sty} {l : Li} (hs : Sty.tiny s) (hl : tiny l) : good (outX s l) ∧ (outX s l).n ≤ 20 ∧ (outX s l).k ≤ 20 := by
  rw [outX_eq]
  obtain ⟨a, b, c⟩ := ln_good hs hl
  exact ⟨good_flip a _, b, c⟩
theorem good_fin {o : Olr} (h : good o) (hn : o.n ≤ 20) : o.lns.fin := ⟨show o.n ≤ 1024 by omega, fun t ht => ⟨by have := (h.1 t ht).1; show o.m t ≤ 1024; omega, (h.1 t ht).2⟩⟩
end Go.Proofs.Ytfjbjbmbdadmhaa.Stl
