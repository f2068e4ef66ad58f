/- Valid pieces: what is asked of them; the sorted list of their runs (plain law). -/
import Derived.Test.YtbkgncikjhibiaaGar
import Derived.Test.YtbkgncikjhibiaaOws
set_option linter.unusedSimpArgs false
set_option linter.unusedVariables false
namespace Go.Proofs.Ytbkgncikjhibiaa.Apl
open Go.RowKit Go.Lib Go.Sort Sx Num Aff Con Rga Rgl Rgm Rgn Rgf Gat Gar Ows
set_option maxRecDepth 100000
/-- The runs of piece k. -/
def Pcs.L (P : Pcs) (k : Nat) : List Rn := Lf (P.p k) (P.m k)
def ow (r : Rn) (k : Nat) : Ow := ⟨r.y, r.x0, r.x1, k⟩
def Ow.r (o : Ow) : Rn := ⟨o.y, o.x0, o.x1⟩
/-- The first j runs of piece k. -/
def alr (P : Pcs) (k j : Nat) : List Ow := (List.range j).map fun i => ow (P.p k i) k
/-- The runs of the first k pieces. -/
def al (P : Pcs) : Nat → List Ow
  | 0 => []
  | k + 1 => al P k ++ alr P k (P.m k)
structure PcOK (P : Pcs) : Prop where
  n : P.n ≤ 4096
  tot : (al P P.n).length ≤ 100000000
  v : ∀ k, k < P.n → vld (Pcs.L P k)
  ne : ∀ k, k < P.n → 0 < P.m k
  dist : ∀ i j, i < j → j < P.n → kOf (P.ink i) ≠ kOf (P.ink j)
  disj : ∀ i j, i < j → j < P.n → ∀ y x, mem (Pcs.L P i) y x = true → mem (Pcs.L P j) y x = true → False
  ord : ∀ k, k + 1 < P.n → (P.p k 0).y < (P.p (k + 1) 0).y ∨ ((P.p k 0).y = (P.p (k + 1) 0).y ∧ (P.p k 0).x0 ≤ (P.p (k + 1) 0).x0)
theorem alr_succ (P : Pcs) (k j : Nat) : alr P k (j + 1) = alr P k j ++ [ow (P.p k j) k] := by
  unfold alr
  rw [List.range_succ, List.map_append]
  rfl
theorem alr_len (P : Pcs) (k j : Nat) : (alr P k j).length = j := by simp [alr]
theorem al_mono (P : Pcs) : ∀ k l, k ≤ l → (al P k).length ≤ (al P l).length
  | k, 0, h => by rw [Nat.le_zero.1 h]; exact Nat.le_refl _
  | k, l + 1, h => by
    by_cases hk : k = l + 1
    · rw [hk]; exact Nat.le_refl _
    · have := al_mono P k l (by omega)
      show _ ≤ (al P l ++ alr P l (P.m l)).length
      rw [List.length_append]
      omega
theorem mem_alr {P : Pcs} {k j : Nat} {o : Ow} : o ∈ alr P k j ↔ ∃ i, i < j ∧ o = ow (P.p k i) k := by
  unfold alr
  rw [List.mem_map]
  exact ⟨fun ⟨i, h, e⟩ => ⟨i, List.mem_range.1 h, e.symm⟩, fun ⟨i, h, e⟩ => ⟨i, List.mem_range.2 h, e.symm⟩⟩
theorem mem_al {P : Pcs} {o : Ow} : ∀ {n}, o ∈ al P n ↔ ∃ k i, k < n ∧ i < P.m k ∧ o = ow (P.p k i) k
  | 0 => ⟨fun h => (List.not_mem_nil h).elim, fun ⟨_, _, h, _⟩ => absurd h (Nat.not_lt_zero _)⟩
  | n + 1 => by
    show o ∈ al P n ++ alr P n (P.m n) ↔ _
    rw [List.mem_append, mem_al, mem_alr]
    constructor
    · rintro (⟨k, i, h1, h2, h3⟩ | ⟨i, h1, h2⟩)
      · exact ⟨k, i, by omega, h2, h3⟩
      · exact ⟨n, i, by omega, h1, h2⟩
    · rintro ⟨k, i, h1, h2, h3⟩
      by_cases hk : k = n
      · subst hk; exact .inr ⟨i, h2, h3⟩
      · exact .inl ⟨k, i, by omega, h2, h3⟩
theorem L_mem {P : Pcs} {k i : Nat} (h : i < P.m k) : P.p k i ∈ Pcs.L P k := List.mem_map.2 ⟨i, List.mem_range.2 h, rfl⟩
theorem ow_lt {P : Pcs} (h : PcOK P) {k i j : Nat} (hk : k < P.n) (hij : i < j) (hj : j < P.m k) : ltR (P.p k i) (P.p k j) := lt_of (g := ⟨P.m k, P.p k⟩) (h.v k hk) hij hj
theorem ltR_ne {r : Rn} (h : okR r) : ¬ ltR r r := by
  intro hc
  have h2 := h.2
  unfold ltR at hc
  omega
theorem alr_nodup {P : Pcs} (h : PcOK P) {k : Nat} (hk : k < P.n) : ∀ j, j ≤ P.m k → (alr P k j).Nodup
  | 0, _ => List.nodup_nil
  | j + 1, hj => by
    rw [alr_succ, List.nodup_append]
    refine ⟨alr_nodup h hk j (by omega), (by simp), fun a ha b hb hab => ?_⟩
    obtain ⟨i, hi, rfl⟩ := mem_alr.1 ha
    rw [List.mem_singleton] at hb
    rw [hb] at hab
    have hl := ow_lt h hk hi (by omega : j < P.m k)
    have e1 : (P.p k i).y = (P.p k j).y := congrArg Ow.y hab
    have e2 : (P.p k i).x0 = (P.p k j).x0 := congrArg Ow.x0 hab
    have e3 : (P.p k i).x1 = (P.p k j).x1 := congrArg Ow.x1 hab
    have ok := (h.v k hk).1 _ (L_mem (show i < P.m k by omega))
    have := ok.2
    unfold ltR at hl
    omega
theorem al_nodup {P : Pcs} (h : PcOK P) : ∀ n, n ≤ P.n → (al P n).Nodup
  | 0, _ => List.nodup_nil
  | n + 1, hn => by
    show (al P n ++ alr P n (P.m n)).Nodup
    rw [List.nodup_append]
    refine ⟨al_nodup h n (by omega), alr_nodup h (by omega) _ (Nat.le_refl _), fun a ha b hb hab => ?_⟩
    obtain ⟨k, i, h1, h2, rfl⟩ := mem_al.1 ha
    obtain ⟨j, h3, rfl⟩ := mem_alr.1 hb
    have : ((k : Nat) : Int) = (n : Int) := congrArg Ow.k hab
    omega
/-- The list that apart sorts. -/
def alG (P : Pcs) : Og := ⟨(al P P.n).length, oI (al P P.n)⟩
theorem Og_of (L : List Ow) : Og.L ⟨L.length, oI L⟩ = L := by
  refine List.ext_getElem (by simp [Og.L]) fun i h1 h2 => ?_
  simp [Og.L, oI, h2]
theorem alG_L (P : Pcs) : (alG P).L = al P P.n := Og_of _
theorem al_ok {P : Pcs} (h : PcOK P) {o : Ow} (ho : o ∈ al P P.n) : okO o := by
  obtain ⟨k, i, h1, h2, rfl⟩ := mem_al.1 ho
  have ok := (h.v k h1).1 _ (L_mem h2)
  obtain ⟨⟨q1, q2, q3⟩, q4⟩ := ok
  have hn := h.n
  exact ⟨⟨⟨q1.1, by show (P.p k i).y ≤ 8192; omega⟩, q2, q3⟩, by show -8192 ≤ (k : Int); omega, by show (k : Int) ≤ 8192; omega⟩
theorem oI_mem {L : List Ow} {i : Nat} (h : i < L.length) : oI L i ∈ L := by
  unfold oI
  rw [List.getD_eq_getElem?_getD, List.getElem?_eq_getElem h]
  exact List.getElem_mem h
/-- Runs of the sorted list that follow each other do not overlap. -/
theorem srt_apart {P : Pcs} (h : PcOK P) {i : Nat} (hi : i + 1 < (al P P.n).length) (hy : (oI (Ows.srt (alG P)) i).y = (oI (Ows.srt (alG P)) (i + 1)).y) : (oI (Ows.srt (alG P)) i).x1 ≤ (oI (Ows.srt (alG P)) (i + 1)).x0 := by
  have hlen : (Ows.srt (alG P)).length = (al P P.n).length := Ows.srt_len _
  have hp : (Ows.srt (alG P)).Perm (al P P.n) := by have := Ows.srt_perm (alG P); rwa [alG_L] at this
  have nd : (Ows.srt (alG P)).Nodup := hp.nodup_iff.2 (al_nodup h _ (Nat.le_refl _))
  have m1 := hp.mem_iff.1 (oI_mem (L := srt (alG P)) (i := i) (by omega))
  have m2 := hp.mem_iff.1 (oI_mem (L := srt (alG P)) (i := i + 1) (by omega))
  have hs := Ows.srt_sorted (alG P) (i := i) (j := i + 1) (by omega) (by show i + 1 < (al P P.n).length; omega)
  have hne : oI (Ows.srt (alG P)) i ≠ oI (Ows.srt (alG P)) (i + 1) := by
    unfold oI
    rw [List.getD_eq_getElem?_getD, List.getD_eq_getElem?_getD, List.getElem?_eq_getElem (show i < (Ows.srt (alG P)).length by omega), List.getElem?_eq_getElem (show i + 1 < (Ows.srt (alG P)).length by omega)]
    exact List.pairwise_iff_getElem.1 nd i (i + 1) (by omega) (by omega) (by omega)
  generalize oI (Ows.srt (alG P)) i = a at *
  generalize oI (Ows.srt (alG P)) (i + 1) = b at *
  have oka := al_ok h m1
  have okb := al_ok h m2
  rw [Ows.lt_iff'] at hs
  rw [cl_ok okb.1.1.1 okb.1.1.2, cl_ok oka.1.1.1 oka.1.1.2, cl_ok okb.1.2.1.1 okb.1.2.1.2, cl_ok oka.1.2.1.1 oka.1.2.1.2] at hs
  have hx : a.x0 ≤ b.x0 := by omega
  obtain ⟨k, s, h1, h2, rfl⟩ := mem_al.1 m1
  obtain ⟨l, t, h3, h4, rfl⟩ := mem_al.1 m2
  have ra := ((h.v k h1).1 _ (L_mem h2)).2
  have rb := ((h.v l h3).1 _ (L_mem h4)).2
  have hy : (P.p k s).y = (P.p l t).y := hy
  have hx : (P.p k s).x0 ≤ (P.p l t).x0 := hx
  show (P.p k s).x1 ≤ (P.p l t).x0
  by_cases hkl : k = l
  · subst hkl
    rcases Nat.lt_trichotomy s t with hst | hst | hst
    · have := ow_lt h h1 hst h4
      unfold ltR at this
      omega
    · subst hst; exact absurd rfl hne
    · have := ow_lt h h1 hst h2
      unfold ltR at this
      omega
  · refine Int.not_lt.1 fun hc => ?_
    have i1 : mem (Pcs.L P k) (P.p k s).y (P.p l t).x0 = true := (mem_iff _ _ _).2 ⟨_, L_mem h2, rfl, hx, hc⟩
    have i2 : mem (Pcs.L P l) (P.p k s).y (P.p l t).x0 = true := (mem_iff _ _ _).2 ⟨_, L_mem h4, hy.symm, Int.le_refl _, rb⟩
    rcases Nat.lt_or_gt_of_ne hkl with hlt | hgt
    · exact h.disj k l hlt h3 _ _ i1 i2
    · exact h.disj l k hgt h1 _ _ i2 i1
end Go.Proofs.Ytbkgncikjhibiaa.Apl
