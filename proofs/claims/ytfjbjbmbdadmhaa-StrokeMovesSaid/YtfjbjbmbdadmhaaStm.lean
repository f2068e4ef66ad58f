/- Package stroke: what the contract of Stroke asks, for small lines; a stroke that is reckoned out; strokes of lines put together: plain. -/
import Derived.Test.YtfjbjbmbdadmhaaStl
import Derived.Test.YtfjbjbmbdadmhaaRgd
set_option linter.unusedSimpArgs false
set_option linter.unusedVariables false
namespace Go.Proofs.Ytfjbjbmbdadmhaa.Stm
open Go.RowKit Sx Num Aff Con Rgl Rga Rgm Rgn Fla Fle Flp Flf Flg Flu Sta Stb Stc Sto Ste Stl
set_option maxRecDepth 100000
theorem win_len {o : Olr} (h : good o) {k : Nat} (hk : k < o.n) : (fillL ins1 (winL o k)).length ≤ 81920 := by
  have e : (winL o k).E.length ≤ 4 := by
    rw [winL_eq]
    show (([] : List Ed) ++ (o.li (k + 0)).ed (o.li (k + 0)).n).length ≤ 4
    have h1 := Li.ed_len (o.li (k + 0)) (o.li (k + 0)).n
    have h2 : (o.li (k + 0)).n ≤ 4 := (h.1 k hk).1
    rw [List.nil_append]
    omega
  have := fill_len ins1 (winL o k) rfl
  omega
theorem fR_len {o : Olr} (h : good o) : ∀ k, k ≤ o.n → (fR o k).length ≤ 81920 * k
  | 0, _ => Nat.le_refl _
  | k + 1, hk => by
    have h1 := fR_len h k (by omega)
    have h2 := win_len h (show k < o.n by omega)
    show (fR o k ++ fillL ins1 (winL o k)).length ≤ _
    rw [List.length_append]
    omega
theorem fR_ok (o : Olr) : ∀ k, ∀ r ∈ fR o k, okR r
  | 0, r, h => absurd h (List.not_mem_nil)
  | k + 1, r, h => by
    rcases List.mem_append.1 (show r ∈ fR o k ++ fillL ins1 (winL o k) from h) with h | h
    · exact fR_ok o k r h
    · exact (fill_vld ins1 _).1 r h
theorem dN_le {c : Pt} {w : Int} : dN c w ≤ 16384 := by
  have h1 : -8192 ≤ dY0 c w := by unfold dY0; split <;> omega
  have h2 : dY1 c w ≤ 8191 := by unfold dY1; split <;> omega
  unfold dN
  omega
theorem dsk_ok {c : Pt} {w : Int} : ∀ i, i ≤ dN c w → ∀ r ∈ dsk c w i, okR r
  | 0, _, r, h => absurd h (List.not_mem_nil)
  | i + 1, hi, r, h => by
    rcases List.mem_append.1 (show r ∈ dsk c w i ++ dRow c w (dY0 c w + i) from h) with h | h
    · exact dsk_ok i (by omega) r h
    · have h1 : -8192 ≤ dY0 c w := by unfold dY0; split <;> omega
      have h2 : dY1 c w ≤ 8191 := by unfold dY1; split <;> omega
      have h3 : -8192 ≤ dX0 c w (dY0 c w + i) := by unfold dX0; split <;> omega
      have h4 : dX1 c w (dY0 c w + i) ≤ 8192 := by unfold dX1; split <;> omega
      have hi : i + 1 ≤ (dY1 c w + 1 - dY0 c w).toNat := hi
      unfold dRow at h
      split at h
      · exact absurd h (List.not_mem_nil)
      · split at h
        · rename_i hx
          rw [List.mem_singleton.1 h]
          exact ⟨⟨⟨show -8192 ≤ dY0 c w + i by omega, show dY0 c w + i < 8192 by omega⟩, ⟨h3, show dX0 c w (dY0 c w + i) ≤ 8192 by omega⟩, show -8192 ≤ dX1 c w (dY0 c w + i) by omega, h4⟩, hx⟩
        · exact absurd h (List.not_mem_nil)
theorem dR_len (o : Olr) (w : Int) : ∀ k, (dR o w k).length ≤ 16384 * k
  | 0 => Nat.le_refl _
  | k + 1 => by
    have h1 := dR_len o w k
    have h2 := dsk_len (o.d k) w (dN (o.d k) w)
    have h3 := dN_le (c := o.d k) (w := w)
    show (dR o w k ++ dsk _ _ _).length ≤ _
    rw [List.length_append]
    omega
theorem dR_ok (o : Olr) (w : Int) : ∀ k, ∀ r ∈ dR o w k, okR r
  | 0, r, h => absurd h (List.not_mem_nil)
  | k + 1, r, h => by
    rcases List.mem_append.1 (show r ∈ dR o w k ++ dsk (o.d k) w (dN (o.d k) w) from h) with h | h
    · exact dR_ok o w k r h
    · exact dsk_ok _ (Nat.le_refl _) r h
theorem line_len {s : Sty} {l : Li} (hs : Sty.tiny s) (hl : tiny l) : (lineR s l).length ≤ 1966080 := by
  obtain ⟨a, b, c⟩ := out_good hs hl
  have h1 := fR_len a _ (Nat.le_refl _)
  have h2 := dR_len (outX s l) s.w (outX s l).k
  unfold lineR
  rw [List.length_append]
  omega
theorem line_ok (s : Sty) (l : Li) : ∀ r ∈ lineR s l, okR r := fun r h => by
  rcases List.mem_append.1 h with h | h
  · exact fR_ok _ _ r h
  · exact dR_ok _ _ _ r h
theorem sR_len {s : Sty} {g : Lns} (hs : Sty.tiny s) : ∀ i, (∀ k, k < i → tiny (g.f k)) → (sR s g i).length ≤ 1966080 * i
  | 0, _ => Nat.le_refl _
  | i + 1, h => by
    have h1 := sR_len hs i fun k hk => h k (by omega)
    have h2 := line_len hs (h i (Nat.lt_succ_self i))
    show (sR s g i ++ lineR s (g.f i)).length ≤ _
    rw [List.length_append]
    omega
theorem sR_ok (s : Sty) (g : Lns) : ∀ i, ∀ r ∈ sR s g i, okR r
  | 0, r, h => absurd h (List.not_mem_nil)
  | i + 1, r, h => by
    rcases List.mem_append.1 (show r ∈ sR s g i ++ lineR s (g.f i) from h) with h | h
    · exact sR_ok s g i r h
    · exact line_ok s _ r h
def tinyG (g : Lns) : Prop := g.n ≤ 8 ∧ ∀ i, i < g.n → tiny (g.f i)
theorem str_ok {g : Lns} {s : Sty} (hg : tinyG g) (hs : Sty.tiny s) : StrOK ⟨g, s⟩ := by
  have hg1 := hg.1
  refine ⟨⟨⟨show g.n ≤ 1024 by omega, fun i hi => ⟨Nat.le_trans (hg.2 i hi).1 (by decide), fun j hj => sm_le ((hg.2 i hi).2 j hj) (by omega)⟩⟩, hs.1⟩, fun i hi => ?_, fun i hi => ?_, fun i hi t ht => ?_, fun i hi => (out_good hs (hg.2 i hi)).1.2, ?_, sR_ok s g g.n⟩
  · obtain ⟨a, b, -⟩ := ln_good hs (hg.2 i hi)
    exact ⟨⟨tiny_in (hg.2 i hi), hs.1⟩, good_fin a b⟩
  · obtain ⟨-, b, c⟩ := out_good hs (hg.2 i hi)
    exact ⟨Nat.le_trans b (by decide), Nat.le_trans c (by decide)⟩
  · obtain ⟨a, b, -⟩ := out_good hs (hg.2 i hi)
    exact (good_fin a b).2 t ht
  · have h := sR_len (g := g) hs g.n hg.2
    show (sR s g g.n).length ≤ _
    omega
/-! Strokes put together. -/
theorem out_eq (s : Sty) (g : Lns) : outR ⟨g, s⟩ = ofSet (mem (sR s g g.n)) := by
  unfold outR Rgg.joOut
  rw [Rg.L_of]
theorem out_vld (s : Sty) (g : Lns) : vld (outR ⟨g, s⟩) := by rw [out_eq]; exact ofSet_vld _
/-! A stroke that is reckoned out. -/
structure IsL (l : Li) : Prop where
  n : l.n = 2
  p0 : l.f 0 = ⟨0, 0⟩
  p1 : l.f 1 = ⟨10, 0⟩
  c : l.c = false
def s0 : Sty := ⟨4, 0, 0, 64⟩
theorem IsL.clean {l : Li} (h : IsL l) : clean l = [⟨0, 0⟩, ⟨10, 0⟩] := by
  have e1 : dd l.f 1 = [l.f 0] := if_pos (.inl rfl)
  have e2 : dd l.f 2 = if (dd l.f 1).length = 0 ∨ ¬ eqPt (lastP (dd l.f 1)) (l.f 1) then dd l.f 1 ++ [l.f 1] else dd l.f 1 := rfl
  rw [e1] at e2
  have e3 : lastP [l.f 0] = l.f 0 := rfl
  rw [e3, h.p0, h.p1, if_pos (.inr fun hc => absurd hc.1 (by decide))] at e2
  unfold Sta.clean
  rw [h.c, if_neg (by decide), h.n, e2]
  rfl
theorem isq0 : isq 104857600 = 10240 := by
  have h := isq_spec 104857600
  have a : isq 104857600 < 10241 := Nat.lt_of_not_le fun hc => by
    have := Nat.mul_le_mul hc hc
    omega
  have b : 10240 ≤ isq 104857600 := isq_ge (by decide)
  omega
def B0 : Sid := ⟨⟨0, 0⟩, ⟨10, 0⟩, ⟨10, 0⟩, ⟨0, 2⟩, ⟨2, 0⟩⟩
theorem mk0 : mkSid 4 ⟨0, 0⟩ ⟨10, 0⟩ = B0 := by
  have el : lenD (subP ⟨10, 0⟩ ⟨0, 0⟩) = 10240 := by
    show ((isq 104857600 : Nat) : Int) = 10240
    rw [isq0]
    rfl
  unfold mkSid
  rw [el]
  rfl
def O0 : Olr := ((o0 s0).add 4 (sPart B0)).flip 1
theorem IsL.out {l : Li} (h : IsL l) : outX s0 l = O0 := by
  have hc := h.clean
  have eN : sdN l 2 = 1 := by unfold sdN; rw [hc, h.c]; rfl
  have eS : sdA 4 l 0 = B0 := by rw [sdA_eq, hc]; exact mk0
  have hln : lnO s0 l = (o0 s0).add 4 (sPart B0) := by
    unfold lnO Olr.ln
    rw [hc]
    show (if 2 < 2 then _ else Olr.ends (Olr.jns (Olr.sds (o0 s0) (sdA 4 l) (sdN l 2)) (sdA 4 l) (sdN l 2 - 1)) l (sdA 4 l) (sdN l 2)) = _
    rw [if_neg (by decide), eN]
    show (if l.c = true then _ else ((o0 s0).add 4 (sPart (sdA 4 l 0))).cp (sdA 4 l 0) (sdA 4 l 0)) = _
    rw [h.c, if_neg (by decide), eS]
    rfl
  rw [outX_eq]
  unfold outO
  rw [hln]
  rfl
structure IsB (g : Lns) : Prop where
  n : g.n = 1
  m : (g.f 0).n = 4
  p0 : (g.f 0).f 0 = ⟨0, 2⟩
  p1 : (g.f 0).f 1 = ⟨10, 2⟩
  p2 : (g.f 0).f 2 = ⟨10, -2⟩
  p3 : (g.f 0).f 3 = ⟨0, -2⟩
theorem IsB.E {g : Lns} (h : IsB g) : g.E = [⟨10, -2, 2, 0, 4, -1⟩, ⟨0, -2, 2, 0, 4, 1⟩] := by
  unfold Lns.E
  rw [h.n]
  show [] ++ (g.f 0).ed (g.f 0).n = _
  rw [h.m]
  show [] ++ ((((([] : List Ed) ++ mkE ((g.f 0).f 0) ((g.f 0).f ((0 + 1) % (g.f 0).n))) ++ mkE ((g.f 0).f 1) ((g.f 0).f ((1 + 1) % (g.f 0).n))) ++ mkE ((g.f 0).f 2) ((g.f 0).f ((2 + 1) % (g.f 0).n))) ++ mkE ((g.f 0).f 3) ((g.f 0).f ((3 + 1) % (g.f 0).n))) = _
  rw [h.m]
  show [] ++ ((((([] : List Ed) ++ mkE ((g.f 0).f 0) ((g.f 0).f 1)) ++ mkE ((g.f 0).f 1) ((g.f 0).f 2)) ++ mkE ((g.f 0).f 2) ((g.f 0).f 3)) ++ mkE ((g.f 0).f 3) ((g.f 0).f 0)) = _
  rw [h.p0, h.p1, h.p2, h.p3]
  rfl
def lB : List Rn := [⟨-2, 0, 10⟩, ⟨-1, 0, 10⟩, ⟨0, 0, 10⟩, ⟨1, 0, 10⟩]
theorem vB : vld lB := by
  refine ⟨fun r hr => ?_, ?_⟩
  · simp only [lB, List.mem_cons, List.not_mem_nil, or_false] at hr
    rcases hr with rfl | rfl | rfl | rfl <;> exact ⟨⟨⟨by decide, by decide⟩, ⟨by decide, by decide⟩, by decide, by decide⟩, by decide⟩
  · refine List.pairwise_cons.2 ⟨fun r hr => ?_, List.pairwise_cons.2 ⟨fun r hr => ?_, List.pairwise_cons.2 ⟨fun r hr => ?_, List.pairwise_singleton _ _⟩⟩⟩
    · simp only [List.mem_cons, List.not_mem_nil, or_false] at hr
      rcases hr with rfl | rfl | rfl <;> exact .inl (by decide)
    · simp only [List.mem_cons, List.not_mem_nil, or_false] at hr
      rcases hr with rfl | rfl <;> exact .inl (by decide)
    · simp only [List.mem_cons, List.not_mem_nil, or_false] at hr
      rw [hr]
      exact .inl (by decide)
theorem IsB.fill {g : Lns} (h : IsB g) : fillL ins1 g = lB := by
  refine ofSet_eq vB fun y x => ?_
  rw [h.E]
  have f1 : Ed.first ⟨10, -2, 2, 0, 4, -1⟩ y = 10 := by unfold Ed.first Ed.num; simp
  have f2 : Ed.first ⟨0, -2, 2, 0, 4, 1⟩ y = 0 := by unfold Ed.first Ed.num; simp
  have e1 : wE (eI [⟨10, -2, 2, 0, 4, -1⟩, ⟨0, -2, 2, 0, 4, 1⟩]) 2 y x = (if (-2 ≤ y ∧ y < 2) ∧ 10 ≤ x then -1 else 0) + (if (-2 ≤ y ∧ y < 2) ∧ 0 ≤ x then 1 else 0) := by
    show 0 + (if Ed.on ⟨10, -2, 2, 0, 4, -1⟩ y = true ∧ Ed.first ⟨10, -2, 2, 0, 4, -1⟩ y ≤ x then (-1 : Int) else 0) + (if Ed.on ⟨0, -2, 2, 0, 4, 1⟩ y = true ∧ Ed.first ⟨0, -2, 2, 0, 4, 1⟩ y ≤ x then (1 : Int) else 0) = _
    rw [f1, f2, Int.zero_add]
    unfold Ed.on
    simp only [decide_eq_true_eq]
  show mem lB y x = chi ins1 (eI [⟨10, -2, 2, 0, 4, -1⟩, ⟨0, -2, 2, 0, 4, 1⟩]) 2 y x
  unfold chi ins1
  rw [e1, Bool.eq_iff_iff, Bool.and_eq_true, decide_eq_true_iff, decide_eq_true_iff]
  show ((inR ⟨-2, 0, 10⟩ y x || (inR ⟨-1, 0, 10⟩ y x || (inR ⟨0, 0, 10⟩ y x || (inR ⟨1, 0, 10⟩ y x || false)))) = true) ↔ _
  rw [Bool.or_false, Bool.or_eq_true, Bool.or_eq_true, Bool.or_eq_true, inR_iff, inR_iff, inR_iff, inR_iff]
  show (((-2 : Int) = y ∧ 0 ≤ x ∧ x < 10) ∨ ((-1 : Int) = y ∧ 0 ≤ x ∧ x < 10) ∨ ((0 : Int) = y ∧ 0 ≤ x ∧ x < 10) ∨ ((1 : Int) = y ∧ 0 ≤ x ∧ x < 10)) ↔ _
  split <;> split <;> omega
theorem isB0 : IsB (winL O0 0) := by
  rw [winL_eq]
  exact ⟨rfl, rfl, by kernel_rfl, by kernel_rfl, by kernel_rfl, by kernel_rfl⟩
theorem out0 {g : Lns} (hn : g.n = 1) (h : IsL (g.f 0)) : outR ⟨g, s0⟩ = lB := by
  rw [out_eq, hn]
  show ofSet (mem (([] : List Rn) ++ (fR (outX s0 (g.f 0)) (outX s0 (g.f 0)).n ++ dR (outX s0 (g.f 0)) s0.w (outX s0 (g.f 0)).k))) = _
  rw [h.out]
  show ofSet (mem (([] : List Rn) ++ ((([] : List Rn) ++ fillL ins1 (winL O0 0)) ++ []))) = _
  rw [isB0.fill]
  exact ofSet_eq vB fun _ _ => rfl
theorem ok0 {g : Lns} (hn : g.n = 1) (h : IsL (g.f 0)) : StrOK ⟨g, s0⟩ := by
  refine str_ok ⟨by omega, fun i hi => ?_⟩ ⟨⟨⟨⟨by decide, by decide⟩, by decide, by decide⟩, ⟨by decide, by decide⟩, by decide, by decide⟩, by decide⟩
  obtain rfl : i = 0 := by omega
  refine ⟨by rw [h.n]; decide, fun j hj => ?_⟩
  rw [h.n] at hj
  match j, hj with
  | 0, _ => rw [h.p0]; exact ⟨⟨by decide, by decide⟩, by decide, by decide⟩
  | 1, _ => rw [h.p1]; exact ⟨⟨by decide, by decide⟩, by decide, by decide⟩
end Go.Proofs.Ytfjbjbmbdadmhaa.Stm
