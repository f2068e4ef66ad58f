/- What the pieces of cells are: the plain law of gathering. -/
import Derived.Test.YtbkgncikjhibiaaApt
set_option linter.unusedSimpArgs false
set_option linter.unusedVariables false
namespace Go.Proofs.Ytbkgncikjhibiaa.Ofl
open Go.RowKit Go.Lib Go.Sort Sx Num Aff Con Rga Rgl Rgm Rgn Rgf Gat Gar Ows Apl Apt
set_option maxRecDepth 100000
theorem add_first {L : List Rn} (h : L ≠ []) (r : Rn) : (rI (addR L r) 0).y = (rI L 0).y ∧ (rI (addR L r) 0).x0 = (rI L 0).x0 := by
  rcases last_cases L with rfl | ⟨P, s, rfl⟩
  · exact absurd rfl h
  rw [add_snoc]
  cases P with
  | nil =>
    split
    · split <;> exact ⟨rfl, rfl⟩
    · exact ⟨rfl, rfl⟩
  | cons q P =>
    split
    · split <;> exact ⟨rfl, rfl⟩
    · exact ⟨rfl, rfl⟩
theorem add_ne {L : List Rn} {r : Rn} (h : r.x0 < r.x1) : 0 < (addR L r).length := by
  rcases last_cases L with rfl | ⟨P, s, rfl⟩
  · rw [add_nil, if_pos h]; exact Nat.zero_lt_one
  · rw [add_snoc, if_pos h]
    split <;> simp
theorem aftE_mono {L : List Rn} {y x y' x' : Int} (h : aftE L y x) (hh : y < y' ∨ (y = y' ∧ x ≤ x')) : aftE L y' x' := fun s hs => by
  have := h s hs
  omega
def Gt.Q (G : Gt) : Pcs := ⟨G.n, G.m, G.p, G.ink⟩
theorem L_put_same (G : Gt) (k : Nat) (L : List Rn) : Pcs.L (Gt.Q (putP G k L)) k = L := by
  show Lf (fun j => bif decide (k = k) then rI L j else G.p k j) (updN G.m k L.length k) = L
  rw [updN_same]
  have : (fun j => bif decide (k = k) then rI L j else G.p k j) = rI L := by funext j; rw [decide_eq_true rfl]; rfl
  rw [this, Lf_rI]
theorem L_put_ne (G : Gt) {k j : Nat} (L : List Rn) (h : j ≠ k) : Pcs.L (Gt.Q (putP G k L)) j = Pcs.L (Gt.Q G) j := by
  show Lf (fun i => bif decide (j = k) then rI L i else G.p j i) (updN G.m k L.length j) = _
  rw [updN_ne (Ne.symm h)]
  have : (fun i => bif decide (j = k) then rI L i else G.p j i) = G.p j := by funext i; rw [decide_eq_false h]; rfl
  rw [this]
  rfl
/-- The cell at which a vector lies. -/
def ck (f : Nat → Vec) (W : Nat) (y x : Int) : List Int := kOf (f (y.toNat * W + x.toNat))
/-- The cells that have been gone through: those ahead of cell x of row y. -/
def Dn (W : Nat) (y x : Nat) (y' x' : Int) : Prop := 0 ≤ y' ∧ (0 ≤ x' ∧ x' < W) ∧ (y' < y ∨ (y' = y ∧ x' < x))
structure GJ (f : Nat → Vec) (W y x : Nat) (G : Gt) : Prop where
  has : ∀ l, G.has l = true ↔ ∃ k, k < G.n ∧ kOf (G.ink k) = l
  val : ∀ k, k < G.n → G.val (kOf (G.ink k)) = k
  nz : ∀ k, k < G.n → kOf (G.ink k) ≠ nul
  from' : ∀ k, k < G.n → ∃ i, G.ink k = f i
  v : ∀ k, k < G.n → vld (Pcs.L (Gt.Q G) k)
  ne : ∀ k, k < G.n → 0 < G.m k
  e : ∀ k, k < G.n → aftE (Pcs.L (Gt.Q G) k) y x
  m : ∀ k, k < G.n → ∀ y' x', mem (Pcs.L (Gt.Q G) k) y' x' = true ↔ Dn W y x y' x' ∧ ck f W y' x' = kOf (G.ink k)
  cov : ∀ y' x', Dn W y x y' x' → ck f W y' x' ≠ nul → ∃ k, k < G.n ∧ kOf (G.ink k) = ck f W y' x'
  ord : ∀ k, k + 1 < G.n → (G.p k 0).y < (G.p (k + 1) 0).y ∨ ((G.p k 0).y = (G.p (k + 1) 0).y ∧ (G.p k 0).x0 ≤ (G.p (k + 1) 0).x0)
structure GI (f : Nat → Vec) (W y x cnt : Nat) (G : Gt) : Prop where
  nf : G.full = true → 4096 < cnt
  nc : G.n ≤ cnt
  n4 : G.n ≤ 4096
  tot : (al (Gt.Q G) G.n).length ≤ cnt
  j : G.full = false → GJ f W y x G
theorem GI.mono {f W y x c d G} (h : GI f W y x c G) (hc : c ≤ d) : GI f W y x d G := ⟨fun hf => Nat.lt_of_lt_of_le (h.nf hf) hc, Nat.le_trans h.nc hc, h.n4, Nat.le_trans h.tot hc, h.j⟩
theorem al_len_congr {P Q : Pcs} : ∀ n, (∀ k, k < n → P.m k = Q.m k) → (al P n).length = (al Q n).length
  | 0, _ => rfl
  | n + 1, h => by
    show (al P n ++ alr P n (P.m n)).length = (al Q n ++ alr Q n (Q.m n)).length
    rw [List.length_append, List.length_append, alr_len, alr_len, al_len_congr n (fun k hk => h k (by omega)), h n (by omega)]
theorem al_len_upd {P Q : Pcs} {c : Nat} : ∀ n, c < n → (∀ k, k < n → k ≠ c → P.m k = Q.m k) → P.m c ≤ Q.m c + 1 → (al P n).length ≤ (al Q n).length + 1
  | n + 1, hc, h, h1 => by
    show (al P n ++ alr P n (P.m n)).length ≤ (al Q n ++ alr Q n (Q.m n)).length + 1
    rw [List.length_append, List.length_append, alr_len, alr_len]
    by_cases hcn : c = n
    · subst hcn
      rw [al_len_congr (Q := Q) c (fun k hk => h k (by omega) (by omega))]
      omega
    · have := al_len_upd (P := P) (Q := Q) n (by omega) (fun k hk hne => h k (by omega) hne) h1
      rw [h n (by omega) (Ne.symm hcn)]
      omega
section
variable {f : Nat → Vec} {W y x to cnt : Nat} {G : Gt}
/-- The cells of a run. -/
theorem dn_step (hto : x < to) (hW : to ≤ W) (y' x' : Int) : Dn W y to y' x' ↔ (Dn W y x y' x' ∨ (y' = y ∧ (x : Int) ≤ x' ∧ x' < to)) := by
  unfold Dn
  omega
theorem run_ck (hs : ∀ k, x ≤ k → k < to → kOf (f (y * W + k)) = kOf (f (y * W + x))) {y' x' : Int} (h : y' = y ∧ (x : Int) ≤ x' ∧ x' < to) : ck f W y' x' = kOf (f (y * W + x)) := by
  obtain ⟨rfl, h1, h2⟩ := h
  unfold ck
  rw [Int.toNat_natCast]
  exact hs x'.toNat (by omega) (by omega)
/-- Part k is added to. -/
theorem put_step (J : GJ f W y x G) (hy : y < 8192) (hW : W ≤ 8192) (hto : x < to) (htW : to ≤ W) (hs : ∀ k, x ≤ k → k < to → kOf (f (y * W + k)) = kOf (f (y * W + x))) {k : Nat} (hk : k < G.n) (hv : kOf (G.ink k) = kOf (f (y * W + x))) :
    GJ f W y to (putP G k (grw G k ⟨y, x, to⟩)) := by
  have hr : okR ⟨(y : Int), x, to⟩ := ⟨⟨⟨by show -8192 ≤ (y : Int); omega, by show (y : Int) < 8192; omega⟩, ⟨by show -8192 ≤ (x : Int); omega, by show (x : Int) ≤ 8192; omega⟩, by show -8192 ≤ (to : Int); omega, by show (to : Int) ≤ 8192; omega⟩, by show (x : Int) < to; omega⟩
  have hL : grw G k ⟨y, x, to⟩ = addR (Pcs.L (Gt.Q G) k) ⟨y, x, to⟩ := rfl
  have hadd := add_ok (J.v k hk) (r := ⟨y, x, to⟩) (fun _ => hr) (aft_of (J.v k hk) (J.e k hk))
  have hnd : ∀ j, j < G.n → kOf (G.ink j) = kOf (f (y * W + x)) → j = k := fun j hj he => by
    have h1 := J.val j hj
    have h2 := J.val k hk
    rw [he] at h1
    rw [hv, h1] at h2
    omega
  have hne0 : Pcs.L (Gt.Q G) k ≠ [] := fun hc => by
    have := J.ne k hk
    have e : (Pcs.L (Gt.Q G) k).length = G.m k := Lf_len _ _
    rw [hc] at e
    simp at e
    omega
  have first : ∀ j, j < G.n → ((putP G k (grw G k ⟨y, x, to⟩)).p j 0).y = (G.p j 0).y ∧ ((putP G k (grw G k ⟨y, x, to⟩)).p j 0).x0 = (G.p j 0).x0 := fun j hj => by
    show (bif decide (j = k) then rI (grw G k ⟨y, x, to⟩) 0 else G.p j 0 : Rn).y = _ ∧ (bif decide (j = k) then rI (grw G k ⟨y, x, to⟩) 0 else G.p j 0 : Rn).x0 = _
    by_cases hjk : j = k
    · subst hjk
      rw [decide_eq_true rfl, hL]
      simp only [cond_true]
      have h1 := add_first hne0 ⟨y, x, to⟩
      have h2 : rI (Pcs.L (Gt.Q G) j) 0 = G.p j 0 := Lf_get _ (J.ne j hj)
      rw [h2] at h1
      exact h1
    · rw [decide_eq_false hjk]
      exact ⟨rfl, rfl⟩
  refine ⟨J.has, J.val, J.nz, J.from', fun j hj => ?_, fun j hj => ?_, fun j hj => ?_, fun j hj y' x' => ?_, fun y' x' hd hz => ?_, fun j hj => ?_⟩
  · by_cases hjk : j = k
    · subst hjk; rw [L_put_same, hL]; exact hadd.1
    · rw [L_put_ne _ _ hjk]; exact J.v j hj
  · show 0 < updN G.m k _ j
    by_cases hjk : j = k
    · subst hjk; rw [updN_same, hL]; exact add_ne (by show (x : Int) < to; omega)
    · rw [updN_ne (Ne.symm hjk)]; exact J.ne j hj
  · by_cases hjk : j = k
    · subst hjk; rw [L_put_same, hL]; exact add_end (J.e j hj) (by show (x : Int) ≤ to; omega)
    · rw [L_put_ne _ _ hjk]; exact aftE_mono (J.e j hj) (by omega)
  · show _ ↔ _ ∧ ck f W y' x' = kOf (G.ink j)
    rw [dn_step hto htW]
    by_cases hjk : j = k
    · subst hjk
      rw [L_put_same, hL, hadd.2.1, Bool.or_eq_true, J.m j hj, inR_iff]
      constructor
      · rintro (⟨h1, h2⟩ | ⟨h1, h2, h3⟩)
        · exact ⟨.inl h1, h2⟩
        · exact ⟨.inr ⟨h1.symm, h2, h3⟩, by rw [run_ck hs ⟨h1.symm, h2, h3⟩, hv]⟩
      · rintro ⟨h1 | h1, h2⟩
        · exact .inl ⟨h1, h2⟩
        · exact .inr ⟨h1.1.symm, h1.2⟩
    · rw [L_put_ne _ _ hjk, J.m j hj]
      constructor
      · rintro ⟨h1, h2⟩; exact ⟨.inl h1, h2⟩
      · rintro ⟨h1 | h1, h2⟩
        · exact ⟨h1, h2⟩
        · rw [run_ck hs h1] at h2
          exact absurd (hnd j hj h2.symm) hjk
  · rcases (dn_step hto htW y' x').1 hd with h1 | h1
    · exact J.cov y' x' h1 hz
    · exact ⟨k, hk, by show kOf (G.ink k) = _; rw [hv, run_ck hs h1]⟩
  · have hj : j + 1 < G.n := hj
    have f1 := first j (by omega)
    have f2 := first (j + 1) hj
    rw [f1.1, f1.2, f2.1, f2.2]
    exact J.ord j hj
theorem L_fresh_ne (G : Gt) (v : Vec) {j : Nat} (h : j ≠ G.n) : Pcs.L (Gt.Q (fresh G v)) j = Pcs.L (Gt.Q G) j := by
  show Lf (G.p j) (updN G.m G.n 0 j) = _
  rw [updN_ne (Ne.symm h)]
  rfl
theorem L_fresh (G : Gt) (v : Vec) : Pcs.L (Gt.Q (fresh G v)) G.n = [] := by
  show Lf (G.p G.n) (updN G.m G.n 0 G.n) = _
  rw [updN_same]
  rfl
theorem ink_fresh_lt (G : Gt) (v : Vec) {j : Nat} (h : j < G.n) : (fresh G v).ink j = G.ink j := by
  show (fun i => bif decide (j < G.n) then G.ink j i else v i) = _
  rw [decide_eq_true h]
  rfl
theorem ink_fresh (G : Gt) (v : Vec) : (fresh G v).ink G.n = v := by
  show (fun i => bif decide (G.n < G.n) then G.ink G.n i else v i) = _
  rw [decide_eq_false (Nat.lt_irrefl _)]
  rfl
/-- A new part. -/
theorem new_step (J : GJ f W y x G) (hy : y < 8192) (hW : W ≤ 8192) (hto : x < to) (htW : to ≤ W) (hs : ∀ k, x ≤ k → k < to → kOf (f (y * W + k)) = kOf (f (y * W + x))) (hz : kOf (f (y * W + x)) ≠ nul) (hh : G.has (kOf (f (y * W + x))) = false) :
    GJ f W y to (putP (fresh G (f (y * W + x))) G.n (grw (fresh G (f (y * W + x))) G.n ⟨y, x, to⟩)) := by
  generalize hvv : f (y * W + x) = v at *
  have hr : okR ⟨(y : Int), x, to⟩ := ⟨⟨⟨by show -8192 ≤ (y : Int); omega, by show (y : Int) < 8192; omega⟩, ⟨by show -8192 ≤ (x : Int); omega, by show (x : Int) ≤ 8192; omega⟩, by show -8192 ≤ (to : Int); omega, by show (to : Int) ≤ 8192; omega⟩, by show (x : Int) < to; omega⟩
  have hL : grw (fresh G v) G.n ⟨y, x, to⟩ = [⟨y, x, to⟩] := by
    show addR (Pcs.L (Gt.Q (fresh G v)) G.n) ⟨y, x, to⟩ = _
    rw [L_fresh, add_nil, if_pos (by show (x : Int) < to; omega)]
  have hno : ∀ j, j < G.n → kOf (G.ink j) ≠ kOf v := fun j hj he => by
    have := (J.has (kOf v)).2 ⟨j, hj, he⟩
    rw [hh] at this
    cases this
  have inkL : ∀ j, j < G.n → (putP (fresh G v) G.n (grw (fresh G v) G.n ⟨y, x, to⟩)).ink j = G.ink j := fun j hj => ink_fresh_lt G v hj
  have inkN : (putP (fresh G v) G.n (grw (fresh G v) G.n ⟨y, x, to⟩)).ink G.n = v := ink_fresh G v
  have LL : ∀ j, j < G.n → Pcs.L (Gt.Q (putP (fresh G v) G.n (grw (fresh G v) G.n ⟨y, x, to⟩))) j = Pcs.L (Gt.Q G) j := fun j hj => by
    rw [L_put_ne _ _ (by omega : j ≠ G.n), L_fresh_ne G v (by omega)]
  have LN : Pcs.L (Gt.Q (putP (fresh G v) G.n (grw (fresh G v) G.n ⟨y, x, to⟩))) G.n = [⟨y, x, to⟩] := by rw [L_put_same, hL]
  have valE : ∀ l, (putP (fresh G v) G.n (grw (fresh G v) G.n ⟨y, x, to⟩)).val l = bif decide (l = kOf v) then (G.n : Int) else G.val l := fun l => rfl
  have hasE : ∀ l, (putP (fresh G v) G.n (grw (fresh G v) G.n ⟨y, x, to⟩)).has l = (decide (l = kOf v) || G.has l) := fun l => rfl
  have split : ∀ {j}, j < G.n + 1 → j < G.n ∨ j = G.n := fun h => by omega
  refine ⟨fun l => ?_, fun j hj => ?_, fun j hj => ?_, fun j hj => ?_, fun j hj => ?_, fun j hj => ?_, fun j hj => ?_, fun j hj y' x' => ?_, fun y' x' hd hz' => ?_, fun j hj => ?_⟩
  · rw [hasE, Bool.or_eq_true, decide_eq_true_eq, J.has]
    constructor
    · rintro (h | ⟨j, h1, h2⟩)
      · exact ⟨G.n, Nat.lt_succ_self _, by rw [inkN]; exact h.symm⟩
      · exact ⟨j, Nat.lt_succ_of_lt h1, by rw [inkL j h1]; exact h2⟩
    · rintro ⟨j, h1, h2⟩
      rcases split h1 with h | rfl
      · exact .inr ⟨j, h, by rw [inkL j h] at h2; exact h2⟩
      · exact .inl (by rw [inkN] at h2; exact h2.symm)
  · rw [valE]
    rcases split hj with h | rfl
    · rw [inkL j h, decide_eq_false (hno j h)]; exact J.val j h
    · rw [inkN, decide_eq_true rfl]; rfl
  · rcases split hj with h | rfl
    · rw [inkL j h]; exact J.nz j h
    · rw [inkN]; exact hz
  · rcases split hj with h | rfl
    · rw [inkL j h]; exact J.from' j h
    · rw [inkN]; exact ⟨_, hvv.symm⟩
  · rcases split hj with h | rfl
    · rw [LL j h]; exact J.v j h
    · rw [LN]; exact vld_cons.2 ⟨hr, fun _ h => (List.not_mem_nil h).elim, vld_nil⟩
  · rcases split hj with h | rfl
    · show 0 < updN (updN G.m G.n 0) G.n _ j
      rw [updN_ne (by omega), updN_ne (by omega)]; exact J.ne j h
    · show 0 < updN _ G.n _ G.n
      rw [updN_same, hL]; exact Nat.zero_lt_one
  · rcases split hj with h | rfl
    · rw [LL j h]; exact aftE_mono (J.e j h) (by omega)
    · rw [LN]; exact (aftE_snoc (P := [])).2 (.inr ⟨rfl, Int.le_refl _⟩)
  · rw [dn_step hto htW]
    rcases split hj with h | rfl
    · rw [LL j h, inkL j h, J.m j h]
      constructor
      · rintro ⟨h1, h2⟩; exact ⟨.inl h1, h2⟩
      · rintro ⟨h1 | h1, h2⟩
        · exact ⟨h1, h2⟩
        · rw [run_ck (by rw [hvv]; exact hs) h1, hvv] at h2
          exact absurd h2.symm (hno j h)
    · rw [LN, inkN, mem_one, inR_iff]
      constructor
      · rintro ⟨h1, h2, h3⟩
        exact ⟨.inr ⟨h1.symm, h2, h3⟩, by rw [run_ck (by rw [hvv]; exact hs) ⟨h1.symm, h2, h3⟩, hvv]⟩
      · rintro ⟨h1 | h1, h2⟩
        · obtain ⟨j, h3, h4⟩ := J.cov y' x' h1 (by rw [h2]; exact hz)
          exact absurd (h4.trans h2) (hno j h3)
        · exact ⟨h1.1.symm, h1.2⟩
  · rcases (dn_step hto htW y' x').1 hd with h1 | h1
    · obtain ⟨j, h2, h3⟩ := J.cov y' x' h1 hz'
      exact ⟨j, Nat.lt_succ_of_lt h2, by rw [inkL j h2]; exact h3⟩
    · exact ⟨G.n, Nat.lt_succ_self _, by rw [inkN, run_ck (by rw [hvv]; exact hs) h1, hvv]⟩
  · have hj : j + 1 < G.n + 1 := hj
    have pE : ∀ i, i < G.n → (putP (fresh G v) G.n (grw (fresh G v) G.n ⟨y, x, to⟩)).p i 0 = G.p i 0 := fun i hi => by
      show (bif decide (i = G.n) then _ else G.p i 0 : Rn) = _
      rw [decide_eq_false (by omega)]
      rfl
    rcases split hj with h | h
    · rw [pE j (by omega), pE (j + 1) h]; exact J.ord j h
    · have pN : (putP (fresh G v) G.n (grw (fresh G v) G.n ⟨y, x, to⟩)).p G.n 0 = ⟨y, x, to⟩ := by
        show (bif decide (G.n = G.n) then rI (grw (fresh G v) G.n ⟨y, x, to⟩) 0 else G.p G.n 0 : Rn) = _
        rw [decide_eq_true rfl, hL]
        rfl
      rw [h, pN, pE j (by omega)]
      have hne := J.ne j (by omega)
      have okj := (J.v j (by omega)).1 _ (L_mem (P := Gt.Q G) hne)
      have hm : mem (Pcs.L (Gt.Q G) j) (G.p j 0).y (G.p j 0).x0 = true := (mem_iff _ _ _).2 ⟨_, L_mem (P := Gt.Q G) hne, rfl, Int.le_refl _, okj.2⟩
      have hd := ((J.m j (by omega) _ _).1 hm).1
      unfold Dn at hd
      show (G.p j 0).y < (y : Int) ∨ ((G.p j 0).y = y ∧ (G.p j 0).x0 ≤ x)
      omega
/-- One run more. -/
theorem gi_step (h : GI f W y x cnt G) (hy : y < 8192) (hW : W ≤ 8192) (hto : x < to) (htW : to ≤ W) (hs : ∀ k, x ≤ k → k < to → kOf (f (y * W + k)) = kOf (f (y * W + x))) : GI f W y to (cnt + 1) (nxt G (f (y * W + x)) ⟨y, x, to⟩) := by
  rw [nxt_eq]
  have keep : G.full = true ∨ kOf (f (y * W + x)) = nul → GI f W y to (cnt + 1) G := fun hc => by
    refine ⟨fun hf => Nat.lt_succ_of_lt (h.nf hf), Nat.le_succ_of_le h.nc, h.n4, Nat.le_succ_of_le h.tot, fun hf => ?_⟩
    have J := h.j hf
    have hz : kOf (f (y * W + x)) = nul := hc.resolve_left (by rw [hf]; decide)
    refine ⟨J.has, J.val, J.nz, J.from', J.v, J.ne, fun k hk => aftE_mono (J.e k hk) (by omega), fun k hk y' x' => ?_, fun y' x' hd hz' => ?_, J.ord⟩
    · rw [J.m k hk, dn_step hto htW]
      constructor
      · rintro ⟨h1, h2⟩; exact ⟨.inl h1, h2⟩
      · rintro ⟨h1 | h1, h2⟩
        · exact ⟨h1, h2⟩
        · rw [run_ck hs h1, hz] at h2
          exact absurd h2.symm (J.nz k hk)
    · rcases (dn_step hto htW y' x').1 hd with h1 | h1
      · exact J.cov y' x' h1 hz'
      · exact absurd (by rw [run_ck hs h1, hz]) hz'
  unfold nxtB
  by_cases hc : kOf (f (y * W + x)) = nul ∨ G.full = true
  · rw [if_pos hc]
    exact keep hc.symm
  rw [if_neg hc]
  have hz : kOf (f (y * W + x)) ≠ nul := fun e => hc (.inl e)
  have hf : G.full = false := by
    cases hh : G.full with
    | false => rfl
    | true => exact absurd (.inr hh) hc
  have J := h.j hf
  by_cases hh : G.has (kOf (f (y * W + x))) = true
  · rw [if_pos hh]
    obtain ⟨k, hk, he⟩ := (J.has _).1 hh
    have ek : (G.val (kOf (f (y * W + x)))).toNat = k := by rw [← he, J.val k hk]; rfl
    rw [ek]
    refine ⟨fun hf' => ?_, Nat.le_succ_of_le h.nc, h.n4, ?_, fun _ => put_step J hy hW hto htW hs hk he⟩
    · have hf' : G.full = true := hf'
      rw [hf] at hf'; cases hf'
    · refine Nat.le_trans (al_len_upd (P := Gt.Q (putP G k (grw G k ⟨y, x, to⟩))) (Q := Gt.Q G) (c := k) G.n hk (fun j hj hne => ?_) ?_) (Nat.succ_le_succ h.tot)
      · show updN G.m k _ j = G.m j
        rw [updN_ne (Ne.symm hne)]
      · show updN G.m k _ k ≤ G.m k + 1
        rw [updN_same]
        have := addR_len (Rg.L ⟨G.m k, G.p k⟩) ⟨y, x, to⟩
        rwa [Rg.len] at this
  · rw [if_neg hh]
    by_cases h4 : G.n = 4096
    · rw [if_pos h4]
      exact ⟨fun _ => by have := h.nc; omega, Nat.le_succ_of_le h.nc, h.n4, Nat.le_succ_of_le h.tot, fun hf' => by cases hf'⟩
    · rw [if_neg h4]
      have hn4 := h.n4
      have hnc := h.nc
      refine ⟨fun hf' => ?_, by show G.n + 1 ≤ cnt + 1; omega, by show G.n + 1 ≤ 4096; omega, ?_, fun _ => new_step J hy hW hto htW hs hz (by simpa using hh)⟩
      · have hf' : G.full = true := hf'
        rw [hf] at hf'; cases hf'
      · show (al _ G.n ++ alr _ G.n _).length ≤ cnt + 1
        rw [List.length_append, alr_len]
        have e1 : (al (Gt.Q (putP (fresh G (f (y * W + x))) G.n (grw (fresh G (f (y * W + x))) G.n ⟨y, x, to⟩))) G.n).length = (al (Gt.Q G) G.n).length := al_len_congr _ (fun j hj => by
          show updN (updN G.m G.n 0) G.n _ j = G.m j
          rw [updN_ne (by omega), updN_ne (by omega)])
        have e2 : (Gt.Q (putP (fresh G (f (y * W + x))) G.n (grw (fresh G (f (y * W + x))) G.n ⟨y, x, to⟩))).m G.n ≤ 1 := by
          show updN _ G.n _ G.n ≤ 1
          rw [updN_same]
          have h1 := addR_len (Rg.L ⟨updN G.m G.n 0 G.n, G.p G.n⟩) ⟨y, x, to⟩
          rw [Rg.len] at h1
          have h2 : (grw (fresh G (f (y * W + x))) G.n ⟨y, x, to⟩).length ≤ updN G.m G.n 0 G.n + 1 := h1
          rw [updN_same] at h2
          exact h2
        have := h.tot
        omega
end
/-- A row. -/
theorem gi_row {f : Nat → Vec} {W y : Nat} (hy : y < 8192) (hW : W ≤ 8192) : ∀ n x cnt G, x ≤ W → W ≤ x + n → GI f W y x cnt G → GI f W y W (cnt + (W - x)) (rowG (fun i => f (y * W + i)) y W n x G)
  | 0, x, cnt, G, h1, h2, h => by
    obtain rfl : x = W := by omega
    rw [Nat.sub_self]
    exact h
  | n + 1, x, cnt, G, h1, h2, h => by
    rw [rowG_succ]
    by_cases hx : x < W
    · rw [if_pos hx]
      have hb := brk_ok (f := fun i => f (y * W + i)) hx
      have hg := gi_step h hy hW hb.1.1 hb.1.2 (fun k hk1 hk2 => hb.2.1 k hk1 hk2)
      have := gi_row hy hW n _ _ _ hb.1.2 (by omega) hg
      exact this.mono (by omega)
    · rw [if_neg hx]
      obtain rfl : x = W := by omega
      rw [Nat.sub_self]
      exact h
theorem gi_next {f : Nat → Vec} {W y cnt : Nat} {G : Gt} (h : GI f W y W cnt G) : GI f W (y + 1) 0 cnt G := by
  have hd : ∀ y' x', Dn W (y + 1) 0 y' x' ↔ Dn W y W y' x' := fun y' x' => by unfold Dn; omega
  refine ⟨h.nf, h.nc, h.n4, h.tot, fun hf => ?_⟩
  have J := h.j hf
  exact ⟨J.has, J.val, J.nz, J.from', J.v, J.ne, fun k hk => aftE_mono (J.e k hk) (by omega), fun k hk y' x' => by rw [hd]; exact J.m k hk y' x', fun y' x' hdd => J.cov y' x' ((hd _ _).1 hdd), J.ord⟩
theorem gi_of (f : Nat → Vec) {W : Nat} (hW : W ≤ 8192) : ∀ y, y ≤ 8192 → GI f W y 0 (y * W) (ofR f W y)
  | 0, _ => by
    refine ⟨fun h => (by cases h), Nat.zero_le _, Nat.zero_le _, Nat.zero_le _, fun _ => ?_⟩
    refine ⟨fun l => ⟨fun h => (by cases h), fun ⟨k, h, _⟩ => absurd h (Nat.not_lt_zero _)⟩, fun k h => absurd h (Nat.not_lt_zero _), fun k h => absurd h (Nat.not_lt_zero _), fun k h => absurd h (Nat.not_lt_zero _), fun k h => absurd h (Nat.not_lt_zero _), fun k h => absurd h (Nat.not_lt_zero _), fun k h => absurd h (Nat.not_lt_zero _), fun k h => absurd h (Nat.not_lt_zero _), fun y' x' h => ?_, fun k h => absurd h (Nat.not_lt_zero _)⟩
    unfold Dn at h
    omega
  | y + 1, hy => by
    have h := gi_row (f := f) (y := y) (by omega) hW W 0 _ _ (Nat.zero_le _) (by omega) (gi_of f hW y (by omega))
    have e : ofR f W (y + 1) = rowG (fun i => f (y * W + i)) y W W 0 (ofR f W y) := by
      show rowA _ _ _ _ = _
      rw [row_eq]
      rfl
    rw [e]
    refine gi_next (h.mono ?_)
    rw [Nat.add_mul, Nat.one_mul, Nat.sub_zero]
    exact Nat.le_refl _
/-- What Of answers for a page of few cells. -/
structure OfOK (g : OfG) (P : Pcs) : Prop where
  n : (ofA g).full = false
  c : ChG.Ok ⟨g.w, g.h, P⟩
  from' : ∀ k, k < P.n → ∃ i, P.ink k = g.f i
  m : ∀ k, k < P.n → ∀ y x, mem (Pcs.L P k) y x = true ↔ ((0 ≤ y ∧ y < 16 * g.h) ∧ 0 ≤ x ∧ x < 16 * g.w) ∧ ck g.f (16 * g.w) y x = kOf (P.ink k)
  cov : ∀ y x, ((0 ≤ y ∧ y < 16 * (g.h : Int)) ∧ 0 ≤ x ∧ x < 16 * (g.w : Int)) → ck g.f (16 * g.w) y x ≠ nul → ∃ k, k < P.n ∧ kOf (P.ink k) = ck g.f (16 * g.w) y x
theorem of_ok {g : OfG} (hw : 1 ≤ g.w ∧ g.w ≤ 256) (hh : 1 ≤ g.h ∧ g.h ≤ 256) (hc : 256 * g.w * g.h ≤ 4096) : OfOK g (Gt.P (ofA g)) := by
  have e : ofA g = ofR g.f (16 * g.w) (16 * g.h) := by rw [of_eq]; rfl
  have h := gi_of g.f (W := 16 * g.w) (by omega) (16 * g.h) (by omega)
  rw [← e] at h
  have hcnt : 16 * g.h * (16 * g.w) = 256 * g.w * g.h := by grind
  rw [hcnt] at h
  have hf : (ofA g).full = false := by
    cases hff : (ofA g).full with
    | false => rfl
    | true => have := h.nf hff; omega
  have J := h.j hf
  have hP : Gt.P (ofA g) = Gt.Q (ofA g) := by
    show (⟨bif (ofA g).full then 0 else (ofA g).n, _, _, _⟩ : Pcs) = _
    rw [hf]
    rfl
  have hd : ∀ y x : Int, Dn (16 * g.w) (16 * g.h) 0 y x ↔ ((0 ≤ y ∧ y < 16 * (g.h : Int)) ∧ 0 ≤ x ∧ x < 16 * (g.w : Int)) := fun y x => by unfold Dn; omega
  have hm : ∀ k, k < (ofA g).n → ∀ y x : Int, mem (Pcs.L (Gt.Q (ofA g)) k) y x = true ↔ ((0 ≤ y ∧ y < 16 * (g.h : Int)) ∧ 0 ≤ x ∧ x < 16 * (g.w : Int)) ∧ ck g.f (16 * g.w) y x = kOf ((ofA g).ink k) := fun k hk y x => by rw [J.m k hk, hd]
  have dist : ∀ i j, i < j → j < (ofA g).n → kOf ((ofA g).ink i) ≠ kOf ((ofA g).ink j) := fun i j hij hj he => by
    have h1 := J.val i (by omega)
    have h2 := J.val j hj
    rw [he, h2] at h1
    omega
  refine ⟨hf, ?_, ?_, ?_, ?_⟩
  · rw [hP]
    refine ⟨hw, hh, ⟨h.n4, Nat.le_trans h.tot (by omega), J.v, J.ne, dist, fun i j hij hj y x h1 h2 => ?_, J.ord⟩, J.nz, fun k r hk hr => ?_⟩
    · have a := ((hm i (by have : j < (ofA g).n := hj; omega) y x).1 h1).2
      have b := ((hm j hj y x).1 h2).2
      exact dist i j hij hj (a.symm.trans b)
    · have okr := ((J.v k hk).1 _ (L_mem (P := Gt.Q (ofA g)) hr)).2
      have a := ((hm k hk _ _).1 ((mem_iff _ _ _).2 ⟨_, L_mem (P := Gt.Q (ofA g)) hr, rfl, Int.le_refl _, okr⟩)).1
      have b := ((hm k hk _ (((Gt.Q (ofA g)).p k r).x1 - 1)).1 ((mem_iff _ _ _).2 ⟨_, L_mem (P := Gt.Q (ofA g)) hr, rfl, by omega, by omega⟩)).1
      exact ⟨a.1, a.2.1, by have := b.2.2; show ((Gt.Q (ofA g)).p k r).x1 ≤ 16 * (g.w : Int); omega⟩
  · rw [hP]; exact J.from'
  · rw [hP]; exact hm
  · rw [hP]; exact fun y x hin hz => J.cov y x ((hd y x).2 hin) hz
end Go.Proofs.Ytbkgncikjhibiaa.Ofl
