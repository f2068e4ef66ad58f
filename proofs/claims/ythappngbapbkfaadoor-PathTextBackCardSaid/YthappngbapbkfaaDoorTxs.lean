/- Numerals read back; words joined and split again: plain Lean. -/
import Derived.Test.YthappngbapbkfaaDoorTxn
import Derived.Lib.SplitLaws
set_option linter.unusedSimpArgs false
set_option linter.unusedVariables false
namespace Go.Proofs.YthappngbapbkfaaDoor.Txs
open Go.RowKit Sx Num Aff Con Cop Coh Pth Pmp Pte Txp Txa Txn
set_option maxRecDepth 100000
/-! Digits. -/
def valL : List UInt8 → Int → Int
  | [], a => a
  | b :: l, a => valL l (10 * a + ((b.toNat : Int) - 48))
theorem valL_app : ∀ (l : List UInt8) (b : UInt8) (a : Int), valL (l ++ [b]) a = 10 * valL l a + ((b.toNat : Int) - 48)
  | [], _, _ => rfl
  | c :: l, b, a => valL_app l b _
theorem byteAt_list (l : List UInt8) (i : Nat) : byteAt ⟨l.toArray⟩ i = ((l.getD i 0).toNat : Int) := by
  unfold byteAt
  rw [Array.getD_eq_getD_getElem?, List.getElem?_toArray, ← List.getD_eq_getElem?_getD]
theorem dvp_pre (l : List UInt8) (b : UInt8) : ∀ i, i ≤ l.length → dvp ⟨(l ++ [b]).toArray⟩ i = dvp ⟨l.toArray⟩ i
  | 0, _ => rfl
  | i + 1, hi => by
    show 10 * dvp _ i + (byteAt _ i - 48) = 10 * dvp _ i + (byteAt _ i - 48)
    rw [dvp_pre l b i (by omega), byteAt_list, byteAt_list, List.getD_eq_getElem?_getD, List.getD_eq_getElem?_getD, List.getElem?_append_left (by omega)]
theorem dvp_val : ∀ n (l : List UInt8), l.length = n → dvp ⟨l.toArray⟩ n = valL l 0
  | 0, l, h => by rw [List.length_eq_zero_iff.1 h]; rfl
  | n + 1, l, h => by
    obtain ⟨r, b, rfl⟩ : ∃ r b, l = r ++ [b] := ⟨l.dropLast, l.getLast (fun hc => by rw [hc] at h; cases h), (List.dropLast_concat_getLast _).symm⟩
    have hr : r.length = n := by simpa using h
    show 10 * dvp _ n + (byteAt _ n - 48) = _
    rw [dvp_pre r b n (by omega), dvp_val n r hr, valL_app, byteAt_list, List.getD_eq_getElem?_getD, List.getElem?_append_right (by omega), hr, Nat.sub_self]
    rfl
theorem dig_toNat {k : Nat} (h : k < 10) : (UInt8.ofNat (48 + k)).toNat = 48 + k := by
  rw [UInt8.toNat_ofNat']; omega
/-- The digits of u: its value, their range, the leading one. -/
theorem dec_all : ∀ u, valL (Lib.decDigits u) 0 = u ∧ (∀ b ∈ Lib.decDigits u, 48 ≤ b.toNat ∧ b.toNat ≤ 57) ∧ ∃ b r, Lib.decDigits u = b :: r ∧ (b.toNat = 48 → u = 0) := by
  intro u
  induction u using Nat.strongRecOn with
  | _ u ih =>
    by_cases hu : u < 10
    · have e : Lib.decDigits u = [UInt8.ofNat (48 + u)] := by rw [Lib.decDigits, dif_pos hu]
      rw [e]
      refine ⟨?_, fun b hb => ?_, _, _, rfl, fun h => ?_⟩
      · show 10 * (0 : Int) + (((UInt8.ofNat (48 + u)).toNat : Int) - 48) = u
        rw [dig_toNat hu]; omega
      · rw [List.mem_singleton.1 hb, dig_toNat hu]; omega
      · rw [dig_toNat hu] at h; omega
    · have e : Lib.decDigits u = Lib.decDigits (u / 10) ++ [UInt8.ofNat (48 + u % 10)] := by rw [Lib.decDigits, dif_neg hu]
      obtain ⟨h1, h2, b, r, h3, h4⟩ := ih (u / 10) (by omega)
      have hm : u % 10 < 10 := by omega
      refine ⟨?_, fun c hc => ?_, b, r ++ [UInt8.ofNat (48 + u % 10)], by rw [e, h3]; rfl, fun h => ?_⟩
      · rw [e, valL_app, h1, dig_toNat hm]; omega
      · rw [e] at hc
        rcases List.mem_append.1 hc with hc | hc
        · exact h2 c hc
        · rw [List.mem_singleton.1 hc, dig_toNat hm]; omega
      · have := h4 h; omega
theorem dgs_itb (x : Int) : dgs (itb x) = ⟨(Lib.decDigits x.natAbs).toArray⟩ ∧ neg (itb x) = decide (x < 0) := by
  obtain ⟨_, h2, b, r, h3, _⟩ := dec_all x.natAbs
  have hd : ∀ l : List UInt8, (⟨l.toArray⟩ : ByteArray).data.toList = l := fun l => by simp
  by_cases hx : x < 0
  · have e : Lib.itoa x = 45 :: Lib.decDigits x.natAbs := by unfold Lib.itoa; rw [if_pos hx]
    have hp : Lib.hasPrefix (Lib.itoa x) [45] = true := by rw [e]; simp [Lib.hasPrefix]
    constructor
    · show (⟨(Lib.trimPrefix (itb x).data.toList mns.data.toList).toArray⟩ : ByteArray) = _
      unfold itb
      rw [hd]
      show (⟨(Lib.trimPrefix (Lib.itoa x) [45]).toArray⟩ : ByteArray) = _
      unfold Lib.trimPrefix
      rw [if_pos hp, e]
      rfl
    · show Lib.hasPrefix (itb x).data.toList mns.data.toList = _
      unfold itb
      rw [hd, decide_eq_true hx]
      exact hp
  · have e : Lib.itoa x = Lib.decDigits x.natAbs := by unfold Lib.itoa; rw [if_neg hx, show x.toNat = x.natAbs by omega]
    have hb := h2 b (by rw [h3]; exact List.mem_cons_self)
    have hp : Lib.hasPrefix (Lib.itoa x) [45] = false := by
      rw [e, h3]
      have : (45 == b) = false := by
        rw [beq_eq_false_iff_ne]
        rintro rfl
        have : (45 : UInt8).toNat = 45 := rfl
        omega
      simp [Lib.hasPrefix, List.isPrefixOf, this]
    constructor
    · show (⟨(Lib.trimPrefix (itb x).data.toList mns.data.toList).toArray⟩ : ByteArray) = _
      unfold itb
      rw [hd]
      show (⟨(Lib.trimPrefix (Lib.itoa x) [45]).toArray⟩ : ByteArray) = _
      unfold Lib.trimPrefix
      rw [if_neg (by rw [hp]; decide), e]
    · show Lib.hasPrefix (itb x).data.toList mns.data.toList = _
      unfold itb
      rw [hd, decide_eq_false hx]
      exact hp
theorem numV_itb (x : Int) : numV (itb x) = x := by
  obtain ⟨e1, e2⟩ := dgs_itb x
  have hs : (⟨(Lib.decDigits x.natAbs).toArray⟩ : ByteArray).size = (Lib.decDigits x.natAbs).length := by
    show (Lib.decDigits x.natAbs).toArray.size = _
    simp
  have hv : dvp (dgs (itb x)) (dgs (itb x)).size = x.natAbs := by
    rw [e1, hs, dvp_val _ _ rfl, (dec_all x.natAbs).1]
  unfold numV
  rw [hv, e2]
  by_cases h : x < 0
  · rw [decide_eq_true h]; show 0 - (x.natAbs : Int) = x; omega
  · rw [decide_eq_false h]; show (x.natAbs : Int) = x; omega
theorem dig_itb {x : Int} (h : -99999 ≤ x ∧ x ≤ 99999) : Dig (itb x) := by
  obtain ⟨e1, e2⟩ := dgs_itb x
  obtain ⟨_, h2, b, r, h3, h4⟩ := dec_all x.natAbs
  have hs : (dgs (itb x)).size = (Lib.decDigits x.natAbs).length := by
    rw [e1]
    show (Lib.decDigits x.natAbs).toArray.size = _
    simp
  refine ⟨?_, fun i hi => ?_, fun h0 => ?_⟩
  · rw [hs, Lib.decDigits_length]
    exact ⟨Lib.nDigits_pos _, nd_le 4 _ (by omega)⟩
  · rw [e1, byteAt_list]
    rw [hs] at hi
    have := h2 ((Lib.decDigits x.natAbs).getD i 0) (by rw [List.getD_eq_getElem?_getD, List.getElem?_eq_getElem hi]; exact List.getElem_mem hi)
    omega
  · rw [e1, byteAt_list, h3] at h0
    have hz := h4 (by have : (((b :: r).getD 0 0).toNat : Int) = (b.toNat : Int) := rfl; omega)
    rw [e2, hs, hz]
    refine ⟨decide_eq_false (by omega), ?_⟩
    rw [Lib.decDigits_length, Lib.nDigits_small (by decide)]
/-! Equal texts. -/
theorem loopE (s : ByteArray) : ∀ (n i : Nat) (r : List UInt8), n + i = s.size → ByteArray.toList.loop s i r = r.reverse ++ s.data.toList.drop i := by
  intro n
  induction n with
  | zero =>
    intro i r h
    unfold ByteArray.toList.loop
    rw [if_neg (by omega), List.drop_eq_nil_of_le (by rw [Array.length_toList]; show s.size ≤ i; omega), List.append_nil]
  | succ n ih =>
    intro i r h
    have hi : i < s.size := by omega
    unfold ByteArray.toList.loop
    rw [if_pos hi, ih (i + 1) _ (by omega)]
    have hi' : i < s.data.toList.length := by rw [Array.length_toList]; exact hi
    have e : s.get! i = s.data.toList[i] := by
      show s.data[i]! = _
      rw [getElem!_pos s.data i hi]; simp
    rw [e, List.reverse_cons, List.append_assoc, List.drop_eq_getElem_cons hi']
    rfl
theorem toListE (s : ByteArray) : s.toList = s.data.toList := by
  unfold ByteArray.toList
  rw [loopE s s.size 0 [] (by omega)]
  rfl
theorem beqS (a b : ByteArray) : ((a.toList == b.toList) = true ↔ a = b) ∧ ((a.toList == b.toList) = false ↔ ¬ a = b) := by
  have e : a.toList = b.toList ↔ a = b := by
    rw [toListE, toListE]
    constructor
    · intro h
      obtain ⟨⟨x⟩⟩ := a
      obtain ⟨⟨y⟩⟩ := b
      have : x = y := h
      rw [this]
    · rintro rfl; rfl
  exact ⟨by rw [beq_iff_eq]; exact e, by rw [beq_eq_false_iff_ne, Ne, e]⟩
/-! Words. -/
def no32 (l : List UInt8) : Prop := ∀ b ∈ l, b ≠ 32
theorem index_app : ∀ (l t : List UInt8), no32 l → Lib.index (l ++ 32 :: t) [32] = l.length := by
  intro l t h
  rw [Lib.index_one]
  induction l with
  | nil => rfl
  | cons b l ih =>
    have hb : (b == 32) = false := by rw [beq_eq_false_iff_ne]; exact h b List.mem_cons_self
    have := ih fun c hc => h c (List.mem_cons_of_mem _ hc)
    show (if b == 32 then 0 else if Lib.indexByte (l ++ 32 :: t) 32 == -1 then -1 else Lib.indexByte (l ++ 32 :: t) 32 + 1) = _
    rw [hb, this]
    have hne : (((l.length : Nat) : Int) == -1) = false := by rw [beq_eq_false_iff_ne]; omega
    rw [hne, List.length_cons]
    rfl
theorem join_two (w v : List UInt8) (r : List (List UInt8)) : Lib.join (w :: v :: r) [32] = w ++ 32 :: Lib.join (v :: r) [32] := by
  rw [Lib.join_cons, Lib.join_cons]
  simp [Lib.joinTail]
theorem split_join : ∀ (L : List (List UInt8)), L ≠ [] → (∀ w ∈ L, no32 w) → Lib.splitK [32] 0 (L.length - 1) (Lib.join L [32]) = L
  | [], h, _ => absurd rfl h
  | [w], _, _ => by rw [Lib.join_one]; rfl
  | w :: v :: r, _, h => by
    have hi := index_app w (Lib.join (v :: r) [32]) (h w List.mem_cons_self)
    have ih := split_join (v :: r) (by simp) fun u hu => h u (List.mem_cons_of_mem _ hu)
    rw [join_two]
    show Lib.splitK [32] 0 (r.length + 1) _ = _
    unfold Lib.splitK
    have hne : (Lib.index (w ++ 32 :: Lib.join (v :: r) [32]) [32] == -1) = false := by rw [hi, beq_eq_false_iff_ne]; omega
    rw [hne, hi]
    have e1 : (w ++ 32 :: Lib.join (v :: r) [32]).take (((w.length : Nat) : Int).toNat + 0) = w := by simp
    have e2 : (w ++ 32 :: Lib.join (v :: r) [32]).drop (((w.length : Nat) : Int).toNat + [(32 : UInt8)].length) = Lib.join (v :: r) [32] := by
      have e3 : w ++ 32 :: Lib.join (v :: r) [32] = (w ++ [32]) ++ Lib.join (v :: r) [32] := by simp
      rw [Int.toNat_natCast, e3]
      have e4 : w.length + [(32 : UInt8)].length = (w ++ [32]).length := by simp
      rw [e4, List.drop_left]
    simp only [Bool.false_eq_true, if_false]
    rw [e1, e2]
    exact congrArg (w :: ·) ih
theorem count_no {l : List UInt8} (h : no32 l) : l.count 32 = 0 := List.count_eq_zero.2 fun hc => h 32 hc rfl
theorem count_join : ∀ (L : List (List UInt8)), L ≠ [] → (∀ w ∈ L, no32 w) → (Lib.join L [32]).count 32 = L.length - 1
  | [], h, _ => absurd rfl h
  | [w], _, h => by rw [Lib.join_one, count_no (h w List.mem_cons_self)]; rfl
  | w :: v :: r, _, h => by
    have ih := count_join (v :: r) (by simp) fun u hu => h u (List.mem_cons_of_mem _ hu)
    rw [join_two, List.count_append, count_no (h w List.mem_cons_self), List.count_cons_self, ih]
    simp
theorem no32_lit (b : UInt8) (h : b ≠ 32) : no32 (⟨#[b]⟩ : ByteArray).data.toList := fun c hc => by
  have : c = b := by simpa using hc
  rw [this]; exact h
theorem no32_itb (x : Int) : no32 (itb x).data.toList := fun c hc => by
  have hc : c ∈ Lib.itoa x := by simpa [itb] using hc
  have h48 : ∀ u, ∀ b ∈ Lib.decDigits u, b ≠ 32 := fun u b hb h => by
    have := (dec_all u).2.1 b hb
    rw [h] at this
    have e : (32 : UInt8).toNat = 32 := rfl
    omega
  unfold Lib.itoa at hc
  split at hc
  · rcases List.mem_cons.1 hc with rfl | hc
    · decide
    · exact h48 _ c hc
  · exact h48 _ c hc
theorem no32_seg (s : Seg) : ∀ w ∈ segW s, no32 w.data.toList := by
  intro w hw
  unfold segW at hw
  split at hw
  · simp only [List.mem_cons, List.not_mem_nil, or_false] at hw
    rcases hw with rfl | rfl | rfl
    · exact no32_lit _ (by decide)
    · exact no32_itb _
    · exact no32_itb _
  · split at hw
    · simp only [List.mem_cons, List.not_mem_nil, or_false] at hw
      rcases hw with rfl | rfl | rfl
      · exact no32_lit _ (by decide)
      · exact no32_itb _
      · exact no32_itb _
    · split at hw
      · simp only [List.mem_cons, List.not_mem_nil, or_false] at hw
        rcases hw with rfl | rfl | rfl | rfl | rfl | rfl
        · exact no32_lit _ (by decide)
        all_goals exact no32_itb _
      · split at hw
        · simp only [List.mem_cons, List.not_mem_nil, or_false] at hw
          rw [hw]; exact no32_lit _ (by decide)
        · cases hw
theorem no32_wl (p : Pth) : ∀ k, ∀ w ∈ wl p k, no32 w.data.toList
  | 0, w, hw => by cases hw
  | k + 1, w, hw => by
    rcases List.mem_append.1 (show w ∈ wl p k ++ segW (p.f k) from hw) with hw | hw
    · exact no32_wl p k w hw
    · exact no32_seg _ w hw
theorem data_inj : ∀ L M : List ByteArray, L.map (·.data.toList) = M.map (·.data.toList) → L = M
  | [], [], _ => rfl
  | [], _ :: _, h => by cases h
  | _ :: _, [], h => by cases h
  | w :: L, v :: M, h => by
    simp only [List.map_cons, List.cons.injEq] at h
    have e : w = v := by
      obtain ⟨⟨a⟩⟩ := w
      obtain ⟨⟨b⟩⟩ := v
      have : a = b := h.1
      rw [this]
    rw [e, data_inj L M h.2]
/-- A path's text, split at the blanks: its words. -/
theorem wds_txt {p : Pth} (h : wl p p.n ≠ []) : wds (txt p) = wl p p.n := by
  have hL : (wl p p.n).map (·.data.toList) ≠ [] := fun hc => h (List.map_eq_nil_iff.1 hc)
  have hn : ∀ w ∈ (wl p p.n).map (·.data.toList), no32 w := fun w hw => by
    obtain ⟨v, hv, rfl⟩ := List.mem_map.1 hw
    exact no32_wl p p.n v hv
  have hd : (txt p).data.toList = Lib.join ((wl p p.n).map (·.data.toList)) [32] := by simp [txt]
  apply data_inj
  unfold wds
  rw [Lib.splitB_data]
  have hc : Lib.countB (txt p) spc = ((wl p p.n).map (·.data.toList)).length - 1 := by
    show Lib.count (txt p).data.toList [32] = _
    rw [Lib.count_one, hd]
    exact count_join _ hL hn
  rw [hc, hd]
  exact split_join _ hL hn
end Go.Proofs.YthappngbapbkfaaDoor.Txs
