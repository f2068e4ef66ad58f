/- The evaluation tells the truth: append; calls of functions by their specifications. -/
import Derived.Test.YtbmgclpgompjmaaDoorSxi
namespace Go.Proofs.YtbmgclpgompjmaaDoor.Sx
open Go.RowKit
theorem run_append_zero {P : Program} (w : World) (t ty e : TypeId) (i : TypeInfo) (ht : P.underlying t = some (.slice e)) (hi : P.info? e = some i) (a a' : Option Addr) (n cap c : Nat) (hn : n ≤ cap) :
    (Builtin.append_ #[t, t] ty #[.slice a n cap, .slice a' 0 c]).run P w = .ok (.slice a n cap) w := by
  have hf : (Builtin.firstCells i.size 0 (.slice a' 0 c)).run P w = .ok #[] w := by
    cases a' with
    | none => exact run_firstCells_none w _ _ _ _
    | some b => simp [Builtin.firstCells, loadCells, loadCellsFrom]
  cases a with
  | none => simp [Builtin.append_, run_underlying ht, sizeOf, typeInfo, hi, Builtin.lenOf, hf, hn]
  | some b => simp [Builtin.append_, run_underlying ht, sizeOf, typeInfo, hi, Builtin.lenOf, hf, storeCells, hn]
def newsOf (c : Array Value) (o m : Nat) : List Value := (List.range m).map fun q => c.getD (o + q) undef
theorem newsOf_len (c o m) : (newsOf c o m).length = m := by simp [newsOf]
theorem newsOf_getD {c : Array Value} {o m q : Nat} (h : q < m) : (newsOf c o m).getD q undef = c.getD (o + q) undef := by
  simp [newsOf, List.getD_eq_getElem?_getD, h]
theorem append_getD {xs ys : List Value} {q : Nat} : (xs ++ ys).getD q undef = if q < xs.length then xs.getD q undef else ys.getD (q - xs.length) undef := by
  simp only [List.getD_eq_getElem?_getD, List.getElem?_append]
  split <;> rfl
theorem appG_lt {len : Nat} {g h : Nat → Nat → SV} {i j : Nat} (hi : i < len) : appG len g h i j = g i j := by unfold appG; rw [selS_eq, decide_eq_true hi]; rfl
theorem appG_ge {len : Nat} {g h : Nat → Nat → SV} {i j : Nat} (hi : ¬ i < len) : appG len g h i j = h (i - len) j := by unfold appG; rw [selS_eq, decide_eq_false hi]; rfl
theorem cpyG_in {lo m : Nat} {g h : Nat → Nat → SV} {i j : Nat} (hi : lo ≤ i ∧ i < lo + m) : cpyG lo m g h i j = h (i - lo) j := by unfold cpyG; rw [selS_eq, decide_eq_true hi]; rfl
theorem cpyG_out {lo m : Nat} {g h : Nat → Nat → SV} {i j : Nat} (hi : ¬ (lo ≤ i ∧ i < lo + m)) : cpyG lo m g h i j = g i j := by unfold cpyG; rw [selS_eq, decide_eq_false hi]; rfl
/-- The content behind an append. -/
theorem app_content {w : World} {X : Nat → Prop} {len len2 n : Nat} {g h : Nat → Nat → SV} {xs news : List Value} (hx : xs.length = len * n)
    (h1 : ∀ i j, i < len → j < n → oneCell (xs.getD (i * n + j) undef) ∧ R w X E0 (g i j) (xs.getD (i * n + j) undef))
    (h2 : ∀ i j, i < len2 → j < n → oneCell (news.getD (i * n + j) undef) ∧ R w X E0 (h i j) (news.getD (i * n + j) undef)) :
    ∀ i j, i < len + len2 → j < n → oneCell ((xs ++ news).getD (i * n + j) undef) ∧ R w X E0 (appG len g h i j) ((xs ++ news).getD (i * n + j) undef) := by
  intro i j hi hj
  rw [append_getD, hx]
  by_cases hlt : i < len
  · rw [if_pos (mul_lt_of hlt hj), appG_lt hlt]
    exact h1 i j hlt hj
  · have hle : len * n ≤ i * n := Nat.mul_le_mul_right _ (by omega)
    rw [if_neg (by omega), appG_ge hlt, show i * n + j - len * n = (i - len) * n + j by rw [Nat.sub_mul]; omega]
    exact h2 (i - len) j (by omega) hj
theorem cells_add {w : World} {b o m : Nat} {c : Array Value} {T : TypeId} {fr : Nat × Nat} (hb : w.heap[b]? = some (.cells c T fr)) (hc : o + m ≤ c.size) :
    ∀ j u, (newsOf c o m)[j]? = some u → w.cell? ((⟨b, o, none⟩ : Addr).add j) = some u := by
  intro j u hj
  have hlt : j < m := by
    have := (List.getElem?_eq_some_iff.1 hj).1
    rwa [newsOf_len] at this
  rw [addr_add, cell_block hb (by omega)]
  rw [← hj, newsOf]
  simp [hlt]
theorem news_oneCell {c : Array Value} {o len n : Nat} (h : ∀ i j, i < len → j < n → oneCell (c.getD (o + i * n + j) undef)) (hn : 0 < n) : ∀ u ∈ newsOf c o (len * n), u.oneCell' = true := by
  intro u hu
  obtain ⟨q, hq, rfl⟩ := List.mem_map.1 hu
  have hlt := List.mem_range.1 hq
  have h1 : q / n < len := Nat.div_lt_of_lt_mul (by rwa [Nat.mul_comm] at hlt)
  have := h (q / n) (q % n) h1 (Nat.mod_lt _ hn)
  rwa [Nat.add_assoc, Nat.mul_comm (q / n) n, Nat.div_add_mod] at this
theorem news_content {w X} {c : Array Value} {o len n : Nat} {g : Nat → Nat → SV} (h : ∀ i j, i < len → j < n → oneCell (c.getD (o + i * n + j) undef) ∧ R w X E0 (g i j) (c.getD (o + i * n + j) undef)) :
    ∀ i j, i < len → j < n → oneCell ((newsOf c o (len * n)).getD (i * n + j) undef) ∧ R w X E0 (g i j) ((newsOf c o (len * n)).getD (i * n + j) undef) := by
  intro i j hi hj
  rw [newsOf_getD (mul_lt_of hi hj), ← Nat.add_assoc]
  exact h i j hi hj
/-- A slice that has come to lie in a new block. -/
theorem OwnsR.grown {w : World} {T n len cap : Nat} {xs rest : List Value} (hx : xs.length = len * n) (hr : rest.length = (cap - len) * n) (hlc : len ≤ cap) (h0 : 0 < len) (hm : cap ≤ maxLen) {cur : Array Value} (hcur : cur.toList = xs ++ rest) {b : Nat}
    (hb : w.heap[b]? = some (.cells cur T (0, 0))) : OwnsR w T n (.slice (some ⟨b, 0, none⟩) len cap) len xs := by
  obtain ⟨cap, rfl⟩ : ∃ c, cap = c + 1 := ⟨cap - 1, by omega⟩
  refine .inr ⟨b, cap, cur, rfl, hb, hlc, hm, ?_, ?_, hx⟩
  · rw [← Array.length_toList, hcur, List.length_append, hx, hr, ← Nat.add_mul]
    congr 1
    omega
  · rw [hcur, ← hx]
    exact List.take_left
/-- What append makes where the room does not do. -/
theorem grow_run {P : Program} {w : World} {t ty e : TypeId} {i : TypeInfo} {z : Value} (ht : P.underlying t = some (.slice e)) (hi : P.info? e = some i) (hz : i.zero = some z) (hzs : z.cells.size = i.size)
    {a : Option Addr} {sLen sCap len2 n b2 o2 c2 : Nat} {c : Array Value} {T : TypeId} {fr : Nat × Nat} (hin : i.size = n) (h0 : 0 < len2) (hg : sCap < sLen + len2) (olds : List Value) (hlo : olds.length = sLen * n)
    (holds : ∀ b, a = some b → ∀ j v, olds[j]? = some v → w.cell? (b.add j) = some v) (hnone : a = none → sLen = 0 ∧ sCap = 0)
    (hb : w.heap[b2]? = some (.cells c T fr)) (hc : o2 + len2 * n ≤ c.size) (hroom : room (sLen + len2) i.bytes) :
    ∃ cap cur, (Builtin.append_ #[t, t] ty #[.slice a sLen sCap, .slice (some ⟨b2, o2, none⟩) len2 c2]).run P w = .ok (.slice (some ⟨w.heap.size, 0, none⟩) (sLen + len2) cap) (w.drew.alloc (.cells cur e)) ∧
      sLen + len2 ≤ cap ∧ cap ≤ maxLen ∧ ∃ rest, cur.toList = (olds ++ newsOf c o2 (len2 * n)) ++ rest ∧ rest.length = (cap - (sLen + len2)) * n := by
  subst hin
  have h63 : sLen + len2 ≤ maxLen := hroom.1
  refine ⟨grownCap w (sLen + len2) sCap e, (olds ++ newsOf c o2 (len2 * i.size) ++ (Builtin.zeroCells z.cells (grownCap w (sLen + len2) sCap e - (sLen + len2))).toList).toArray, ?_, grownCap_ge _ _ _ _, grownCap_le_maxLen _ _ _ _ h63, _, rfl, ?_⟩
  · cases a with
    | some ad =>
      have hr := run_append_grow (P := P) w t ty e i z ht hi hz ad sLen sCap olds hlo (holds ad rfl) ⟨b2, o2, none⟩ len2 c2 (newsOf c o2 (len2 * i.size)) (newsOf_len _ _ _) (cells_add hb hc) hg
        (by have := hroom.1; omega) (growslice_fits hg hroom.2)
      rw [hr]
      congr 3
      apply Array.ext'
      simp
    | none =>
      obtain ⟨rfl, rfl⟩ := hnone rfl
      have ho : olds = [] := List.eq_nil_of_length_eq_zero (by simpa using hlo)
      subst ho
      have hr := run_append_nil (P := P) w t ty e i z ht hi hz ⟨b2, o2, none⟩ len2 c2 (newsOf c o2 (len2 * i.size)) (newsOf_len _ _ _) (cells_add hb hc) (by omega)
        (by have := hroom.1; omega) (by have := hroom.2; simp only [Nat.zero_add] at this; omega)
      simp only [Nat.zero_add] at hr ⊢
      rw [hr]
      congr 3
      apply Array.ext'
      simp
  · rw [Array.length_toList, size_zeroCells, hzs]
theorem evAppend_sound {P : Program} {w0 X0 H E w nm} (h : Rep w0 X0 H E w) {t ty : TypeId} {te : TypeId × Nat × Nat} (ht : tsl P t = some te) {z : List Value} (hz : tzero P te.1 = some z) {s x : SV} {v u : Value}
    (hs : R w (Xo X0 E H) E s v) (hx : R w (Xo X0 E H) E x u) {y : Yd} (hy : evAppend te H nm s x = some y) (hask : y.ask) (hf : Free H E nm y.eff) :
    ∃ r w', (Builtin.append_ #[t, t] ty #[v, u]).run P w = .ok r w' ∧ Goes w0 X0 H E w nm y.eff y.val r w' := by
  obtain ⟨i, q1, q2, q3, q4⟩ := tsl_spec ht
  obtain ⟨i', zv, z1, z2, z3, z4, z5⟩ := tzero_spec hz
  rw [q2] at z1
  cases z1
  unfold evAppend at hy
  cases hsrc : srcOf H x with
  | none => simp [hsrc] at hy
  | some q =>
    obtain ⟨len2, n2, g2⟩ := q
    simp only [hsrc] at hy
    obtain ⟨a2, c2, rfl, hcells⟩ := srcOf_sound h hx hsrc
    split at hy
    case isFalse => cases hy
    rename_i hcond
    obtain ⟨rfl, hpos⟩ := hcond
    cases hs with
    | cap0 =>
      rename_i a
      simp only [Option.some.injEq] at hy
      subst hy
      have hroom : room len2 te.2.2 := hask.out
      by_cases h0 : len2 = 0
      · subst h0
        refine ⟨_, w, run_append_zero w t ty te.1 i q1 q2 a a2 0 0 c2 (Nat.le_refl _), ?_⟩
        refine Goes.new (e := .slc 0 (.slice a 0 0)) h hf (Below.refl _ _) (fun b hb => by cases a <;> simp [holds] at hb) (fun hke hwi hle => ⟨rfl, [], .inl ⟨_, rfl, rfl, rfl⟩, fun i j hi => absurd hi (Nat.not_lt_zero _)⟩) fun X => .osl (Env.put_same _ _ _) ⟨_, _, _, rfl⟩
      · rcases hcells with hc0 | ⟨b2, o2, c, T, fr, rfl, hb2, hc2, hcont⟩
        · exact absurd hc0 h0
        obtain ⟨cap, cur, hrun, k1, k2, rest, k3, k4⟩ := grow_run (P := P) (ty := ty) (a := a) (sLen := 0) (sCap := 0) (c2 := c2) q1 q2 z2 z4 q3 (by omega) (by omega) [] (by simp) (by simp) (fun _ => ⟨rfl, rfl⟩) hb2 hc2 (by rw [q4, Nat.zero_add]; exact hroom)
        simp only [Nat.zero_add, List.nil_append] at hrun k1 k3 k4
        refine ⟨_, _, hrun, ?_⟩
        have hsz : cur.size = cap * te.2.1 := by
          rw [← Array.length_toList, k3, List.length_append, newsOf_len, k4, ← Nat.add_mul]
          congr 1
          omega
        refine Goes.row h hf k1 k2 hsz ((Below.refl _ _).drew) rfl fun i j hi hj => ?_
        have hlt := mul_lt_of (n := te.2.1) hi hj
        have hget : cur.getD (i * te.2.1 + j) undef = c.getD (o2 + i * te.2.1 + j) undef := by
          rw [← toList_getD, k3, append_getD, newsOf_len, if_pos hlt, newsOf_getD hlt, Nat.add_assoc]
        rw [hget]
        exact hcont i j hi hj
    | osl he hv =>
      rename_i k ver
      have hok := h.ok k _ he
      simp only at hy
      generalize hk : H.getD k .dead = so at hy hok
      cases so <;> simp only [reduceCtorEq] at hy
      rename_i ver' len n g T
      obtain ⟨⟨⟨rfl, rfl, rfl⟩, hnot⟩, rfl⟩ := ite_some hy
      obtain ⟨_, xs, hown, hcont1⟩ := hok
      have hroom : room (len + len2) te.2.2 := hask.out
      have hxl : xs.length = len * te.2.1 := by
        rcases hown with ⟨a, rfl, rfl, rfl⟩ | ⟨b, cap, cur, rfl, c1, c2', c3, c4, c5, c6⟩
        · simp
        · exact c6
      have hle : E.le (E.put k (.slc (ver + 1) v)) ∧ ∀ v', E.le (E.put k (.slc (ver + 1) v')) := by
        have : ∀ v', E.le (E.put k (.slc (ver + 1) v')) := by
          intro v'
          refine ⟨fun j b hj => ?_, fun j ver' v'' hj => ?_⟩
          · by_cases hjk : j = k
            · subst hjk; rw [he] at hj; cases hj
            · rw [Env.put_ne hjk]; exact hj
          · by_cases hjk : j = k
            · subst hjk
              rw [he] at hj
              cases hj
              exact ⟨_, _, Env.put_same _ _ _, Nat.le_succ _, fun hc => by omega⟩
            · exact ⟨_, _, by rw [Env.put_ne hjk]; exact hj, Nat.le_refl _, fun _ => rfl⟩
        exact ⟨this _, this⟩
      obtain ⟨_, hle⟩ := hle
      by_cases h0 : len2 = 0
      · subst h0
        -- nothing is added
        have hshape : ∃ a cap, v = .slice a len cap ∧ len ≤ cap := by
          rcases hown with ⟨a, rfl, rfl, rfl⟩ | ⟨b, cap, cur, rfl, c1, c2', _⟩
          · exact ⟨_, _, rfl, Nat.le_refl _⟩
          · exact ⟨_, _, rfl, c2'⟩
        obtain ⟨a, cap, rfl, hlc⟩ := hshape
        refine ⟨_, w, run_append_zero w t ty te.1 i q1 q2 a a2 len cap c2 hlc, ?_⟩
        refine Goes.set (e' := .slc (ver + 1) (.slice a len cap)) h he (hle _) (fun _ _ _ => rfl) rfl rfl rfl (Nat.le_refl _) (fun b hb => .inl ?_) (fun hke hwi => ⟨rfl, xs, hown, fun i' j hi hj => ?_⟩) fun X => .osl (Env.put_same _ _ _) ⟨_, _, _, rfl⟩
        · rw [hk, holds_row _ ver ver len te.2.1 (ver + 1) (ver + 1) (len + 0) te.2.1 g _ te.1 te.1]; exact hb
        · have hlt : i' < len := hi
          rw [appG_lt hlt]
          exact ⟨(hcont1 i' j hlt hj).1, (hcont1 i' j hlt hj).2.mono hke hwi (Env.le_refl _)⟩
      · rcases hcells with hc0 | ⟨b2, o2, c, T2, fr, rfl, hb2, hc2, hcont⟩
        · exact absurd hc0 h0
        have hnews := news_content (o := o2) hcont
        have grows : ∀ (a : Option Addr) (sCap : Nat), v = .slice a len sCap → sCap < len + len2 → (∀ b, a = some b → ∀ j u, xs[j]? = some u → w.cell? (b.add j) = some u) → (a = none → len = 0 ∧ sCap = 0) →
            ∃ r w', (Builtin.append_ #[t, t] ty #[v, .slice (some ⟨b2, o2, none⟩) len2 c2]).run P w = .ok r w' ∧ Goes w0 X0 H E w nm (.sets [(k, .row (ver + 1) (len + len2) te.2.1 (appG len g g2) te.1)]) (.osl k (ver + 1)) r w' := by
          intro a sCap hva hlt holds hnone
          subst hva
          obtain ⟨cap, cur, hrun, k1, k2, rest, k3, k4⟩ := grow_run (P := P) (ty := ty) (a := a) (sLen := len) (sCap := sCap) (c2 := c2) q1 q2 z2 z4 q3 (by omega) hlt xs hxl holds hnone hb2 hc2 (by rw [q4]; exact hroom)
          refine ⟨_, _, hrun, ?_⟩
          have hbel : Below w.heap.size w (w.drew.alloc (.cells cur te.1)) := ((Below.refl _ _).drew).alloc (Nat.le_refl _) _
          refine Goes.set (e' := .slc (ver + 1) (.slice (some ⟨w.heap.size, 0, none⟩) (len + len2) cap)) h he (hle _) (fun b hb _ => hbel.block b hb) rfl rfl rfl hbel.size (fun b hb => ?_) (fun hke hwi => ⟨rfl, xs ++ newsOf c o2 (len2 * te.2.1), ?_, fun i' j hi hj => ?_⟩)
            fun X => .osl (Env.put_same _ _ _) ⟨_, _, _, rfl⟩
          · cases cap with
            | zero => omega
            | succ cap => simp only [Sx.holds, Option.some.injEq] at hb; exact .inr (by omega)
          · exact OwnsR.grown (by rw [List.length_append, hxl, newsOf_len, ← Nat.add_mul]) k4 k1 (by omega) k2 k3 (heap_new' w.drew _)
          · have := app_content hxl hcont1 hnews i' j hi hj
            exact ⟨this.1, this.2.mono hke hwi (Env.le_refl _)⟩
        rcases hown with ⟨a, rfl, rfl, rfl⟩ | ⟨b, cap, cur, rfl, c1, c2', c3, c4, c5, c6⟩
        · exact grows a 0 rfl (by omega) (by simp) (fun _ => ⟨rfl, rfl⟩)
        · by_cases hroomy : len + len2 ≤ cap + 1
          · have hmul : len * te.2.1 + len2 * te.2.1 ≤ (cap + 1) * te.2.1 := by rw [← Nat.add_mul]; exact Nat.mul_le_mul_right _ hroomy
            have hfit : len * te.2.1 + (newsOf c o2 (len2 * te.2.1)).length ≤ cur.size := by rw [newsOf_len]; omega
            have hrun := run_append_room (P := P) w t ty te.1 i q1 q2 b len (cap + 1) cur c1 ⟨b2, o2, none⟩ len2 c2 (newsOf c o2 (len2 * te.2.1)) (by rw [newsOf_len, q3]) (cells_add hb2 hc2)
              (news_oneCell (fun i j hi hj => (hcont i j hi hj).1) hpos) hroomy (by rw [q3]; exact hfit)
            rw [q3] at hrun
            refine ⟨_, _, hrun, ?_⟩
            have hsz := splice_size cur (newsOf c o2 (len2 * te.2.1)) (len * te.2.1) hfit
            refine Goes.set (e' := .slc (ver + 1) (.slice (some ⟨b, 0, none⟩) (len + len2) (cap + 1))) h he (hle _) (fun b' hb' hne => setRow_other w b b' _ (fun hc => hne (by rw [hk, hc]; rfl))) rfl rfl rfl (by simp [World.setRow])
              (fun b' hb' => .inl (by rw [hk]; exact hb')) (fun hke hwi => ⟨rfl, xs ++ newsOf c o2 (len2 * te.2.1), .inr ⟨b, cap, _, rfl, setRow_heap w b cur _ te.1 _ c1, hroomy, c3, by rw [hsz]; exact c4, ?_, by rw [List.length_append, hxl, newsOf_len, ← Nat.add_mul]⟩, fun i' j hi hj => ?_⟩)
              fun X => .osl (Env.put_same _ _ _) ⟨_, _, _, rfl⟩
            · rw [c5, List.append_assoc]
              have hl : (xs ++ newsOf c o2 (len2 * te.2.1)).length = (len + len2) * te.2.1 := by rw [List.length_append, hxl, newsOf_len, ← Nat.add_mul]
              rw [← List.append_assoc, ← hl]
              exact List.take_left
            · have := app_content hxl hcont1 hnews i' j hi hj
              exact ⟨this.1, this.2.mono hke hwi (Env.le_refl _)⟩
          · refine grows (some ⟨b, 0, none⟩) (cap + 1) rfl (by omega) (fun b' hb' j u hj => ?_) (fun hc => by cases hc)
            cases hb'
            have hlt : j < len * te.2.1 := by
              have := (List.getElem?_eq_some_iff.1 hj).1
              omega
            have hmul : len * te.2.1 ≤ (cap + 1) * te.2.1 := Nat.mul_le_mul_right _ c2'
            rw [addr_add, Nat.zero_add, cell_of_row w b j cur te.1 _ c1]
            rw [← c5, List.getElem?_take, if_pos hlt, Array.getElem?_toList] at hj
            exact hj
    | oslOld he hl hv =>
      rename_i k ver ver' v'
      have hok := h.ok k _ he
      simp only at hy
      generalize H.getD k .dead = so at hy hok
      cases so <;> simp only [reduceCtorEq] at hy
      obtain ⟨⟨⟨rfl, _⟩, _⟩, _⟩ := ite_some hy
      have := hok.1
      omega
    | _ => simp at hy
theorem run_copy_zero {P : Program} (w : World) (dT sT ty e : TypeId) (i : TypeInfo) (ht : P.underlying dT = some (.slice e)) (hi : P.info? e = some i) (a a' : Option Addr) (n cap m c : Nat) (h0 : Nat.min m n = 0) :
    (Builtin.copy_ #[dT, sT] ty #[.slice a n cap, .slice a' m c]).run P w = .ok (.int .i64 (Nat.min m n : Nat)) w := by
  have hf : (Builtin.firstCells i.size 0 (.slice a' m c)).run P w = .ok #[] w := by
    cases a' with
    | none => exact run_firstCells_none w _ _ _ _
    | some b => simp [Builtin.firstCells, loadCells, loadCellsFrom]
  rw [h0]
  cases a with
  | none => simp [Builtin.copy_, run_underlying ht, sizeOf, typeInfo, hi, Builtin.lenOf, h0, hf, goInt]
  | some b => simp [Builtin.copy_, run_underlying ht, sizeOf, typeInfo, hi, Builtin.lenOf, h0, hf, storeCells, goInt]
theorem run_copyN {P : Program} (w : World) (dT sT ty e : TypeId) (i : TypeInfo) (ht : P.underlying dT = some (.slice e)) (hi : P.info? e = some i) (b o n cap m c : Nat) (a : Addr) (cur : Array Value) (T : TypeId) (cs : List Value)
    (hg : w.heap[b]? = some (.cells cur T (0, 0))) (hn : cs.length = Nat.min m n * i.size) (hsrc : ∀ j v, cs[j]? = some v → w.cell? (a.add j) = some v) (hfit : o + cs.length ≤ cur.size) (h1 : ∀ v ∈ cs, v.oneCell' = true) :
    (Builtin.copy_ #[dT, sT] ty #[.slice (some ⟨b, o, none⟩) n cap, .slice (some a) m c]).run P w = .ok (.int .i64 (Nat.min m n : Nat)) (w.setRow b (cur.toList.take o ++ cs ++ cur.toList.drop (o + cs.length)).toArray) := by
  have hl := run_loadCells_list (P := P) w a cs hsrc
  have hst := run_storeCells_at P b o T cs 0 cur w hg (by simpa using hfit) h1
  simp [Builtin.copy_, run_underlying ht, Builtin.lenOf, Builtin.firstCells, sizeOf, typeInfo, hi, ← hn, hl, hst, goInt]
theorem evCopy_sound {P : Program} {w0 X0 H E w nm} (h : Rep w0 X0 H E w) {t t' ty : TypeId} {te : TypeId × Nat × Nat} (ht : tsl P t = some te) {d x : SV} {v u : Value}
    (hd : R w (Xo X0 E H) E d v) (hx : R w (Xo X0 E H) E x u) {y : Yd} (hy : evCopy te H d x = some y) :
    ∃ r w', (Builtin.copy_ #[t, t'] ty #[v, u]).run P w = .ok r w' ∧ Goes w0 X0 H E w nm y.eff y.val r w' := by
  obtain ⟨i, q1, q2, q3, q4⟩ := tsl_spec ht
  unfold evCopy at hy
  cases hsrc : srcOf H x with
  | none => simp [hsrc] at hy
  | some q =>
    obtain ⟨len2, n2, g2⟩ := q
    simp only [hsrc] at hy
    obtain ⟨a2, c2, rfl, hcells⟩ := srcOf_sound h hx hsrc
    -- m elements to the place lo
    have go : ∀ {k ver len wl lo n : Nat} {g : Nat → Nat → SV} {T : TypeId} {a a0 : Option Addr} {cap0 : Nat}, E k = some (.slc ver (.slice a0 len cap0)) → H.getD k .dead = .row ver len n g T → n = n2 → n2 = te.2.1 → 0 < n2 → lo + wl ≤ len →
        (wl ≠ 0 → a = a0.map (·.add (lo * n))) → v = .slice a wl (cap0 - lo) → y = ⟨True, .int .i64 (Nat.min len2 wl : Nat), .sets [(k, .row ver len n (cpyG lo (Nat.min len2 wl) g g2) T)]⟩ →
        ∃ r w', (Builtin.copy_ #[t, t'] ty #[v, .slice a2 len2 c2]).run P w = .ok r w' ∧ Goes w0 X0 H E w nm y.eff y.val r w' := by
      intro k ver len wl lo n g T a a0 cap0 he hk hn hn2 hpos hlo ha hv hyy
      subst hyy
      subst hv
      subst hn
      have hok := h.ok k _ he
      rw [hk] at hok
      obtain ⟨_, xs, hown, hcont1⟩ := hok
      have hput : E.put k (.slc ver (.slice a0 len cap0)) = E := Env.put_self he
      by_cases h0 : Nat.min len2 wl = 0
      · refine ⟨_, w, run_copy_zero w t t' ty te.1 i q1 q2 a a2 wl _ len2 c2 h0, ?_⟩
        refine Goes.set (e' := .slc ver (.slice a0 len cap0)) h he (by rw [hput]; exact Env.le_refl _) (fun _ _ _ => rfl) rfl rfl rfl (Nat.le_refl _) (fun b hb => .inl ?_) (fun hke hwi => ⟨rfl, xs, hown, fun i' j hi hj => ?_⟩) fun X => .int
        · rw [hk, holds_row _ ver ver len n ver ver len n g _ T T]; exact hb
        · rw [cpyG_out (by omega)]
          rw [hput] at hwi ⊢
          exact ⟨(hcont1 i' j hi hj).1, (hcont1 i' j hi hj).2.mono hke hwi (Env.le_refl _)⟩
      · have hwl : wl ≠ 0 := fun hc => h0 (by rw [hc]; exact Nat.min_zero _)
        have hl2 : len2 ≠ 0 := fun hc => h0 (by rw [hc]; exact Nat.zero_min _)
        rcases hcells with hc0 | ⟨b2, o2, c, T2, fr, rfl, hb2, hc2, hcont⟩
        · exact absurd hc0 hl2
        rcases hown with ⟨a', hv', rfl, rfl⟩ | ⟨b, cap, cur, hv', c1, c2', c3, c4, c5, c6⟩
        · omega
        cases hv'
        have hadd : a = some ⟨b, 0 + lo * n, none⟩ := by rw [ha hwl, Option.map_some]; exact congrArg some (addr_add b 0 _)
        subst hadd
        rw [Nat.zero_add] at *
        generalize hm : Nat.min len2 wl = m at *
        have hml : m ≤ len2 := by rw [← hm]; exact Nat.min_le_left _ _
        have hmw : m ≤ wl := by rw [← hm]; exact Nat.min_le_right _ _
        have hm2 := Nat.mul_le_mul_right n hml
        have hm3 := Nat.mul_le_mul_right n (show lo + m ≤ cap + 1 by omega)
        rw [Nat.add_mul] at hm3
        have hfit : lo * n + (newsOf c o2 (m * n)).length ≤ cur.size := by rw [newsOf_len]; omega
        have hrun := run_copyN (P := P) w t t' ty te.1 i q1 q2 b (lo * n) wl (cap + 1 - lo) len2 c2 ⟨b2, o2, none⟩ cur T (newsOf c o2 (m * n)) c1 (by rw [newsOf_len, q3, hm, hn2]) (cells_add hb2 (by omega))
          hfit (news_oneCell (fun i j hi hj => (hcont i j (by omega) hj).1) hpos)
        rw [hm] at hrun
        refine ⟨_, _, hrun, ?_⟩
        have hsz := splice_size cur (newsOf c o2 (m * n)) (lo * n) hfit
        refine Goes.set (e' := .slc ver (.slice (some ⟨b, 0, none⟩) len (cap + 1))) h he (by rw [hput]; exact Env.le_refl _) (fun b' hb' hne => setRow_other w b b' _ (fun hc => hne (by rw [hk, hc]; rfl))) rfl rfl rfl (by simp [World.setRow])
          (fun b' hb' => .inl (by rw [hk]; exact hb')) (fun hke hwi => ?_) fun X => .int
        rw [hput] at hwi ⊢
        refine ⟨rfl, _, .inr ⟨b, cap, _, rfl, setRow_heap w b cur _ T _ c1, c2', c3, by rw [hsz]; exact c4, rfl, ?_⟩, fun i' j hi hj => ?_⟩
        · rw [List.length_take, Array.length_toList, hsz, c4]
          exact Nat.min_eq_left (Nat.mul_le_mul_right _ c2')
        · have hlt := mul_lt_of (n := n) hi hj
          have key := (splice_getD cur (newsOf c o2 (m * n)) (lo * n) (i' * n + j) hfit).trans
            (show _ = if lo * n ≤ i' * n + j ∧ i' * n + j < lo * n + m * n then (newsOf c o2 (m * n)).getD (i' * n + j - lo * n) undef else cur.getD (i' * n + j) undef by rw [newsOf_len])
          rw [list_getD_cur hlt, key]
          have hold : cur.getD (i' * n + j) undef = xs.getD (i' * n + j) undef := by subst c5; rw [list_getD_cur hlt]
          by_cases hin : lo ≤ i' ∧ i' < lo + m
          · have hlt2 := mul_lt_of (n := n) (show i' - lo < m by omega) hj
            have h1 : lo * n ≤ i' * n := Nat.mul_le_mul_right _ hin.1
            have h2 : (i' - lo) * n = i' * n - lo * n := Nat.sub_mul _ _ _
            rw [cpyG_in hin, if_pos (by omega), newsOf_getD (by omega), show o2 + (i' * n + j - lo * n) = o2 + (i' - lo) * n + j by omega]
            exact ⟨(hcont (i' - lo) j (by omega) hj).1, (hcont (i' - lo) j (by omega) hj).2.mono hke hwi (Env.le_refl _)⟩
          · have hne : ¬ (lo * n ≤ i' * n + j ∧ i' * n + j < lo * n + m * n) := by
              rcases Nat.lt_or_ge i' lo with hlt' | hge
              · have := mul_lt_of (n := n) hlt' hj
                omega
              · have : (lo + m) * n ≤ i' * n := Nat.mul_le_mul_right _ (by omega)
                rw [Nat.add_mul] at this
                omega
            rw [cpyG_out hin, if_neg hne, hold]
            exact ⟨(hcont1 i' j hi hj).1, (hcont1 i' j hi hj).2.mono hke hwi (Env.le_refl _)⟩
    cases hd with
    | osl he hv =>
      rename_i k ver
      have hok := h.ok k _ he
      simp only at hy
      generalize hk : H.getD k .dead = so at hy hok
      cases so <;> simp only [reduceCtorEq] at hy
      rename_i ver' len n g T
      obtain ⟨⟨⟨⟨rfl, rfl⟩, hn2, hpos⟩, hnot⟩, hyy⟩ := ite_some hy
      have hsh : ∃ a cap, v = .slice a len cap ∧ (len ≠ 0 → a = a.map (·.add (0 * n))) := by
        obtain ⟨_, xs, hown, _⟩ := hok
        rcases hown with ⟨a, rfl, rfl, rfl⟩ | ⟨b, cap, cur, rfl, c1, c2', _⟩
        · exact ⟨_, _, rfl, fun hc => absurd rfl hc⟩
        · exact ⟨_, _, rfl, fun _ => by rw [Option.map_some, addr_add, Nat.zero_mul]⟩
      obtain ⟨a, cap, rfl, ha⟩ := hsh
      exact go (lo := 0) he hk rfl hn2 hpos (by omega) ha rfl hyy.symm
    | oslOld he hl hv =>
      rename_i k ver ver' v'
      have hok := h.ok k _ he
      simp only at hy
      generalize H.getD k .dead = so at hy hok
      cases so <;> simp only [reduceCtorEq] at hy
      obtain ⟨⟨⟨⟨rfl, _⟩, _⟩, _⟩, _⟩ := ite_some hy
      have := hok.1
      omega
    | win he hl ha h0 =>
      rename_i k ver m lo wl a a0 len0 cap0
      have hok := h.ok k _ he
      simp only at hy
      generalize hk : H.getD k .dead = so at hy hok
      cases so <;> simp only [reduceCtorEq] at hy
      rename_i ver' len n g T
      obtain ⟨⟨⟨⟨rfl, rfl, rfl⟩, hn2, hpos⟩, hnot⟩, hyy⟩ := ite_some hy
      have hsh : len0 = len := by
        obtain ⟨_, xs, hown, _⟩ := hok
        rcases hown with ⟨a, hv', rfl, rfl⟩ | ⟨b, cap, cur, hv', _⟩ <;> cases hv' <;> rfl
      subst hsh
      exact go he hk rfl hn2 hpos hl ha rfl hyy.symm
    | winOld he hl hv =>
      rename_i k ver ver' v' m lo wl
      have hok := h.ok k _ he
      simp only at hy
      generalize H.getD k .dead = so at hy hok
      cases so <;> simp only [reduceCtorEq] at hy
      obtain ⟨⟨⟨⟨rfl, _⟩, _⟩, _⟩, _⟩ := ite_some hy
      have := hok.1
      omega
    | _ => simp at hy
end Go.Proofs.YtbmgclpgompjmaaDoor.Sx
