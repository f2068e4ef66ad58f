import Derived.Test.YthappngbapbkfaaDoorSxi
import Derived.OrdersIn
import Derived.TacticsIn
import Derived.LoopNIn
import Derived.Sort.LoopGhostIn
import Derived.RangeFuncCalls
import Derived.RangeFuncRecord
import Derived.MapKept
import Derived.ChangeKeysEq
/- The evaluation tells the truth: append; calls of functions by their specifications. -/
namespace Go.Proofs.YthappngbapbkfaaDoor.Sx
open Go.RowKit
theorem run_append_zero {P : Program} (w : World) (t ty e : TypeId) (i : TypeInfo) (ht : P.underlying t = some (.slice e)) (hi : P.info? e = some i) (a a' : Option Addr) (n cap c : Nat) (hn : n ≤ cap) :
    (Builtin.append_ #[t, t] ty #[.slice a n cap, .slice a' 0 c]).run P w = .ok (.slice a n cap) w := by
  have hf : (Builtin.firstCells i.size 0 (.slice a' 0 c)).run P w = .ok #[] w := by
    cases a' with
    | none => exact run_firstCells_none w _ _ _ _
    | some b => simp [Builtin.firstCells, loadCells, loadCellsFrom]
  cases a with
  | none => simp [Builtin.append_, run_underlying ht, sizeOf, typeInfo, hi, Builtin.lenOf, hf, hn]
  | some b => simp [Builtin.append_, run_underlying ht, sizeOf, typeInfo, hi, Builtin.lenOf, hf, storeCells, hn]
def newsOf (c : Array Value) (o m : Nat) : List Value := (List.range m).map fun q => c.getD (o + q) undef
theorem newsOf_len (c o m) : (newsOf c o m).length = m := by simp [newsOf]
theorem newsOf_getD {c : Array Value} {o m q : Nat} (h : q < m) : (newsOf c o m).getD q undef = c.getD (o + q) undef := by
  simp [newsOf, List.getD_eq_getElem?_getD, h]
theorem append_getD {xs ys : List Value} {q : Nat} : (xs ++ ys).getD q undef = if q < xs.length then xs.getD q undef else ys.getD (q - xs.length) undef := by
  simp only [List.getD_eq_getElem?_getD, List.getElem?_append]
  split <;> rfl
theorem appG_lt {len : Nat} {g h : Nat → Nat → SV} {i j : Nat} (hi : i < len) : appG len g h i j = g i j := by unfold appG; rw [selS_eq, decide_eq_true hi]; rfl
theorem appG_ge {len : Nat} {g h : Nat → Nat → SV} {i j : Nat} (hi : ¬ i < len) : appG len g h i j = h (i - len) j := by unfold appG; rw [selS_eq, decide_eq_false hi]; rfl
theorem cpyG_in {lo m : Nat} {g h : Nat → Nat → SV} {i j : Nat} (hi : lo ≤ i ∧ i < lo + m) : cpyG lo m g h i j = h (i - lo) j := by unfold cpyG; rw [selS_eq, decide_eq_true hi]; rfl
theorem cpyG_out {lo m : Nat} {g h : Nat → Nat → SV} {i j : Nat} (hi : ¬ (lo ≤ i ∧ i < lo + m)) : cpyG lo m g h i j = g i j := by unfold cpyG; rw [selS_eq, decide_eq_false hi]; rfl
/-- The content behind an append. -/
theorem app_content {w : World} {X : Nat → Prop} {len len2 n : Nat} {g h : Nat → Nat → SV} {xs news : List Value} (hx : xs.length = len * n)
    (h1 : ∀ i j, i < len → j < n → oneCell (xs.getD (i * n + j) undef) ∧ R w X E0 (g i j) (xs.getD (i * n + j) undef))
    (h2 : ∀ i j, i < len2 → j < n → oneCell (news.getD (i * n + j) undef) ∧ R w X E0 (h i j) (news.getD (i * n + j) undef)) :
    ∀ i j, i < len + len2 → j < n → oneCell ((xs ++ news).getD (i * n + j) undef) ∧ R w X E0 (appG len g h i j) ((xs ++ news).getD (i * n + j) undef) := by
  intro i j hi hj
  rw [append_getD, hx]
  by_cases hlt : i < len
  · rw [if_pos (mul_lt_of hlt hj), appG_lt hlt]
    exact h1 i j hlt hj
  · have hle : len * n ≤ i * n := Nat.mul_le_mul_right _ (by omega)
    rw [if_neg (by omega), appG_ge hlt, show i * n + j - len * n = (i - len) * n + j by rw [Nat.sub_mul]; omega]
    exact h2 (i - len) j (by omega) hj
theorem cells_add {w : World} {b o m : Nat} {c : Array Value} {T : TypeId} {fr : Nat × Nat} (hb : w.heap[b]? = some (.cells c T fr)) (hc : o + m ≤ c.size) :
    ∀ j u, (newsOf c o m)[j]? = some u → w.cell? ((⟨b, o, none⟩ : Addr).add j) = some u := by
  intro j u hj
  have hlt : j < m := by
    have := (List.getElem?_eq_some_iff.1 hj).1
    rwa [newsOf_len] at this
  rw [addr_add, cell_block hb (by omega)]
  rw [← hj, newsOf]
  simp [hlt]
theorem news_oneCell {c : Array Value} {o len n : Nat} (h : ∀ i j, i < len → j < n → oneCell (c.getD (o + i * n + j) undef)) (hn : 0 < n) : ∀ u ∈ newsOf c o (len * n), u.oneCell' = true := by
  intro u hu
  obtain ⟨q, hq, rfl⟩ := List.mem_map.1 hu
  have hlt := List.mem_range.1 hq
  have h1 : q / n < len := Nat.div_lt_of_lt_mul (by rwa [Nat.mul_comm] at hlt)
  have := h (q / n) (q % n) h1 (Nat.mod_lt _ hn)
  rwa [Nat.add_assoc, Nat.mul_comm (q / n) n, Nat.div_add_mod] at this
theorem news_content {w X} {c : Array Value} {o len n : Nat} {g : Nat → Nat → SV} (h : ∀ i j, i < len → j < n → oneCell (c.getD (o + i * n + j) undef) ∧ R w X E0 (g i j) (c.getD (o + i * n + j) undef)) :
    ∀ i j, i < len → j < n → oneCell ((newsOf c o (len * n)).getD (i * n + j) undef) ∧ R w X E0 (g i j) ((newsOf c o (len * n)).getD (i * n + j) undef) := by
  intro i j hi hj
  rw [newsOf_getD (mul_lt_of hi hj), ← Nat.add_assoc]
  exact h i j hi hj
/-- A slice that has come to lie in a new block. -/
theorem OwnsR.grown {w : World} {T n len cap : Nat} {xs rest : List Value} (hx : xs.length = len * n) (hr : rest.length = (cap - len) * n) (hlc : len ≤ cap) (h0 : 0 < len) (hm : cap ≤ maxLen) {cur : Array Value} (hcur : cur.toList = xs ++ rest) {b : Nat}
    (hb : w.heap[b]? = some (.cells cur T (0, 0))) : OwnsR w T n (.slice (some ⟨b, 0, none⟩) len cap) len xs := by
  obtain ⟨cap, rfl⟩ : ∃ c, cap = c + 1 := ⟨cap - 1, by omega⟩
  refine .inr ⟨b, cap, cur, rfl, hb, hlc, hm, ?_, ?_, hx⟩
  · rw [← Array.length_toList, hcur, List.length_append, hx, hr, ← Nat.add_mul]
    congr 1
    omega
  · rw [hcur, ← hx]
    exact List.take_left
/-- What append makes where the room does not do. -/
theorem grow_run {P : Program} {w : World} {t ty e : TypeId} {i : TypeInfo} {z : Value} (ht : P.underlying t = some (.slice e)) (hi : P.info? e = some i) (hz : i.zero = some z) (hzs : z.cells.size = i.size)
    {a : Option Addr} {sLen sCap len2 n b2 o2 c2 : Nat} {c : Array Value} {T : TypeId} {fr : Nat × Nat} (hin : i.size = n) (h0 : 0 < len2) (hg : sCap < sLen + len2) (olds : List Value) (hlo : olds.length = sLen * n)
    (holds : ∀ b, a = some b → ∀ j v, olds[j]? = some v → w.cell? (b.add j) = some v) (hnone : a = none → sLen = 0 ∧ sCap = 0)
    (hb : w.heap[b2]? = some (.cells c T fr)) (hc : o2 + len2 * n ≤ c.size) (hroom : room (sLen + len2) i.bytes) :
    ∃ cap cur, (Builtin.append_ #[t, t] ty #[.slice a sLen sCap, .slice (some ⟨b2, o2, none⟩) len2 c2]).run P w = .ok (.slice (some ⟨w.heap.size, 0, none⟩) (sLen + len2) cap) (w.drew.alloc (.cells cur e)) ∧
      sLen + len2 ≤ cap ∧ cap ≤ maxLen ∧ ∃ rest, cur.toList = (olds ++ newsOf c o2 (len2 * n)) ++ rest ∧ rest.length = (cap - (sLen + len2)) * n := by
  subst hin
  have h63 : sLen + len2 ≤ maxLen := hroom.1
  refine ⟨grownCap w (sLen + len2) sCap e, (olds ++ newsOf c o2 (len2 * i.size) ++ (Builtin.zeroCells z.cells (grownCap w (sLen + len2) sCap e - (sLen + len2))).toList).toArray, ?_, grownCap_ge _ _ _ _, grownCap_le_maxLen _ _ _ _ h63, _, rfl, ?_⟩
  · cases a with
    | some ad =>
      have hr := run_append_grow (P := P) w t ty e i z ht hi hz ad sLen sCap olds hlo (holds ad rfl) ⟨b2, o2, none⟩ len2 c2 (newsOf c o2 (len2 * i.size)) (newsOf_len _ _ _) (cells_add hb hc) hg
        (by have := hroom.1; omega) (growslice_fits hg hroom.2)
      rw [hr]
      congr 3
      apply Array.ext'
      simp
    | none =>
      obtain ⟨rfl, rfl⟩ := hnone rfl
      have ho : olds = [] := List.eq_nil_of_length_eq_zero (by simpa using hlo)
      subst ho
      have hr := run_append_nil (P := P) w t ty e i z ht hi hz ⟨b2, o2, none⟩ len2 c2 (newsOf c o2 (len2 * i.size)) (newsOf_len _ _ _) (cells_add hb hc) (by omega)
        (by have := hroom.1; omega) (by have := hroom.2; simp only [Nat.zero_add] at this; omega)
      simp only [Nat.zero_add] at hr ⊢
      rw [hr]
      congr 3
      apply Array.ext'
      simp
  · rw [Array.length_toList, size_zeroCells, hzs]
def rowV : SO → Option Nat
  | .deep ver _ _ _ _ _ _ _ _ _ => some ver
  | _ => none
theorem OwnsR.sliceX {w T n v len xs} (h : OwnsR w T n v len xs) : ∃ a a2 a3, v = .slice a a2 a3 := by
  rcases h with ⟨a, e1, _⟩ | ⟨b, cap, cur, e1, _⟩ <;> exact ⟨_, _, _, e1⟩
/-- What append does to an own slice. -/
theorem append_core {P : Program} {w : World} {t ty : TypeId} {te : TypeId × Nat × Nat} (ht : tsl P t = some te) {z : List Value} (hz : tzero P te.1 = some z) {v : Value} {len : Nat} {xs : List Value} (hown : OwnsR w te.1 te.2.1 v len xs) (hpos : 0 < te.2.1)
    {b2 o2 c2 len2 : Nat} {c : Array Value} {T2 : TypeId} {fr : Nat × Nat} (h0 : len2 ≠ 0) (hb2 : w.heap[b2]? = some (.cells c T2 fr)) (hc2 : o2 + len2 * te.2.1 ≤ c.size)
    (hone : ∀ i j, i < len2 → j < te.2.1 → oneCell (c.getD (o2 + i * te.2.1 + j) undef)) (hroom : room (len + len2) te.2.2) :
    ∃ r w', (Builtin.append_ #[t, t] ty #[v, .slice (some ⟨b2, o2, none⟩) len2 c2]).run P w = .ok r w' ∧ OwnsR w' te.1 te.2.1 r (len + len2) (xs ++ newsOf c o2 (len2 * te.2.1)) ∧ xs.length = len * te.2.1 ∧
      (∀ b, b < w.heap.size → blkOf v ≠ some b → w'.heap[b]? = w.heap[b]?) ∧ (w'.os = w.os ∧ w'.tape = w.tape ∧ w'.output = w.output ∧ w.heap.size ≤ w'.heap.size) ∧ ∀ b, blkOf r = some b → blkOf v = some b ∨ w.heap.size ≤ b := by
  obtain ⟨i, q1, q2, q3, q4⟩ := tsl_spec ht
  obtain ⟨i', zv, z1, z2, z3, z4, z5⟩ := tzero_spec hz
  rw [q2] at z1
  cases z1
  have hxl : xs.length = len * te.2.1 := by
    rcases hown with ⟨a, rfl, rfl, rfl⟩ | ⟨b, cap, cur, rfl, c1, c2', c3, c4, c5, c6⟩
    · simp
    · exact c6
  have grows : ∀ (a : Option Addr) (sCap : Nat), v = .slice a len sCap → sCap < len + len2 → (∀ b, a = some b → ∀ j u, xs[j]? = some u → w.cell? (b.add j) = some u) → (a = none → len = 0 ∧ sCap = 0) →
      ∃ r w', (Builtin.append_ #[t, t] ty #[v, .slice (some ⟨b2, o2, none⟩) len2 c2]).run P w = .ok r w' ∧ OwnsR w' te.1 te.2.1 r (len + len2) (xs ++ newsOf c o2 (len2 * te.2.1)) ∧ xs.length = len * te.2.1 ∧
        (∀ b, b < w.heap.size → blkOf v ≠ some b → w'.heap[b]? = w.heap[b]?) ∧ (w'.os = w.os ∧ w'.tape = w.tape ∧ w'.output = w.output ∧ w.heap.size ≤ w'.heap.size) ∧ ∀ b, blkOf r = some b → blkOf v = some b ∨ w.heap.size ≤ b := by
    intro a sCap hva hlt holds hnone
    subst hva
    obtain ⟨cap, cur, hrun, k1, k2, rest, k3, k4⟩ := grow_run (P := P) (ty := ty) (a := a) (sLen := len) (sCap := sCap) (c2 := c2) q1 q2 z2 z4 q3 (by omega) hlt xs hxl holds hnone hb2 hc2 (by rw [q4]; exact hroom)
    have hbel : Below w.heap.size w (w.drew.alloc (.cells cur te.1)) := ((Below.refl _ _).drew).alloc (Nat.le_refl _) _
    refine ⟨_, _, hrun, OwnsR.grown (by rw [List.length_append, hxl, newsOf_len, ← Nat.add_mul]) k4 k1 (by omega) k2 k3 (heap_new' w.drew _), hxl, fun b hb _ => hbel.block b hb, ⟨rfl, rfl, rfl, hbel.size⟩, fun b hb => ?_⟩
    cases cap with
    | zero => omega
    | succ cap => simp only [blkOf, Option.some.injEq] at hb; exact .inr (by omega)
  rcases hown with ⟨a, rfl, rfl, rfl⟩ | ⟨b, cap, cur, rfl, c1, c2', c3, c4, c5, c6⟩
  · exact grows a 0 rfl (by omega) (by simp) (fun _ => ⟨rfl, rfl⟩)
  · by_cases hroomy : len + len2 ≤ cap + 1
    · have hmul : len * te.2.1 + len2 * te.2.1 ≤ (cap + 1) * te.2.1 := by rw [← Nat.add_mul]; exact Nat.mul_le_mul_right _ hroomy
      have hfit : len * te.2.1 + (newsOf c o2 (len2 * te.2.1)).length ≤ cur.size := by rw [newsOf_len]; omega
      have hrun := run_append_room (P := P) w t ty te.1 i q1 q2 b len (cap + 1) cur c1 ⟨b2, o2, none⟩ len2 c2 (newsOf c o2 (len2 * te.2.1)) (by rw [newsOf_len, q3]) (cells_add hb2 hc2)
        (news_oneCell hone hpos) hroomy (by rw [q3]; exact hfit)
      rw [q3] at hrun
      have hsz := splice_size cur (newsOf c o2 (len2 * te.2.1)) (len * te.2.1) hfit
      refine ⟨_, _, hrun, .inr ⟨b, cap, _, rfl, setRow_heap w b cur _ te.1 _ c1, hroomy, c3, by rw [hsz]; exact c4, ?_, by rw [List.length_append, hxl, newsOf_len, ← Nat.add_mul]⟩, hxl, fun b' hb' hne => setRow_other w b b' _ (fun hc => hne (by rw [hc]; rfl)), ⟨rfl, rfl, rfl, by simp [World.setRow]⟩, fun b' hb' => .inl hb'⟩
      rw [c5, List.append_assoc]
      have hl : (xs ++ newsOf c o2 (len2 * te.2.1)).length = (len + len2) * te.2.1 := by rw [List.length_append, hxl, newsOf_len, ← Nat.add_mul]
      rw [← List.append_assoc, ← hl]
      exact List.take_left
    · refine grows (some ⟨b, 0, none⟩) (cap + 1) rfl (by omega) (fun b' hb' j u hj => ?_) (fun hc => by cases hc)
      cases hb'
      have hlt : j < len * te.2.1 := by
        have := (List.getElem?_eq_some_iff.1 hj).1
        omega
      have hmul : len * te.2.1 ≤ (cap + 1) * te.2.1 := Nat.mul_le_mul_right _ c2'
      rw [addr_add, Nat.zero_add, cell_of_row w b j cur te.1 _ c1]
      rw [← c5, List.getElem?_take, if_pos hlt, Array.getElem?_toList] at hj
      exact hj
theorem le_ver {E : Env} {k ver : Nat} {v : Value} {us : Nat → Option Nat} (he : E k = some (.slc ver v us)) (v' : Value) (us' : Nat → Option Nat) : E.le (E.put k (.slc (ver + 1) v' us')) := by
  refine ⟨fun j b hj => ?_, fun j ver' v'' us'' hj => ?_⟩
  · by_cases hjk : j = k
    · subst hjk; rw [he] at hj; cases hj
    · rw [Env.put_ne hjk]; exact hj
  · by_cases hjk : j = k
    · subst hjk
      rw [he] at hj
      cases hj
      exact ⟨_, _, _, Env.put_same _ _ _, Nat.le_succ _, fun hc => by omega⟩
    · exact ⟨_, _, _, by rw [Env.put_ne hjk]; exact hj, Nat.le_refl _, fun _ => rfl⟩
theorem evAppendD_sound {P : Program} {w0 X0 H E w nm} (h : Rep w0 X0 H E w) {t ty : TypeId} {te : TypeId × Nat × Nat} (ht : tsl P t = some te) {z : List Value} (hz : tzero P te.1 = some z) {s x : SV} {v u : Value}
    (hs : R w (Xo X0 E H) E s v) (hx : R w (Xo X0 E H) E x u) {y : Yd} (hy : evAppendD te H s x = some y) (hask : y.ask) :
    ∃ r w', (Builtin.append_ #[t, t] ty #[v, u]).run P w = .ok r w' ∧ Goes w0 X0 H E w nm y.eff y.val r w' := by
  unfold evAppendD at hy
  split at hy
  case h_2 => cases hy
  rename_i k ver
  split at hy
  case h_2 => cases hy
  rename_i k2 ver2
  split at hy
  case h_2 => cases hy
  rename_i ver' len n c m p g T T' ho hk
  split at hy
  case h_2 => cases hy
  rename_i ver2' len2 n2 cc mm pp g2 TT TT' ho2 hk2
  split at hy
  case h_2 => cases hy
  split at hy
  case h_2 => cases hy
  rename_i h2 sv
  obtain ⟨⟨⟨⟨rfl, rfl⟩, rfl, hn, rfl⟩, rfl, rfl⟩, rfl⟩ := ite_some hy
  have own : ∀ {k ver : Nat} {v : Value} {so : SO}, rowV so = some ver → H.getD k .dead = so → R w (Xo X0 E H) E (.osl k ver) v → ∃ us, E k = some (.slc ver v us) := by
    intro k ver v so hv hso hr
    cases hr with
    | osl he _ => exact ⟨_, he⟩
    | oslOld he hl _ =>
      have hok := h.ok k _ he
      rw [hso] at hok
      cases so <;> simp only [rowV, reduceCtorEq, Option.some.injEq] at hv
      have := hok.1
      omega
  obtain ⟨us, he⟩ := own rfl hk hs
  obtain ⟨us2, he2⟩ := own rfl hk2 hx
  have hok := h.ok k _ he
  have hok2 := h.ok k2 _ he2
  rw [hk] at hok
  rw [hk2] at hok2
  obtain ⟨_, xs, d⟩ := hok
  obtain ⟨_, xs2, d2⟩ := hok2
  subst hn
  have hroom : room (len + 1) te.2.2 := hask.out
  rcases d2.own with ⟨a, _, hz, _⟩ | ⟨b2, cap2, cur, rfl, e1, e2, e3, e4, e5, e6⟩
  · cases hz
  have hxs2 : ∀ j, j < te.2.1 → cur.getD (0 + 0 * te.2.1 + j) undef = xs2.getD j undef := fun j hj => by
    rw [← e5, list_getD_cur (by omega)]; simp
  have hcell : ∀ j, j < te.2.1 → oneCell (xs2.getD j undef) := fun j hj => by
    cases j with
    | zero => have := d2.out 0 sv (by omega) (by simp [hoAt]); rw [Nat.zero_mul] at this; exact this.1
    | succ j => have := d2.rest 0 (j + 1) (by omega) (Nat.succ_pos _) hj; rw [Nat.zero_mul, Nat.zero_add] at this; exact this.1
  have hc4 : 1 * te.2.1 ≤ (cap2 + 1) * te.2.1 := Nat.mul_le_mul_right _ e2
  obtain ⟨r, w', hrun, hown, hxl, hblk, ⟨w1, w2, w3, w4⟩, hb'⟩ := append_core (P := P) (ty := ty) (c2 := cap2 + 1) ht hz d.own d.pos (len2 := 1) (o2 := 0) (by omega) e1 (by omega) (fun i j hi hj => by
    obtain rfl : i = 0 := by omega
    rw [hxs2 j hj]
    exact hcell j hj) hroom
  refine ⟨r, w', hrun, ?_⟩
  have hin : ∀ i b, i < len → us i = some b → blkOf v ≠ some b ∧ b < w.heap.size := fun i b hi hb => by
    obtain ⟨g1, ys, g2, _⟩ := d.inn i hi rfl
    exact ⟨d.apart i b hi rfl hb, g2.lt (g1.trans hb)⟩
  refine Goes.set (e' := .slc (ver + 1) r us) h he (le_ver he r us) (fun b hb hne => hblk b hb fun hc => hne (by rw [hk]; exact .inl hc)) w1 w2 w3 w4 (fun b hb => ?_) (fun hke hwi => ?_) fun X => .osl (Env.put_same _ _ _) hown.sliceX
  · rcases hb with hb | ⟨i, hi, hh, hb⟩
    · rcases hb' b hb with hc | hc
      · exact .inl (by rw [hk]; exact .inl hc)
      · exact .inr hc
    · have hne : len ≠ i := fun hc => by simp [hoAt, hc] at hh
      exact .inl (by rw [hk]; exact .inr ⟨i, by omega, rfl, hb⟩)
  · have hle := le_ver he r us
    have getO : ∀ i j, i < len → j < te.2.1 → (xs ++ newsOf cur 0 (1 * te.2.1)).getD (i * te.2.1 + j) undef = xs.getD (i * te.2.1 + j) undef := fun i j hi hj => by
      rw [append_getD, hxl, if_pos (mul_lt_of hi hj)]
    have getN : ∀ j, j < te.2.1 → (xs ++ newsOf cur 0 (1 * te.2.1)).getD (len * te.2.1 + j) undef = xs2.getD j undef := fun j hj => by
      rw [append_getD, hxl, if_neg (by omega), show len * te.2.1 + j - len * te.2.1 = j by omega, newsOf_getD (by omega)]
      simpa using hxs2 j hj
    refine ⟨rfl, _, d.pos, hown, fun i j hi h0 hj => ?_, fun i sv' hi hh => ?_, fun i hi hh => ?_, fun i b hi hh hb => ?_, fun i i' b hi hi' hh hh' hb hb2 => ?_⟩
    · by_cases hlt : i < len
      · rw [appG_lt hlt, getO i j hlt hj]
        exact ⟨(d.rest i j hlt h0 hj).1, (d.rest i j hlt h0 hj).2.mono hke hwi (Env.le_refl _)⟩
      · obtain rfl : i = len := by omega
        rw [appG_ge hlt, Nat.sub_self, getN j hj]
        have := d2.rest 0 j (by omega) h0 hj
        rw [Nat.zero_mul, Nat.zero_add] at this
        exact ⟨this.1, this.2.mono hke hwi (Env.le_refl _)⟩
    · have hh2 : (if len = i then some sv else none) = some sv' := hh
      obtain ⟨rfl, rfl⟩ := ite_some hh2
      have := getN 0 d.pos
      rw [Nat.add_zero] at this
      rw [this]
      have := d2.out 0 sv (by omega) (by simp [hoAt])
      rw [Nat.zero_mul] at this
      exact ⟨this.1, this.2.mono hke hwi hle⟩
    · have hne : len ≠ i := fun hc => by simp [hoAt, hc] at hh
      have hlt : i < len := by omega
      have h3 := getO i 0 hlt d.pos
      rw [Nat.add_zero] at h3
      rw [h3]
      obtain ⟨g1, ys, g2, g3⟩ := d.inn i hlt rfl
      refine ⟨g1, ys, g2.mono fun b ⟨a, mm, c, q1, q2⟩ => ?_, fun i' j hi' hj => ⟨(g3 i' j hi' hj).1, (g3 i' j hi' hj).2.mono hke hwi (Env.le_refl _)⟩⟩
      rw [q1] at g1
      subst q2
      have := hin i a.block hlt g1.symm
      exact hblk _ this.2 this.1
    · have hne : len ≠ i := fun hc => by simp [hoAt, hc] at hh
      have := hin i b (by omega) hb
      exact fun hc => by
        rcases hb' b hc with hd | hd
        · exact this.1 hd
        · omega
    · have hne : len ≠ i := fun hc => by simp [hoAt, hc] at hh
      have hne' : len ≠ i' := fun hc => by simp [hoAt, hc] at hh'
      exact d.inj i i' b (by omega) (by omega) rfl rfl hb hb2
/-- A pure element is added to a deep slice: it comes in as taken out. -/
theorem evAppendP_sound {P : Program} {w0 X0 H E w nm} (h : Rep w0 X0 H E w) {t ty : TypeId} {te : TypeId × Nat × Nat} (ht : tsl P t = some te) {z : List Value} (hz : tzero P te.1 = some z) {v : Value} {k ver : Nat} {us : Nat → Option Nat}
    (he : E k = some (.slc ver v us)) {len c : Nat} {m : Nat → Nat} {p : Nat → Nat → Nat → SV} {g : Nat → Nat → SV} {T' : TypeId} (hk : H.getD k .dead = .deep ver len te.2.1 c m p g te.1 T' none)
    {b2 o2 c2 : Nat} {cur : Array Value} {T2 : TypeId} {fr : Nat × Nat} {g2 : Nat → Nat → SV} (hb2 : w.heap[b2]? = some (.cells cur T2 fr)) (hc2 : o2 + 1 * te.2.1 ≤ cur.size)
    (hcont : ∀ i j, i < 1 → j < te.2.1 → oneCell (cur.getD (o2 + i * te.2.1 + j) undef) ∧ R w (Xo X0 E H) E0 (g2 i j) (cur.getD (o2 + i * te.2.1 + j) undef)) (hroom : room (len + 1) te.2.2) :
    ∃ r w', (Builtin.append_ #[t, t] ty #[v, .slice (some ⟨b2, o2, none⟩) 1 c2]).run P w = .ok r w' ∧
      Goes w0 X0 H E w nm (.sets [(k, .deep (ver + 1) (len + 1) te.2.1 c m p (appG len g g2) te.1 T' (some (len, g2 0 0)))]) (.osl k (ver + 1)) r w' := by
  have hok := h.ok k _ he
  rw [hk] at hok
  obtain ⟨_, xs, d⟩ := hok
  have hone : ∀ j, j < te.2.1 → oneCell (cur.getD (o2 + j) undef) ∧ R w (Xo X0 E H) E0 (g2 0 j) (cur.getD (o2 + j) undef) := fun j hj => by
    have := hcont 0 j (by omega) hj
    rw [Nat.zero_mul, Nat.add_zero] at this
    exact this
  obtain ⟨r, w', hrun, hown, hxl, hblk, ⟨w1, w2, w3, w4⟩, hb'⟩ := append_core (P := P) (ty := ty) (c2 := c2) ht hz d.own d.pos (len2 := 1) (o2 := o2) (by omega) hb2 hc2 (fun i j hi hj => (hcont i j hi hj).1) hroom
  refine ⟨r, w', hrun, ?_⟩
  have hin : ∀ i b, i < len → us i = some b → blkOf v ≠ some b ∧ b < w.heap.size := fun i b hi hb => by
    obtain ⟨g1, ys, g2, _⟩ := d.inn i hi rfl
    exact ⟨d.apart i b hi rfl hb, g2.lt (g1.trans hb)⟩
  refine Goes.set (e' := .slc (ver + 1) r us) h he (le_ver he r us) (fun b hb hne => hblk b hb fun hc => hne (by rw [hk]; exact .inl hc)) w1 w2 w3 w4 (fun b hb => ?_) (fun hke hwi => ?_) fun X => .osl (Env.put_same _ _ _) hown.sliceX
  · rcases hb with hb | ⟨i, hi, hh, hb⟩
    · rcases hb' b hb with hc | hc
      · exact .inl (by rw [hk]; exact .inl hc)
      · exact .inr hc
    · have hne : len ≠ i := fun hc => by simp [hoAt, hc] at hh
      exact .inl (by rw [hk]; exact .inr ⟨i, by omega, rfl, hb⟩)
  · have hle := le_ver he r us
    have getO : ∀ i j, i < len → j < te.2.1 → (xs ++ newsOf cur o2 (1 * te.2.1)).getD (i * te.2.1 + j) undef = xs.getD (i * te.2.1 + j) undef := fun i j hi hj => by
      rw [append_getD, hxl, if_pos (mul_lt_of hi hj)]
    have getN : ∀ j, j < te.2.1 → (xs ++ newsOf cur o2 (1 * te.2.1)).getD (len * te.2.1 + j) undef = cur.getD (o2 + j) undef := fun j hj => by
      rw [append_getD, hxl, if_neg (by omega), show len * te.2.1 + j - len * te.2.1 = j by omega, newsOf_getD (by omega)]
    refine ⟨rfl, _, d.pos, hown, fun i j hi h0 hj => ?_, fun i sv' hi hh => ?_, fun i hi hh => ?_, fun i b hi hh hb => ?_, fun i i' b hi hi' hh hh' hb hb2 => ?_⟩
    · by_cases hlt : i < len
      · rw [appG_lt hlt, getO i j hlt hj]
        exact ⟨(d.rest i j hlt h0 hj).1, (d.rest i j hlt h0 hj).2.mono hke hwi (Env.le_refl _)⟩
      · obtain rfl : i = len := by omega
        rw [appG_ge hlt, Nat.sub_self, getN j hj]
        exact ⟨(hone j hj).1, (hone j hj).2.mono hke hwi (Env.le_refl _)⟩
    · have hh2 : (if len = i then some (g2 0 0) else none) = some sv' := hh
      obtain ⟨rfl, rfl⟩ := ite_some hh2
      have := getN 0 d.pos
      rw [Nat.add_zero] at this
      rw [this]
      exact ⟨(hone 0 d.pos).1, (hone 0 d.pos).2.mono hke hwi (Env.E0_le _)⟩
    · have hne : len ≠ i := fun hc => by simp [hoAt, hc] at hh
      have hlt : i < len := by omega
      have h3 := getO i 0 hlt d.pos
      rw [Nat.add_zero] at h3
      rw [h3]
      obtain ⟨g1, ys, g2, g3⟩ := d.inn i hlt rfl
      refine ⟨g1, ys, g2.mono fun b ⟨a, mm, c, q1, q2⟩ => ?_, fun i' j hi' hj => ⟨(g3 i' j hi' hj).1, (g3 i' j hi' hj).2.mono hke hwi (Env.le_refl _)⟩⟩
      rw [q1] at g1
      subst q2
      have := hin i a.block hlt g1.symm
      exact hblk _ this.2 this.1
    · have hne : len ≠ i := fun hc => by simp [hoAt, hc] at hh
      have := hin i b (by omega) hb
      exact fun hc => by
        rcases hb' b hc with hd | hd
        · exact this.1 hd
        · omega
    · have hne : len ≠ i := fun hc => by simp [hoAt, hc] at hh
      have hne' : len ≠ i' := fun hc => by simp [hoAt, hc] at hh'
      exact d.inj i i' b (by omega) (by omega) rfl rfl hb hb2
theorem evAppend_sound {P : Program} {w0 X0 H E w nm} (h : Rep w0 X0 H E w) {t ty : TypeId} {te : TypeId × Nat × Nat} (ht : tsl P t = some te) {z : List Value} (hz : tzero P te.1 = some z) {s x : SV} {v u : Value}
    (hs : R w (Xo X0 E H) E s v) (hx : R w (Xo X0 E H) E x u) {y : Yd} (hy : evAppend te H nm s x = some y) (hask : y.ask) (hf : Free H E nm y.eff) :
    ∃ r w', (Builtin.append_ #[t, t] ty #[v, u]).run P w = .ok r w' ∧ Goes w0 X0 H E w nm y.eff y.val r w' := by
  obtain ⟨i, q1, q2, q3, q4⟩ := tsl_spec ht
  obtain ⟨i', zv, z1, z2, z3, z4, z5⟩ := tzero_spec hz
  rw [q2] at z1
  cases z1
  unfold evAppend at hy
  cases hsrc : srcOf H x with
  | none =>
    simp only [hsrc] at hy
    exact evAppendD_sound h ht hz hs hx hy hask
  | some q =>
    obtain ⟨len2, n2, g2⟩ := q
    simp only [hsrc] at hy
    obtain ⟨a2, c2, rfl, hcells⟩ := srcOf_sound h hx hsrc
    split at hy
    case isFalse => cases hy
    rename_i hcond
    obtain ⟨rfl, hpos⟩ := hcond
    cases hs with
    | cap0 =>
      rename_i a
      simp only [Option.some.injEq] at hy
      subst hy
      have hroom : room len2 te.2.2 := hask.out
      by_cases h0 : len2 = 0
      · subst h0
        refine ⟨_, w, run_append_zero w t ty te.1 i q1 q2 a a2 0 0 c2 (Nat.le_refl _), ?_⟩
        refine Goes.new (e := .slc 0 (.slice a 0 0) (fun _ => none)) h hf (Below.refl _ _) (fun b hb => by cases a <;> simp [holds, blkOf] at hb) (fun hke hwi hle => ⟨rfl, [], .inl ⟨_, rfl, rfl, rfl⟩, fun i j hi => absurd hi (Nat.not_lt_zero _)⟩) fun X => .osl (Env.put_same _ _ _) ⟨_, _, _, rfl⟩
      · rcases hcells with hc0 | ⟨b2, o2, c, T, fr, rfl, hb2, hc2, hcont⟩
        · exact absurd hc0 h0
        obtain ⟨cap, cur, hrun, k1, k2, rest, k3, k4⟩ := grow_run (P := P) (ty := ty) (a := a) (sLen := 0) (sCap := 0) (c2 := c2) q1 q2 z2 z4 q3 (by omega) (by omega) [] (by simp) (by simp) (fun _ => ⟨rfl, rfl⟩) hb2 hc2 (by rw [q4, Nat.zero_add]; exact hroom)
        simp only [Nat.zero_add, List.nil_append] at hrun k1 k3 k4
        refine ⟨_, _, hrun, ?_⟩
        have hsz : cur.size = cap * te.2.1 := by
          rw [← Array.length_toList, k3, List.length_append, newsOf_len, k4, ← Nat.add_mul]
          congr 1
          omega
        refine Goes.row h hf k1 k2 hsz ((Below.refl _ _).drew) rfl fun i j hi hj => ?_
        have hlt := mul_lt_of (n := te.2.1) hi hj
        have hget : cur.getD (i * te.2.1 + j) undef = c.getD (o2 + i * te.2.1 + j) undef := by
          rw [← toList_getD, k3, append_getD, newsOf_len, if_pos hlt, newsOf_getD hlt, Nat.add_assoc]
        rw [hget]
        exact hcont i j hi hj
    | osl he hv =>
      rename_i k ver us
      have hok := h.ok k _ he
      simp only at hy
      by_cases hdp : ∃ ver' len n c m p g T T' ho, H.getD k .dead = .deep ver' len n c m p g T T' ho
      · obtain ⟨ver', len, n, c, m, p, g, T, T', ho, hk⟩ := hdp
        rw [hk] at hok hy
        simp only at hy
        split at hy
        case h_2 => cases hy
        obtain ⟨⟨⟨⟨rfl, rfl, rfl⟩, rfl⟩, hpu⟩, rfl⟩ := ite_some hy
        rcases hcells with hc0 | ⟨b2, o2, c0, T2, fr, rfl, hb2, hc2, hcont⟩
        · omega
        exact evAppendP_sound h ht hz he hk hb2 hc2 hcont hask.out
      generalize hk : H.getD k .dead = so at hy hok hdp
      cases so <;> simp only [reduceCtorEq] at hy
      case deep => exact (hdp ⟨_, _, _, _, _, _, _, _, _, _, rfl⟩).elim
      rename_i ver' len n g T
      obtain ⟨⟨⟨rfl, rfl, rfl⟩, hnot⟩, rfl⟩ := ite_some hy
      obtain ⟨_, xs, hown, hcont1⟩ := hok
      have hroom : room (len + len2) te.2.2 := hask.out
      have hxl : xs.length = len * te.2.1 := by
        rcases hown with ⟨a, rfl, rfl, rfl⟩ | ⟨b, cap, cur, rfl, c1, c2', c3, c4, c5, c6⟩
        · simp
        · exact c6
      have hle : E.le (E.put k (.slc (ver + 1) v us)) ∧ ∀ v', E.le (E.put k (.slc (ver + 1) v' us)) := by
        have : ∀ v', E.le (E.put k (.slc (ver + 1) v' us)) := by
          intro v'
          refine ⟨fun j b hj => ?_, fun j ver' v'' us'' hj => ?_⟩
          · by_cases hjk : j = k
            · subst hjk; rw [he] at hj; cases hj
            · rw [Env.put_ne hjk]; exact hj
          · by_cases hjk : j = k
            · subst hjk
              rw [he] at hj
              cases hj
              exact ⟨_, _, _, Env.put_same _ _ _, Nat.le_succ _, fun hc => by omega⟩
            · exact ⟨_, _, _, by rw [Env.put_ne hjk]; exact hj, Nat.le_refl _, fun _ => rfl⟩
        exact ⟨this _, this⟩
      obtain ⟨_, hle⟩ := hle
      by_cases h0 : len2 = 0
      · subst h0
        -- nothing is added
        have hshape : ∃ a cap, v = .slice a len cap ∧ len ≤ cap := by
          rcases hown with ⟨a, rfl, rfl, rfl⟩ | ⟨b, cap, cur, rfl, c1, c2', _⟩
          · exact ⟨_, _, rfl, Nat.le_refl _⟩
          · exact ⟨_, _, rfl, c2'⟩
        obtain ⟨a, cap, rfl, hlc⟩ := hshape
        refine ⟨_, w, run_append_zero w t ty te.1 i q1 q2 a a2 len cap c2 hlc, ?_⟩
        refine Goes.set (e' := .slc (ver + 1) (.slice a len cap) us) h he (hle _) (fun _ _ _ => rfl) rfl rfl rfl (Nat.le_refl _) (fun b hb => .inl ?_) (fun hke hwi => ⟨rfl, xs, hown, fun i' j hi hj => ?_⟩) fun X => .osl (Env.put_same _ _ _) ⟨_, _, _, rfl⟩
        · rw [hk]; exact hb
        · have hlt : i' < len := hi
          rw [appG_lt hlt]
          exact ⟨(hcont1 i' j hlt hj).1, (hcont1 i' j hlt hj).2.mono hke hwi (Env.le_refl _)⟩
      · rcases hcells with hc0 | ⟨b2, o2, c, T2, fr, rfl, hb2, hc2, hcont⟩
        · exact absurd hc0 h0
        have hnews := news_content (o := o2) hcont
        have grows : ∀ (a : Option Addr) (sCap : Nat), v = .slice a len sCap → sCap < len + len2 → (∀ b, a = some b → ∀ j u, xs[j]? = some u → w.cell? (b.add j) = some u) → (a = none → len = 0 ∧ sCap = 0) →
            ∃ r w', (Builtin.append_ #[t, t] ty #[v, .slice (some ⟨b2, o2, none⟩) len2 c2]).run P w = .ok r w' ∧ Goes w0 X0 H E w nm (.sets [(k, .row (ver + 1) (len + len2) te.2.1 (appG len g g2) te.1)]) (.osl k (ver + 1)) r w' := by
          intro a sCap hva hlt holds hnone
          subst hva
          obtain ⟨cap, cur, hrun, k1, k2, rest, k3, k4⟩ := grow_run (P := P) (ty := ty) (a := a) (sLen := len) (sCap := sCap) (c2 := c2) q1 q2 z2 z4 q3 (by omega) hlt xs hxl holds hnone hb2 hc2 (by rw [q4]; exact hroom)
          refine ⟨_, _, hrun, ?_⟩
          have hbel : Below w.heap.size w (w.drew.alloc (.cells cur te.1)) := ((Below.refl _ _).drew).alloc (Nat.le_refl _) _
          refine Goes.set (e' := .slc (ver + 1) (.slice (some ⟨w.heap.size, 0, none⟩) (len + len2) cap) us) h he (hle _) (fun b hb _ => hbel.block b hb) rfl rfl rfl hbel.size (fun b hb => ?_) (fun hke hwi => ⟨rfl, xs ++ newsOf c o2 (len2 * te.2.1), ?_, fun i' j hi hj => ?_⟩)
            fun X => .osl (Env.put_same _ _ _) ⟨_, _, _, rfl⟩
          · cases cap with
            | zero => omega
            | succ cap => simp only [Sx.holds, blkOf, Option.some.injEq] at hb; exact .inr (by omega)
          · exact OwnsR.grown (by rw [List.length_append, hxl, newsOf_len, ← Nat.add_mul]) k4 k1 (by omega) k2 k3 (heap_new' w.drew _)
          · have := app_content hxl hcont1 hnews i' j hi hj
            exact ⟨this.1, this.2.mono hke hwi (Env.le_refl _)⟩
        rcases hown with ⟨a, rfl, rfl, rfl⟩ | ⟨b, cap, cur, rfl, c1, c2', c3, c4, c5, c6⟩
        · exact grows a 0 rfl (by omega) (by simp) (fun _ => ⟨rfl, rfl⟩)
        · by_cases hroomy : len + len2 ≤ cap + 1
          · have hmul : len * te.2.1 + len2 * te.2.1 ≤ (cap + 1) * te.2.1 := by rw [← Nat.add_mul]; exact Nat.mul_le_mul_right _ hroomy
            have hfit : len * te.2.1 + (newsOf c o2 (len2 * te.2.1)).length ≤ cur.size := by rw [newsOf_len]; omega
            have hrun := run_append_room (P := P) w t ty te.1 i q1 q2 b len (cap + 1) cur c1 ⟨b2, o2, none⟩ len2 c2 (newsOf c o2 (len2 * te.2.1)) (by rw [newsOf_len, q3]) (cells_add hb2 hc2)
              (news_oneCell (fun i j hi hj => (hcont i j hi hj).1) hpos) hroomy (by rw [q3]; exact hfit)
            rw [q3] at hrun
            refine ⟨_, _, hrun, ?_⟩
            have hsz := splice_size cur (newsOf c o2 (len2 * te.2.1)) (len * te.2.1) hfit
            refine Goes.set (e' := .slc (ver + 1) (.slice (some ⟨b, 0, none⟩) (len + len2) (cap + 1)) us) h he (hle _) (fun b' hb' hne => setRow_other w b b' _ (fun hc => hne (by rw [hk, hc]; rfl))) rfl rfl rfl (by simp [World.setRow])
              (fun b' hb' => .inl (by rw [hk]; exact hb')) (fun hke hwi => ⟨rfl, xs ++ newsOf c o2 (len2 * te.2.1), .inr ⟨b, cap, _, rfl, setRow_heap w b cur _ te.1 _ c1, hroomy, c3, by rw [hsz]; exact c4, ?_, by rw [List.length_append, hxl, newsOf_len, ← Nat.add_mul]⟩, fun i' j hi hj => ?_⟩)
              fun X => .osl (Env.put_same _ _ _) ⟨_, _, _, rfl⟩
            · rw [c5, List.append_assoc]
              have hl : (xs ++ newsOf c o2 (len2 * te.2.1)).length = (len + len2) * te.2.1 := by rw [List.length_append, hxl, newsOf_len, ← Nat.add_mul]
              rw [← List.append_assoc, ← hl]
              exact List.take_left
            · have := app_content hxl hcont1 hnews i' j hi hj
              exact ⟨this.1, this.2.mono hke hwi (Env.le_refl _)⟩
          · refine grows (some ⟨b, 0, none⟩) (cap + 1) rfl (by omega) (fun b' hb' j u hj => ?_) (fun hc => by cases hc)
            cases hb'
            have hlt : j < len * te.2.1 := by
              have := (List.getElem?_eq_some_iff.1 hj).1
              omega
            have hmul : len * te.2.1 ≤ (cap + 1) * te.2.1 := Nat.mul_le_mul_right _ c2'
            rw [addr_add, Nat.zero_add, cell_of_row w b j cur te.1 _ c1]
            rw [← c5, List.getElem?_take, if_pos hlt, Array.getElem?_toList] at hj
            exact hj
    | oslOld he hl hv =>
      rename_i k ver ver' v' us
      have hok := h.ok k _ he
      simp only at hy
      generalize H.getD k .dead = so at hy hok
      cases so <;> simp only [reduceCtorEq] at hy
      case deep =>
        split at hy
        case h_2 => cases hy
        obtain ⟨⟨⟨⟨rfl, _⟩, _⟩, _⟩, _⟩ := ite_some hy
        have := hok.1
        omega
      obtain ⟨⟨⟨rfl, _⟩, _⟩, _⟩ := ite_some hy
      have := hok.1
      omega
    | _ => simp at hy
theorem run_copy_zero {P : Program} (w : World) (dT sT ty e : TypeId) (i : TypeInfo) (ht : P.underlying dT = some (.slice e)) (hi : P.info? e = some i) (a a' : Option Addr) (n cap m c : Nat) (h0 : Nat.min m n = 0) :
    (Builtin.copy_ #[dT, sT] ty #[.slice a n cap, .slice a' m c]).run P w = .ok (.int .i64 (Nat.min m n : Nat)) w := by
  have hf : (Builtin.firstCells i.size 0 (.slice a' m c)).run P w = .ok #[] w := by
    cases a' with
    | none => exact run_firstCells_none w _ _ _ _
    | some b => simp [Builtin.firstCells, loadCells, loadCellsFrom]
  rw [h0]
  cases a with
  | none => simp [Builtin.copy_, run_underlying ht, sizeOf, typeInfo, hi, Builtin.lenOf, h0, hf, goInt]
  | some b => simp [Builtin.copy_, run_underlying ht, sizeOf, typeInfo, hi, Builtin.lenOf, h0, hf, storeCells, goInt]
theorem run_copyN {P : Program} (w : World) (dT sT ty e : TypeId) (i : TypeInfo) (ht : P.underlying dT = some (.slice e)) (hi : P.info? e = some i) (b o n cap m c : Nat) (a : Addr) (cur : Array Value) (T : TypeId) (cs : List Value)
    (hg : w.heap[b]? = some (.cells cur T (0, 0))) (hn : cs.length = Nat.min m n * i.size) (hsrc : ∀ j v, cs[j]? = some v → w.cell? (a.add j) = some v) (hfit : o + cs.length ≤ cur.size) (h1 : ∀ v ∈ cs, v.oneCell' = true) :
    (Builtin.copy_ #[dT, sT] ty #[.slice (some ⟨b, o, none⟩) n cap, .slice (some a) m c]).run P w = .ok (.int .i64 (Nat.min m n : Nat)) (w.setRow b (cur.toList.take o ++ cs ++ cur.toList.drop (o + cs.length)).toArray) := by
  have hl := run_loadCells_list (P := P) w a cs hsrc
  have hst := run_storeCells_at P b o T cs 0 cur w hg (by simpa using hfit) h1
  simp [Builtin.copy_, run_underlying ht, Builtin.lenOf, Builtin.firstCells, sizeOf, typeInfo, hi, ← hn, hl, hst, goInt]
theorem evCopy_sound {P : Program} {w0 X0 H E w nm} (h : Rep w0 X0 H E w) {t t' ty : TypeId} {te : TypeId × Nat × Nat} (ht : tsl P t = some te) {d x : SV} {v u : Value}
    (hd : R w (Xo X0 E H) E d v) (hx : R w (Xo X0 E H) E x u) {y : Yd} (hy : evCopy te H d x = some y) :
    ∃ r w', (Builtin.copy_ #[t, t'] ty #[v, u]).run P w = .ok r w' ∧ Goes w0 X0 H E w nm y.eff y.val r w' := by
  obtain ⟨i, q1, q2, q3, q4⟩ := tsl_spec ht
  unfold evCopy at hy
  cases hsrc : srcOf H x with
  | none => simp [hsrc] at hy
  | some q =>
    obtain ⟨len2, n2, g2⟩ := q
    simp only [hsrc] at hy
    obtain ⟨a2, c2, rfl, hcells⟩ := srcOf_sound h hx hsrc
    -- m elements to the place lo
    have go : ∀ {k ver len wl lo n : Nat} {g : Nat → Nat → SV} {T : TypeId} {a a0 : Option Addr} {cap0 : Nat} {us : Nat → Option Nat}, E k = some (.slc ver (.slice a0 len cap0) us) → H.getD k .dead = .row ver len n g T → n = n2 → n2 = te.2.1 → 0 < n2 → lo + wl ≤ len →
        (wl ≠ 0 → a = a0.map (·.add (lo * n))) → v = .slice a wl (cap0 - lo) → y = ⟨True, .int .i64 (Nat.min len2 wl : Nat), .sets [(k, .row ver len n (cpyG lo (Nat.min len2 wl) g g2) T)]⟩ →
        ∃ r w', (Builtin.copy_ #[t, t'] ty #[v, .slice a2 len2 c2]).run P w = .ok r w' ∧ Goes w0 X0 H E w nm y.eff y.val r w' := by
      intro k ver len wl lo n g T a a0 cap0 us he hk hn hn2 hpos hlo ha hv hyy
      subst hyy
      subst hv
      subst hn
      have hok := h.ok k _ he
      rw [hk] at hok
      obtain ⟨_, xs, hown, hcont1⟩ := hok
      have hput : E.put k (.slc ver (.slice a0 len cap0) us) = E := Env.put_self he
      by_cases h0 : Nat.min len2 wl = 0
      · refine ⟨_, w, run_copy_zero w t t' ty te.1 i q1 q2 a a2 wl _ len2 c2 h0, ?_⟩
        refine Goes.set (e' := .slc ver (.slice a0 len cap0) us) h he (by rw [hput]; exact Env.le_refl _) (fun _ _ _ => rfl) rfl rfl rfl (Nat.le_refl _) (fun b hb => .inl ?_) (fun hke hwi => ⟨rfl, xs, hown, fun i' j hi hj => ?_⟩) fun X => .int
        · rw [hk]; exact hb
        · rw [cpyG_out (by omega)]
          rw [hput] at hwi ⊢
          exact ⟨(hcont1 i' j hi hj).1, (hcont1 i' j hi hj).2.mono hke hwi (Env.le_refl _)⟩
      · have hwl : wl ≠ 0 := fun hc => h0 (by rw [hc]; exact Nat.min_zero _)
        have hl2 : len2 ≠ 0 := fun hc => h0 (by rw [hc]; exact Nat.zero_min _)
        rcases hcells with hc0 | ⟨b2, o2, c, T2, fr, rfl, hb2, hc2, hcont⟩
        · exact absurd hc0 hl2
        rcases hown with ⟨a', hv', rfl, rfl⟩ | ⟨b, cap, cur, hv', c1, c2', c3, c4, c5, c6⟩
        · omega
        cases hv'
        have hadd : a = some ⟨b, 0 + lo * n, none⟩ := by rw [ha hwl, Option.map_some]; exact congrArg some (addr_add b 0 _)
        subst hadd
        rw [Nat.zero_add] at *
        generalize hm : Nat.min len2 wl = m at *
        have hml : m ≤ len2 := by rw [← hm]; exact Nat.min_le_left _ _
        have hmw : m ≤ wl := by rw [← hm]; exact Nat.min_le_right _ _
        have hm2 := Nat.mul_le_mul_right n hml
        have hm3 := Nat.mul_le_mul_right n (show lo + m ≤ cap + 1 by omega)
        rw [Nat.add_mul] at hm3
        have hfit : lo * n + (newsOf c o2 (m * n)).length ≤ cur.size := by rw [newsOf_len]; omega
        have hrun := run_copyN (P := P) w t t' ty te.1 i q1 q2 b (lo * n) wl (cap + 1 - lo) len2 c2 ⟨b2, o2, none⟩ cur T (newsOf c o2 (m * n)) c1 (by rw [newsOf_len, q3, hm, hn2]) (cells_add hb2 (by omega))
          hfit (news_oneCell (fun i j hi hj => (hcont i j (by omega) hj).1) hpos)
        rw [hm] at hrun
        refine ⟨_, _, hrun, ?_⟩
        have hsz := splice_size cur (newsOf c o2 (m * n)) (lo * n) hfit
        refine Goes.set (e' := .slc ver (.slice (some ⟨b, 0, none⟩) len (cap + 1)) us) h he (by rw [hput]; exact Env.le_refl _) (fun b' hb' hne => setRow_other w b b' _ (fun hc => hne (by rw [hk, hc]; rfl))) rfl rfl rfl (by simp [World.setRow])
          (fun b' hb' => .inl (by rw [hk]; exact hb')) (fun hke hwi => ?_) fun X => .int
        rw [hput] at hwi ⊢
        refine ⟨rfl, _, .inr ⟨b, cap, _, rfl, setRow_heap w b cur _ T _ c1, c2', c3, by rw [hsz]; exact c4, rfl, ?_⟩, fun i' j hi hj => ?_⟩
        · rw [List.length_take, Array.length_toList, hsz, c4]
          exact Nat.min_eq_left (Nat.mul_le_mul_right _ c2')
        · have hlt := mul_lt_of (n := n) hi hj
          have key := (splice_getD cur (newsOf c o2 (m * n)) (lo * n) (i' * n + j) hfit).trans
            (show _ = if lo * n ≤ i' * n + j ∧ i' * n + j < lo * n + m * n then (newsOf c o2 (m * n)).getD (i' * n + j - lo * n) undef else cur.getD (i' * n + j) undef by rw [newsOf_len])
          rw [list_getD_cur hlt, key]
          have hold : cur.getD (i' * n + j) undef = xs.getD (i' * n + j) undef := by subst c5; rw [list_getD_cur hlt]
          by_cases hin : lo ≤ i' ∧ i' < lo + m
          · have hlt2 := mul_lt_of (n := n) (show i' - lo < m by omega) hj
            have h1 : lo * n ≤ i' * n := Nat.mul_le_mul_right _ hin.1
            have h2 : (i' - lo) * n = i' * n - lo * n := Nat.sub_mul _ _ _
            rw [cpyG_in hin, if_pos (by omega), newsOf_getD (by omega), show o2 + (i' * n + j - lo * n) = o2 + (i' - lo) * n + j by omega]
            exact ⟨(hcont (i' - lo) j (by omega) hj).1, (hcont (i' - lo) j (by omega) hj).2.mono hke hwi (Env.le_refl _)⟩
          · have hne : ¬ (lo * n ≤ i' * n + j ∧ i' * n + j < lo * n + m * n) := by
              rcases Nat.lt_or_ge i' lo with hlt' | hge
              · have := mul_lt_of (n := n) hlt' hj
                omega
              · have : (lo + m) * n ≤ i' * n := Nat.mul_le_mul_right _ (by omega)
                rw [Nat.add_mul] at this
                omega
            rw [cpyG_out hin, if_neg hne, hold]
            exact ⟨(hcont1 i' j hi hj).1, (hcont1 i' j hi hj).2.mono hke hwi (Env.le_refl _)⟩
    cases hd with
    | osl he hv =>
      rename_i k ver us
      have hok := h.ok k _ he
      simp only at hy
      generalize hk : H.getD k .dead = so at hy hok
      cases so <;> simp only [reduceCtorEq] at hy
      rename_i ver' len n g T
      obtain ⟨⟨⟨⟨rfl, rfl⟩, hn2, hpos⟩, hnot⟩, hyy⟩ := ite_some hy
      have hsh : ∃ a cap, v = .slice a len cap ∧ (len ≠ 0 → a = a.map (·.add (0 * n))) := by
        obtain ⟨_, xs, hown, _⟩ := hok
        rcases hown with ⟨a, rfl, rfl, rfl⟩ | ⟨b, cap, cur, rfl, c1, c2', _⟩
        · exact ⟨_, _, rfl, fun hc => absurd rfl hc⟩
        · exact ⟨_, _, rfl, fun _ => by rw [Option.map_some, addr_add, Nat.zero_mul]⟩
      obtain ⟨a, cap, rfl, ha⟩ := hsh
      exact go (lo := 0) he hk rfl hn2 hpos (by omega) ha rfl hyy.symm
    | oslOld he hl hv =>
      rename_i k ver ver' v' us
      have hok := h.ok k _ he
      simp only at hy
      generalize H.getD k .dead = so at hy hok
      cases so <;> simp only [reduceCtorEq] at hy
      obtain ⟨⟨⟨⟨rfl, _⟩, _⟩, _⟩, _⟩ := ite_some hy
      have := hok.1
      omega
    | win he hl ha h0 =>
      rename_i k ver m lo wl a a0 len0 cap0 us
      have hok := h.ok k _ he
      simp only at hy
      generalize hk : H.getD k .dead = so at hy hok
      cases so <;> simp only [reduceCtorEq] at hy
      rename_i ver' len n g T
      obtain ⟨⟨⟨⟨rfl, rfl, rfl⟩, hn2, hpos⟩, hnot⟩, hyy⟩ := ite_some hy
      have hsh : len0 = len := by
        obtain ⟨_, xs, hown, _⟩ := hok
        rcases hown with ⟨a, hv', rfl, rfl⟩ | ⟨b, cap, cur, hv', _⟩ <;> cases hv' <;> rfl
      subst hsh
      exact go he hk rfl hn2 hpos hl ha rfl hyy.symm
    | winOld he hl hv =>
      rename_i k ver ver' v' m lo wl us
      have hok := h.ok k _ he
      simp only at hy
      generalize H.getD k .dead = so at hy hok
      cases so <;> simp only [reduceCtorEq] at hy
      obtain ⟨⟨⟨⟨rfl, _⟩, _⟩, _⟩, _⟩ := ite_some hy
      have := hok.1
      omega
    | _ => simp at hy
theorem run_clear_zero {P : Program} (w : World) (dT ty e : TypeId) (ht : P.underlying dT = some (.slice e)) (a : Option Addr) (cap : Nat) :
    (Builtin.clear_ #[dT] ty #[.slice a 0 cap]).run P w = .ok (.tuple #[]) w := by
  cases a <;> simp [Builtin.clear_, run_underlying ht]
theorem run_clear {P : Program} (w : World) (dT ty e : TypeId) (i : TypeInfo) (zv : Value) (ht : P.underlying dT = some (.slice e)) (hi : P.info? e = some i) (hz : i.zero = some zv) (b o n cap : Nat) (cur : Array Value) (T : TypeId)
    (hg : w.heap[b]? = some (.cells cur T (0, 0))) (hn : n ≠ 0) (hfit : o + n * zv.cells.size ≤ cur.size) (h1 : ∀ v ∈ (Builtin.zeroCells zv.cells n).toList, v.oneCell' = true) :
    (Builtin.clear_ #[dT] ty #[.slice (some ⟨b, o, none⟩) n cap]).run P w = .ok (.tuple #[]) (w.setRow b (cur.toList.take o ++ (Builtin.zeroCells zv.cells n).toList ++ cur.toList.drop (o + (Builtin.zeroCells zv.cells n).toList.length)).toArray) := by
  have hs : (Builtin.zeroCells zv.cells n).toList.length = n * zv.cells.size := by simp [Builtin.zeroCells]
  have hst := run_storeCells_at P b o T (Builtin.zeroCells zv.cells n).toList 0 cur w hg (by rw [hs]; simpa using hfit) h1
  obtain ⟨n', rfl⟩ : ∃ n', n = n' + 1 := ⟨n - 1, by omega⟩
  simp only [Nat.add_zero] at hst
  simp only [Builtin.clear_, Sem.run_bind, run_underlying ht, Result.andThen_ok, List.getElem?_toArray, List.getElem?_cons_zero, zeroValue, typeInfo, Sem.run_pure]
  simp [hst, hi, hz]
theorem evClear_sound {P : Program} {w0 X0 H E w nm} (h : Rep w0 X0 H E w) {t ty : TypeId} {te : TypeId × Nat × Nat} (ht : tsl P t = some te) {z : List Value} (hz : tzero P te.1 = some z) {d : SV} {v : Value}
    (hd : R w (Xo X0 E H) E d v) {y : Yd} (hy : evClear te z H d = some y) :
    ∃ r w', (Builtin.clear_ #[t] ty #[v]).run P w = .ok r w' ∧ Goes w0 X0 H E w nm y.eff y.val r w' := by
  obtain ⟨i, q1, q2, q3, q4⟩ := tsl_spec ht
  obtain ⟨i', zv, h1, h2, h3, h4, h5⟩ := tzero_spec hz
  rw [q2] at h1
  cases h1
  have hzs : zv.cells.size = z.length := by rw [← h3, Array.length_toList]
  have rtup : ∀ {X : World → Nat → Prop} {E' : Env} {w' : World}, R w' (X w') E' (.tup 0 (fun _ => .any)) (.tuple #[]) := fun {_ _ _} => .tup rfl (fun i hi => absurd hi (Nat.not_lt_zero _))
  unfold evClear at hy
  cases hd with
  | win he hl ha h0 =>
    rename_i k ver m lo wl a a0 len0 cap0 us
    have hok := h.ok k _ he
    simp only at hy
    generalize hk : H.getD k .dead = so at hy hok
    cases so <;> simp only [reduceCtorEq] at hy
    rename_i ver' len n g T
    obtain ⟨⟨⟨rfl, rfl⟩, ⟨hn2, hpos⟩, hzl⟩, rfl⟩ := ite_some hy
    obtain ⟨_, xs, hown, hcont1⟩ := hok
    have hput : E.put k (.slc ver (.slice a0 len0 cap0) us) = E := Env.put_self he
    by_cases hwl : wl = 0
    · subst hwl
      refine ⟨_, w, run_clear_zero w t ty te.1 q1 a _, ?_⟩
      refine Goes.set (e' := .slc ver (.slice a0 len0 cap0) us) h he (by rw [hput]; exact Env.le_refl _) (fun _ _ _ => rfl) rfl rfl rfl (Nat.le_refl _) (fun b hb => .inl ?_) (fun hke hwi => ⟨rfl, xs, hown, fun i' j hi hj => ?_⟩) fun X => .tup rfl (fun i hi => absurd hi (Nat.not_lt_zero _))
      · rw [hk]; exact hb
      · rw [cpyG_out (by omega)]
        rw [hput] at hwi ⊢
        exact ⟨(hcont1 i' j hi hj).1, (hcont1 i' j hi hj).2.mono hke hwi (Env.le_refl _)⟩
    · rcases hown with ⟨a', hv', rfl, rfl⟩ | ⟨b, cap, cur, hv', c1, c2', c3, c4, c5, c6⟩
      · cases hv'
        omega
      cases hv'
      have hadd : a = some ⟨b, 0 + lo * m, none⟩ := by rw [ha hwl, Option.map_some]; exact congrArg some (addr_add b 0 _)
      subst hadd
      rw [Nat.zero_add] at *
      have hm3 := Nat.mul_le_mul_right m (show lo + wl ≤ cap + 1 by omega)
      rw [Nat.add_mul] at hm3
      generalize hcs : (Builtin.zeroCells zv.cells wl).toList = cs
      have hcl : cs.length = wl * m := by subst hcs; simp [Builtin.zeroCells, hzs, hzl]
      have hget : ∀ j, j < wl * m → cs.getD j undef = z.getD (j % m) undef := fun j hj => by
        subst hcs
        have hb : j % zv.cells.size < zv.cells.size := Nat.mod_lt _ (by omega)
        rw [List.getD_eq_getElem?_getD, Builtin.zeroCells, Array.getElem?_toList, Array.getElem?_map, Array.getElem?_range, if_pos (by rw [hzs, hzl]; exact hj)]
        simp only [Option.map_some, Option.getD_some]
        rw [getBang hb, ← h3, toList_getD, hzs, hzl]
      have hone : ∀ u ∈ cs, u.oneCell' = true := fun u hu => by
        obtain ⟨j, hj, rfl⟩ := List.mem_iff_getElem.1 hu
        have e := hget j (by omega)
        rw [List.getD_eq_getElem?_getD, List.getElem?_eq_getElem hj, Option.getD_some] at e
        rw [e]
        exact h5 _ (by rw [hzl]; exact Nat.mod_lt _ hpos)
      have hfit : lo * m + cs.length ≤ cur.size := by rw [hcl]; omega
      have hrun := run_clear (P := P) w t ty te.1 i zv q1 q2 h2 b (lo * m) wl (cap + 1 - lo) cur T c1 hwl (by rw [hzs, hzl, ← hcl]; exact hfit) (by rw [hcs]; exact hone)
      rw [hcs] at hrun
      refine ⟨_, _, hrun, ?_⟩
      have hsz := splice_size cur cs (lo * m) hfit
      refine Goes.set (e' := .slc ver (.slice (some ⟨b, 0, none⟩) len0 (cap + 1)) us) h he (by rw [hput]; exact Env.le_refl _) (fun b' hb' hne => setRow_other w b b' _ (fun hc => hne (by rw [hk, hc]; rfl))) rfl rfl rfl (by simp [World.setRow])
        (fun b' hb' => .inl (by rw [hk]; exact hb')) (fun hke hwi => ?_) fun X => .tup rfl (fun i hi => absurd hi (Nat.not_lt_zero _))
      rw [hput] at hwi ⊢
      refine ⟨rfl, _, .inr ⟨b, cap, _, rfl, setRow_heap w b cur _ T _ c1, c2', c3, by rw [hsz]; exact c4, rfl, ?_⟩, fun i' j hi hj => ?_⟩
      · rw [List.length_take, Array.length_toList, hsz, c4]
        exact Nat.min_eq_left (Nat.mul_le_mul_right _ c2')
      · have hlt := mul_lt_of (n := m) hi hj
        have key := (splice_getD cur cs (lo * m) (i' * m + j) hfit).trans
          (show _ = if lo * m ≤ i' * m + j ∧ i' * m + j < lo * m + wl * m then cs.getD (i' * m + j - lo * m) undef else cur.getD (i' * m + j) undef by rw [hcl])
        rw [list_getD_cur hlt, key]
        have hold : cur.getD (i' * m + j) undef = xs.getD (i' * m + j) undef := by subst c5; rw [list_getD_cur hlt]
        by_cases hin : lo ≤ i' ∧ i' < lo + wl
        · have hlt2 := mul_lt_of (n := m) (show i' - lo < wl by omega) hj
          have g1 : lo * m ≤ i' * m := Nat.mul_le_mul_right _ hin.1
          have g2 : (i' - lo) * m = i' * m - lo * m := Nat.sub_mul _ _ _
          have g3 : (i' * m + j - lo * m) % m = j := by rw [show i' * m + j - lo * m = j + (i' - lo) * m by omega, Nat.add_mul_mod_self_right, Nat.mod_eq_of_lt hj]
          rw [cpyG_in hin, if_pos (by omega), hget _ (by omega), g3]
          exact ⟨h5 _ (by omega), ofV_sound _⟩
        · have hne : ¬ (lo * m ≤ i' * m + j ∧ i' * m + j < lo * m + wl * m) := by
            rcases Nat.lt_or_ge i' lo with hlt' | hge
            · have := mul_lt_of (n := m) hlt' hj
              omega
            · have : (lo + wl) * m ≤ i' * m := Nat.mul_le_mul_right _ (by omega)
              rw [Nat.add_mul] at this
              omega
          rw [cpyG_out hin, if_neg hne, hold]
          exact ⟨(hcont1 i' j hi hj).1, (hcont1 i' j hi hj).2.mono hke hwi (Env.le_refl _)⟩
  | winOld he hl hv =>
    rename_i k ver ver' v' m lo wl us
    have hok := h.ok k _ he
    simp only at hy
    generalize H.getD k .dead = so at hy hok
    cases so <;> simp only [reduceCtorEq] at hy
    obtain ⟨⟨⟨rfl, _⟩, _⟩, _⟩ := ite_some hy
    have := hok.1
    omega
  | _ => simp at hy
/-! Maps. -/
structure KeyRun (P : Program) (K : TypeId) (kk : KK) : Prop where
  check : ∀ (w : World) (em : Bool) (l : List Int), l.length = kk.len → (Instr.checkKey em 10000 K (keyV kk l)).run P w = .ok () w
  find : ∀ (w : World) (l : List Int) (es : List MapEntry), l.length = kk.len → (∀ e ∈ es, ∃ l', l'.length = kk.len ∧ e.key = keyV kk l') →
    ((Instr.findKey K (keyV kk l) es).run P w = .ok none w ∧ ∀ e ∈ es, e.key ≠ keyV kk l) ∨ ∃ j e, (Instr.findKey K (keyV kk l) es).run P w = .ok (some (j, e.val)) w ∧ es[j]? = some e ∧ e.key = keyV kk l
  stays : ∀ (w : World) (l : List Int), l.length = kk.len → (Instr.keyThatStays (keyV kk l) (keyV kk l)).run P w = .ok (keyV kk l) w
theorem keyRun_one {P : Program} {K : TypeId} {q : IntKind} (hu : P.underlying K = some (.int q)) : KeyRun P K (.one q) where
  check w em l _ := MapKept.run_checkKey hu (k := .int q (l.getD 0 0)) rfl em 9999
  find w l es _ hk := by
    have hks : ∀ x ∈ es, MapKept.IsKey (.int q) x.key := fun x hx => by obtain ⟨l', _, he⟩ := hk x hx; rw [he]; rfl
    rcases MapKept.findNow_spec (d := .int q) (k := .int q (l.getD 0 0)) rfl es 0 hks with ⟨h1, h2⟩ | ⟨j, e, h1, h2, h3⟩
    · exact .inl ⟨MapKept.run_findKey hu h1, h2⟩
    · exact .inr ⟨j, e, by have := MapKept.run_findKey (w := w) hu h1; rwa [Nat.zero_add] at this, h2, h3⟩
  stays w l _ := MapKept.run_keyThatStays (d := .int q) rfl
theorem getD_map_int {q : IntKind} {l : List Int} {j : Nat} (h : j < l.length) : ((l.map (Value.int q)).toArray).getD j undef = .int q (l.getD j 0) := by
  rw [Array.getD_eq_getD_getElem?, List.getElem?_toArray, List.getElem?_map, List.getElem?_eq_getElem h, List.getD_eq_getElem?_getD, List.getElem?_eq_getElem h]
  rfl
theorem part_int {P : Program} {e : TypeId} {q : IntKind} {i : TypeInfo} (he : P.underlying e = some (.int q)) (hi : P.info? e = some i) (hs : i.size = 1) (w : World) (l : List Int) {j : Nat} (hj : j < l.length) :
    (Go.part e (l.map (Value.int q)).toArray j).run P w = .ok (.int q (l.getD j 0)) w := by
  have ht : tinf P e = some (1, false) := by simp [tinf, hi, he, hs]
  obtain ⟨v, h1, h2⟩ := run_part (P := P) (w := w) (X := fun _ => False) (E := E0) ht (n := l.length) (off := j) (g := fun k => .int q (l.getD k 0)) (cs := (l.map (Value.int q)).toArray) (s := .int q (l.getD j 0)) (by simp)
    (fun k hk => by rw [getD_map_int hk]; rfl) (fun k hk => by rw [getD_map_int hk]; exact .int) (by simp [ld, hj])
  cases h2
  exact h1
theorem eqItems_int {P : Program} {e : TypeId} {q : IntKind} {i : TypeInfo} (he : P.underlying e = some (.int q)) (hi : P.info? e = some i) (hs : i.size = 1) (w : World) (d : Nat) {l l' : List Int} (hl : l.length = l'.length) :
    ∀ is : List Nat, (∀ j ∈ is, j < l.length) → (Op.eqItems (d + 1) e 1 (l.map (Value.int q)).toArray (l'.map (Value.int q)).toArray is).run P w = .ok (is.all fun j => l.getD j 0 == l'.getD j 0) w
  | [], _ => by simp [Op.eqItems]
  | j :: is, h => by
    have hj := h j List.mem_cons_self
    have ih := eqItems_int he hi hs w d hl is fun k hk => h k (List.mem_cons_of_mem _ hk)
    have h1 := part_int he hi hs w l (j := j * 1) (by omega)
    have h2 := part_int he hi hs w l' (j := j * 1) (by omega)
    have h3 : (Op.equalIn (d + 1) e (.int q (l.getD j 0)) (.int q (l'.getD j 0))).run P w = .ok (l.getD j 0 == l'.getD j 0) w := by
      simp [Op.equalIn, run_underlying he, Result.andThen]
    rw [Nat.mul_one] at h1 h2
    simp only [Op.eqItems, Sem.run_bind, Nat.mul_one, h1, h2, h3, Result.andThen_ok, List.all_cons]
    cases l.getD j 0 == l'.getD j 0 with
    | true => simp only [Bool.not_true, Bool.false_eq_true, if_false, ih, Bool.true_and]
    | false => simp
theorem all_getD {l l' : List Int} (h : l.length = l'.length) : ((List.range l.length).all fun j => l.getD j 0 == l'.getD j 0) = decide (l = l') := by
  by_cases hc : l = l'
  · subst hc; simp
  · rw [decide_eq_false hc, Bool.eq_false_iff]
    intro hall
    rw [List.all_eq_true] at hall
    refine hc (List.ext_getElem h fun j h1 h2 => ?_)
    have := hall j (List.mem_range.2 h1)
    rw [beq_iff_eq, List.getD_eq_getElem?_getD, List.getD_eq_getElem?_getD, List.getElem?_eq_getElem h1, List.getElem?_eq_getElem h2] at this
    exact this
theorem keyRun_arr {P : Program} {K e : TypeId} {n : Nat} {q : IntKind} {i : TypeInfo} (hu : P.underlying K = some (.array n e)) (he : P.underlying e = some (.int q)) (hi : P.info? e = some i) (hs : i.size = 1) : KeyRun P K (.arr n q) := by
  have hc : P.cellsOf e = 1 := by simp [Program.cellsOf, hi, hs]
  have heq : ∀ (w : World) (l l' : List Int), l.length = n → l'.length = n → (Op.equal K (keyV (.arr n q) l) (keyV (.arr n q) l')).run P w = .ok (decide (l = l')) w := by
    intro w l l' h1 h2
    have := run_equalIn_array (P := P) (w := w) 9999 (l.map (Value.int q)).toArray (l'.map (Value.int q)).toArray hu hi
    rw [hc] at this
    have h3 := eqItems_int he hi hs w 9998 (h1.trans h2.symm) (List.range n) fun j hj => by rw [h1]; exact List.mem_range.1 hj
    rw [← h1, all_getD (h1.trans h2.symm)] at h3
    rw [← h1] at this
    exact this.trans h3
  refine ⟨fun w em l hl => ?_, fun w l es hl hk => ?_, fun w l hl => ?_⟩
  · show (Instr.checkKey em (9999 + 1) K (.agg (l.map (Value.int q)).toArray)).run P w = .ok () w
    rw [Instr.checkKey]
    simp only [Sem.run_bind, run_underlying hu, Result.andThen_ok]
    simp only [Std.Legacy.Range.forIn_eq_forIn_range', Std.Legacy.Range.size, Nat.sub_zero, Nat.add_one_sub_one, Nat.div_one]
    have hall : ∀ j ∈ List.range' 0 n, j < l.length := fun j hj => by
      have := List.mem_range'_1.1 hj
      simp only [KK.len] at hl
      omega
    generalize List.range' 0 n = is at hall
    induction is with
    | nil => simp
    | cons j is ih =>
      have p1 := part_int he hi hs w l (j := j) (hall j List.mem_cons_self)
      have p2 := MapKept.run_checkKey (w := w) he (k := .int q (l.getD j 0)) rfl em 9998
      simp only [List.forIn_cons, Sem.run_bind, run_sizeOf w hi, hc, Nat.mul_one, Result.andThen_ok, p1, p2, Sem.run_pure]
      exact ih fun y hy => hall y (List.mem_cons_of_mem _ hy)
  · have ask : ∀ (es : List MapEntry) (k : Nat), (∀ e ∈ es, ∃ l', l'.length = KK.len (.arr n q) ∧ e.key = keyV (.arr n q) l') →
        ((Instr.findAsking K (keyV (.arr n q) l) es k).run P w = .ok none w ∧ ∀ e ∈ es, e.key ≠ keyV (.arr n q) l) ∨ ∃ j e, (Instr.findAsking K (keyV (.arr n q) l) es k).run P w = .ok (some (k + j, e.val)) w ∧ es[j]? = some e ∧ e.key = keyV (.arr n q) l := by
      intro es
      induction es with
      | nil => intro k _; exact .inl ⟨by simp [Instr.findAsking], fun e he => (nomatch he)⟩
      | cons e es ih =>
        intro k hk
        obtain ⟨l', hl', hke⟩ := hk e List.mem_cons_self
        have h1 := heq w l l' hl hl'
        simp only [Instr.findAsking, Sem.run_bind, hke, h1, Result.andThen_ok]
        by_cases hll : l = l'
        · rw [decide_eq_true hll, if_pos rfl]
          exact .inr ⟨0, e, by simp, rfl, by rw [hke, hll]⟩
        · rw [decide_eq_false hll]
          simp only [Bool.false_eq_true, if_false]
          rcases ih (k + 1) fun e' he' => hk e' (List.mem_cons_of_mem _ he') with ⟨h2, h3⟩ | ⟨j, e', h2, h3, h4⟩
          · refine .inl ⟨h2, fun e' he' => ?_⟩
            rcases List.mem_cons.1 he' with rfl | he'
            · rw [hke]; exact fun hc => hll (keyV_inj (kk := .arr n q) hl hl' hc.symm)
            · exact h3 e' he'
          · exact .inr ⟨j + 1, e', by rw [h2]; congr 3; omega, by simpa using h3, h4⟩
    have hfk : (Instr.findKey K (keyV (.arr n q) l) es).run P w = (Instr.findAsking K (keyV (.arr n q) l) es 0).run P w := by
      cases es with
      | nil => simp [Instr.findKey, Instr.findNow, Instr.findAsking, run_underlying hu, Result.andThen]
      | cons e es => simp [Instr.findKey, Instr.findNow, Instr.sameNow, run_underlying hu, Result.andThen]
    rw [hfk]
    rcases ask es 0 hk with h | ⟨j, e, h1, h2, h3⟩
    · exact .inl h
    · exact .inr ⟨j, e, by rwa [Nat.zero_add] at h1, h2, h3⟩
  · have hsb : Instr.sameBits 10000 (.agg (l.map (Value.int q)).toArray) (.agg (l.map (Value.int q)).toArray) = true := by
      show Instr.sameBits (9999 + 1) _ _ = true
      simp only [Instr.sameBits, beq_self_eq_true, Bool.true_and, List.all_eq_true]
      intro p hp
      obtain ⟨j, hj, e⟩ := List.getElem_of_mem hp
      rw [List.getElem_zip] at e
      rw [← e]
      simp [Instr.sameBits]
    show (Instr.keyThatStays (.agg _) (.agg _)).run P w = _
    unfold Instr.keyThatStays
    rw [if_pos hsb]
    rfl
theorem kkOf_sound {P : Program} {K : TypeId} {kk : KK} (h : kkOf P K = some kk) : KeyRun P K kk := by
  unfold kkOf at h
  split at h
  · rename_i q hu
    cases h
    exact keyRun_one hu
  · rename_i n e hu
    split at h
    case h_2 => cases h
    rename_i q he
    split at h
    case h_2 => cases h
    rename_i i hi
    obtain ⟨hs, rfl⟩ := ite_some h
    exact keyRun_arr hu he hi hs
  · cases h
theorem keyL_sound {w X E q} {g : Nat → SV} {vs : Array Value} : ∀ {is : List Nat} {l : List Int}, keyL q g is = some l → (∀ i ∈ is, R w X E (g i) (vs.getD i undef)) → l.length = is.length ∧ is.map (fun i => vs.getD i undef) = l.map (Value.int q)
  | [], l, h, _ => by cases h; exact ⟨rfl, rfl⟩
  | i :: r, l, h, hr => by
    simp only [keyL] at h
    split at h
    case h_2 => cases h
    rename_i q' x hg
    split at h
    case isFalse => cases h
    rename_i hq
    subst hq
    split at h
    case h_2 => cases h
    rename_i l' hl'
    cases h
    obtain ⟨h1, h2⟩ := keyL_sound hl' fun k hk => hr k (List.mem_cons_of_mem _ hk)
    have h3 := hr i List.mem_cons_self
    rw [hg] at h3
    generalize hv : vs.getD i undef = v at h3
    cases h3
    exact ⟨by simp [h1], by rw [List.map_cons, List.map_cons, h2, hv]⟩
theorem keyS_sound {w X E} {kk : KK} {s : SV} {v : Value} {l : List Int} (h : keyS kk s = some l) (hr : R w X E s v) : l.length = kk.len ∧ v = keyV kk l := by
  cases kk with
  | one q =>
    simp only [keyS] at h
    split at h
    case h_2 => cases h
    obtain ⟨rfl, rfl⟩ := ite_some h
    cases hr
    exact ⟨rfl, rfl⟩
  | arr n q =>
    simp only [keyS] at h
    split at h
    case h_2 => cases h
    split at h
    case isFalse => cases h
    rename_i hm
    subst hm
    cases hr with
    | agg hs ho hr =>
      rename_i g vs
      obtain ⟨h1, h2⟩ := keyL_sound h fun i hi => hr i (List.mem_range.1 hi)
      refine ⟨by rw [h1, List.length_range]; rfl, ?_⟩
      simp only [keyV, Value.agg.injEq]
      rw [← h2]
      apply Array.ext'
      simp only
      refine List.ext_getElem (by simp [hs]) fun j h3 h4 => ?_
      simp only [Array.length_toList] at h3
      rw [List.getElem_map, List.getElem_range, Array.getElem_toList]
      simp [Array.getD, h3]
theorem run_lookup_map {P : Program} {w : World} {T K V : TypeId} {kk : KK} {b clock : Nat} {es : Array MapEntry} {has : List Int → Bool} (hT : P.underlying T = some (.map K V)) (hk : KeyRun P K kk) (hb : w.heap[b]? = some (.map es clock)) (hm : MapOK kk es has)
    {l : List Int} (hl : l.length = kk.len) {z : Value} (hz : (zeroValue V).run P w = .ok z w) (ok : Bool) :
    (has l = true ∧ ∃ e ∈ es.toList, e.key = keyV kk l ∧ (Instr.lookup T (.map (some b)) (keyV kk l) ok).run P w = .ok (if ok then .tuple #[e.val, .bool true] else e.val) w) ∨
    (has l = false ∧ (Instr.lookup T (.map (some b)) (keyV kk l) ok).run P w = .ok (if ok then .tuple #[z, .bool false] else z) w) := by
  rcases hk.find w l es.toList hl hm.keys with ⟨h1, h2⟩ | ⟨j, e, h1, h2, h3⟩
  · refine .inr ⟨?_, by simp [Instr.lookup, run_underlying hT, MapKept.run_getObj_map hb, hk.check w _ l hl, h1, hz, Result.andThen]⟩
    cases hh : has l with
    | false => rfl
    | true =>
      obtain ⟨e, he, hke⟩ := (hm.iff l hl).1 hh
      exact absurd hke (h2 e he)
  · have hmem := List.mem_of_getElem? h2
    refine .inl ⟨(hm.iff l hl).2 ⟨e, hmem, h3⟩, e, hmem, h3, by simp [Instr.lookup, run_underlying hT, MapKept.run_getObj_map hb, hk.check w _ l hl, h1, Result.andThen]⟩
theorem MapOK.uniq {kk es has} (hm : MapOK kk es has) {e e' : MapEntry} (h : e ∈ es.toList) (h' : e' ∈ es.toList) (hk : e.key = e'.key) : e = e' := by
  have : ∀ (l : List MapEntry), l.Pairwise (fun e e' => e.key ≠ e'.key) → e ∈ l → e' ∈ l → e = e' := by
    intro l
    induction l with
    | nil => intro _ h; cases h
    | cons a l ih =>
      intro hp h1 h2
      obtain ⟨p1, p2⟩ := List.pairwise_cons.1 hp
      rcases List.mem_cons.1 h1 with e1 | e1
      · rcases List.mem_cons.1 h2 with e2 | e2
        · rw [e1, e2]
        · subst e1; exact absurd hk (p1 _ e2)
      · rcases List.mem_cons.1 h2 with e2 | e2
        · subst e2; exact absurd hk.symm (p1 _ e1)
        · exact ih p2 e1 e2
  exact this _ hm.once h h'
theorem run_mapUpdate_map {P : Program} {w : World} {T K V : TypeId} {kk : KK} {b clock : Nat} {es : Array MapEntry} {has : List Int → Bool} (hT : P.underlying T = some (.map K V)) (hk : KeyRun P K kk) (hb : w.heap[b]? = some (.map es clock)) (hm : MapOK kk es has)
    {l : List Int} (hl : l.length = kk.len) (v : Value) :
    ∃ es' clock', (Instr.mapUpdate T (.map (some b)) (keyV kk l) v).run P w = .ok () (w.putObj b (.map es' clock')) ∧ MapOK kk es' (putH has l) ∧
      ∀ e ∈ es'.toList, (e.key = keyV kk l ∧ e.val = v) ∨ (e.key ≠ keyV kk l ∧ e ∈ es.toList) := by
  have put : ∀ {x : List Int}, putH has l x = true ↔ x = l ∨ has x = true := fun {x} => by simp [putH]
  rcases hk.find w l es.toList hl hm.keys with ⟨h1, h2⟩ | ⟨j, e0, h1, h2, h3⟩
  · refine ⟨es.push { key := keyV kk l, val := v, born := clock }, clock + 1, ?_, ⟨fun e he => ?_, ?_, fun x hx => ?_⟩, fun e he => ?_⟩
    · simp [Instr.mapUpdate, run_underlying hT, MapKept.run_getObj_map hb, hk.check w _ l hl, h1, MapKept.run_setObj_map _ hb, Result.andThen, World.putObj]
    · simp only [Array.toList_push, List.mem_append, List.mem_singleton] at he
      rcases he with he | rfl
      · exact hm.keys e he
      · exact ⟨l, hl, rfl⟩
    · rw [Array.toList_push, List.pairwise_append]
      refine ⟨hm.once, List.pairwise_singleton _ _, fun e he e' he' => ?_⟩
      rw [List.mem_singleton] at he'
      subst he'
      exact h2 e he
    · rw [put, Array.toList_push]
      simp only [List.mem_append, List.mem_singleton]
      constructor
      · rintro (rfl | hh)
        · exact ⟨_, .inr rfl, rfl⟩
        · obtain ⟨e, he, hke⟩ := (hm.iff x hx).1 hh
          exact ⟨e, .inl he, hke⟩
      · rintro ⟨e, he | rfl, hke⟩
        · exact .inr ((hm.iff x hx).2 ⟨e, he, hke⟩)
        · exact .inl (keyV_inj hx hl hke.symm)
    · simp only [Array.toList_push, List.mem_append, List.mem_singleton] at he
      rcases he with he | rfl
      · exact .inr ⟨h2 e he, he⟩
      · exact .inl ⟨rfl, rfl⟩
  · have hmem := List.mem_of_getElem? h2
    rw [Array.getElem?_toList] at h2
    have hjl : j < es.size := (Array.getElem?_eq_some_iff.1 h2).1
    have hget : ∀ i, (es.modify j fun e => { e with key := keyV kk l, val := v }).toList[i]? = if j = i then (es.toList[i]?).map (fun e => { e with key := keyV kk l, val := v }) else es.toList[i]? := fun i => by
      rw [Array.getElem?_toList, Array.getElem?_modify, Array.getElem?_toList]
    have hkeys : (es.modify j fun e => { e with key := keyV kk l, val := v }).toList.map (·.key) = es.toList.map (·.key) := MapKept.modify_keys j _ fun e he => by
      rw [h2] at he; cases he; exact h3.symm
    have hsome : has l = true := (hm.iff l hl).2 ⟨e0, hmem, h3⟩
    refine ⟨es.modify j fun e => { e with key := keyV kk l, val := v }, clock, ?_, ⟨fun e he => ?_, ?_, fun x hx => ?_⟩, fun e he => ?_⟩
    · simp [Instr.mapUpdate, run_underlying hT, MapKept.run_getObj_map hb, hk.check w _ l hl, h1, h2, h3, hk.stays w l hl, MapKept.run_setObj_map _ hb, Result.andThen, World.putObj]
    · have : e.key ∈ (es.modify j fun e => { e with key := keyV kk l, val := v }).toList.map (·.key) := List.mem_map_of_mem he
      rw [hkeys] at this
      obtain ⟨e', he', hk'⟩ := List.mem_map.1 this
      rw [← hk']
      exact hm.keys e' he'
    · have h9 : (es.toList.map (fun e : MapEntry => e.key)).Pairwise (· ≠ ·) := List.pairwise_map.2 hm.once
      rw [← hkeys] at h9
      exact List.pairwise_map.1 h9
    · rw [put]
      have hmm : ∀ (k : Value), (∃ e ∈ (es.modify j fun e => { e with key := keyV kk l, val := v }).toList, e.key = k) ↔ ∃ e ∈ es.toList, e.key = k := fun k => by
        have h9 := List.mem_map (b := k) (f := fun e : MapEntry => e.key) (l := (es.modify j fun e => { e with key := keyV kk l, val := v }).toList)
        rw [hkeys] at h9
        exact h9.symm.trans List.mem_map
      rw [hmm, ← hm.iff x hx]
      exact ⟨fun h => h.elim (fun h => by rw [h]; exact hsome) id, .inr⟩
    · obtain ⟨i, hi⟩ := List.mem_iff_getElem?.1 he
      rw [hget] at hi
      split at hi
      · rename_i hji
        subst hji
        rw [Array.getElem?_toList, h2] at hi
        cases hi
        exact .inl ⟨rfl, rfl⟩
      · have hme := List.mem_of_getElem? hi
        refine .inr ⟨fun hc => ?_, hme⟩
        rename_i hji
        have heq := hm.uniq hme hmem (hc.trans h3.symm)
        subst heq
        -- one key at two places
        have h4 : es.toList[j]? = some e := by rw [Array.getElem?_toList]; exact h2
        have hnd := hm.once
        rw [List.pairwise_iff_getElem] at hnd
        obtain ⟨i1, i2⟩ := List.getElem?_eq_some_iff.1 hi
        obtain ⟨j1, j2⟩ := List.getElem?_eq_some_iff.1 h4
        rcases Nat.lt_or_gt_of_ne hji with hlt | hgt
        · exact hnd j i j1 i1 hlt (by rw [j2, i2])
        · exact hnd i j i1 j1 hgt (by rw [j2, i2])
theorem tmap_spec {P : Program} {t : TypeId} {ke : TypeId × TypeId} (h : tmap P t = some ke) : P.underlying t = some (.map ke.1 ke.2) := by
  unfold tmap at h
  split at h
  · rename_i k e hu; cases h; exact hu
  · cases h
theorem tzv_run {P : Program} {e : TypeId} {z : Value} (h : tzv P e = some z) (w : World) : (zeroValue e).run P w = .ok z w := by
  unfold tzv at h
  cases hi : P.info? e with
  | none => rw [hi] at h; cases h
  | some i =>
    rw [hi] at h
    simp only at h
    simp [zeroValue, typeInfo, hi, h, Result.andThen]
theorem ofV_cap0 {z : Value} (h : ofV z = .cap0) : z = .slice none 0 0 := by
  unfold ofV at h
  split at h <;> first | rfl | cases h
theorem evMakeMap_sound {P : Program} {w0 X0 H E w nm} (h : Rep w0 X0 H E w) {t : TypeId} {y : Yd} (hy : evMakeMap P t nm = some y) (hf : Free H E nm y.eff) :
    ∃ u w', (Instr.makeMap t none).run P w = .ok u w' ∧ Goes w0 X0 H E w nm y.eff y.val u w' := by
  have hrun : (Instr.makeMap t none).run P w = .ok (.map (some w.heap.size)) (w.alloc (.map #[] 0)) := by simp [Instr.makeMap, Result.andThen]
  have hnew := heap_new' w (.map #[] 0)
  have hbel : Below w.heap.size w (w.alloc (.map #[] 0)) := Below.allocs w _
  have hmok : ∀ kk, MapOK kk #[] (fun _ => false) := fun kk => ⟨fun e he => by simp at he, by simp, fun l _ => by simp⟩
  unfold evMakeMap at hy
  split at hy
  case h_2 => cases hy
  split at hy
  case h_2 => cases hy
  rename_i kk _
  split at hy
  · split at hy
    case h_2 => cases hy
    cases hy
    refine ⟨_, _, hrun, Goes.new (e := .slc 0 (.map (some w.heap.size)) (fun _ => none)) h hf hbel (fun b hb => ?_) (fun _ _ _ => ⟨rfl, _, _, _, rfl, hnew, ⟨hmok _, fun y e he => by simp at he, fun y _ => ⟨rfl, rfl⟩, fun h sv fl hh => (nomatch hh), fun y y' b _ _ hc => (nomatch hc)⟩⟩) fun X => .omap (Env.put_same _ _ _)⟩
    rcases hb with hb | ⟨y, _, hb⟩
    · simp only [mblk, Option.some.injEq] at hb; omega
    · cases hb
  · cases hy
    refine ⟨_, _, hrun, Goes.new (e := .slc 0 (.map (some w.heap.size)) (fun _ => none)) h hf hbel (fun b hb => ?_) (fun _ _ _ => ⟨rfl, _, _, _, rfl, hnew, hmok _, fun l e _ he => by simp at he, fun hc => (nomatch hc)⟩) fun X => .omap (Env.put_same _ _ _)⟩
    simp only [holds, mblk, Option.some.injEq] at hb
    omega
theorem omap_inv {w X E k v} (h : R w X E (.omap k) v) : ∃ b, v = .map (some b) ∧ ∃ ver v' us, E k = some (.slc ver v' us) ∧ (ver = 0 → v' = .map (some b)) := by
  cases h with
  | omap he => exact ⟨_, rfl, _, _, _, he, fun _ => rfl⟩
  | omapOld he hl => exact ⟨_, rfl, _, _, _, he, fun hz => by omega⟩
theorem evLookup_sound {P : Program} {w0 X0 H E w nm} (h : Rep w0 X0 H E w) {T : TypeId} {ke : TypeId × TypeId} (hT : tmap P T = some ke) {kk : KK} (hkk : kkOf P ke.1 = some kk) {z : Value} (hz : tzv P ke.2 = some z) {x i : SV} {v u : Value}
    (hx : R w (Xo X0 E H) E x v) (hi : R w (Xo X0 E H) E i u) {ok : Bool} {y : Yd} (hy : evLookup kk (ofV z) H x i ok = some y) (hask : y.ask) :
    ∃ r w', (Instr.lookup T v u ok).run P w = .ok r w' ∧ Goes w0 X0 H E w nm y.eff y.val r w' := by
  have hTu := tmap_spec hT
  have hkr := kkOf_sound hkk
  unfold evLookup at hy
  split at hy
  case h_2 => cases hy
  rename_i k
  obtain ⟨b, rfl, ver, v', us, he, hver⟩ := omap_inv hx
  have hok := h.ok k _ he
  split at hy
  · rename_i kk' tot has val hk
    rw [hk] at hok
    obtain ⟨rfl, b', es, clock, rfl, hb, hm, h4, h5⟩ := hok
    cases hver rfl
    split at hy
    case isFalse => cases hy
    rename_i hkk'
    subst hkk'
    split at hy
    case h_2 => cases hy
    rename_i l hl
    obtain ⟨hll, rfl⟩ := keyS_sound hl hi
    have hlook := fun ok => run_lookup_map hTu hkr hb hm hll (tzv_run hz w) ok
    split at hy
    · -- every key has its value
      split at hy
      · cases hy
      split at hy
      case h_2 => cases hy
      rename_i hz0
      cases hy
      have hz1 := ofV_cap0 hz0
      rcases hlook false with ⟨hh, e, he, hke, hrun⟩ | ⟨hh, hrun⟩
      · exact ⟨_, _, hrun, Goes.pure h (up (h4 l e hll he hke))⟩
      · refine ⟨_, _, hrun, Goes.pure h (up ?_)⟩
        simp only [Bool.false_eq_true, if_false]
        rw [hz1]
        exact h5 rfl l hll hh
    · split at hy
      · cases hy
        rcases hlook true with ⟨hh, e, he, hke, hrun⟩ | ⟨hh, hrun⟩
        · refine ⟨_, _, hrun, Goes.pure h ?_⟩
          simp only [if_true]
          rw [hh, selS_eq]
          refine .tup rfl fun j hj => ?_
          match j, hj with
          | 0, _ => exact up (h4 l e hll he hke)
          | 1, _ => exact .bool
        · refine ⟨_, _, hrun, Goes.pure h ?_⟩
          simp only [if_true]
          rw [hh, selS_eq]
          refine .tup rfl fun j hj => ?_
          match j, hj with
          | 0, _ => exact ofV_sound z
          | 1, _ => exact .bool
      · cases hy
        rcases hlook false with ⟨hh, e, he, hke, hrun⟩ | ⟨hh, hrun⟩
        · refine ⟨_, _, hrun, Goes.pure h ?_⟩
          rw [hh, selS_eq]
          exact up (h4 l e hll he hke)
        · refine ⟨_, _, hrun, Goes.pure h ?_⟩
          rw [hh, selS_eq]
          exact ofV_sound z
  · rename_i kd has c m p T' ho hk
    rw [hk] at hok
    obtain ⟨rfl, b', es, clock, rfl, hb, d⟩ := hok
    cases hver rfl
    split at hy
    · cases hy
    split at hy
    case h_2 => cases hy
    rename_i q
    obtain ⟨hkey, sv, fl⟩ := q
    split at hy
    case h_2 => cases hy
    rename_i l hl
    split at hy
    case h_2 => cases hy
    rename_i hz0
    obtain ⟨rfl, rfl⟩ := ite_some hy
    obtain ⟨hq⟩ := hask
    simp only at hq
    subst hq
    have hz1 := ofV_cap0 hz0
    obtain ⟨hll, rfl⟩ := keyS_sound hl hi
    obtain ⟨o1, o2, o3⟩ := d.out _ _ _ rfl
    rcases run_lookup_map hTu hkr hb d.map hll (tzv_run hz w) false with ⟨hh, e, he, hke, hrun⟩ | ⟨hh, hrun⟩
    · exact ⟨_, _, hrun, Goes.pure h (o2 e he hke)⟩
    · refine ⟨_, _, hrun, Goes.pure h ?_⟩
      simp only [Bool.false_eq_true, if_false]
      rw [hz1]
      exact o3 hh
  · cases hy
theorem evMapUpd_sound {P : Program} {w0 X0 H E w nm} (h : Rep w0 X0 H E w) {T : TypeId} {ke : TypeId × TypeId} (hT : tmap P T = some ke) {kk : KK} (hkk : kkOf P ke.1 = some kk) {x i s : SV} {v u r : Value}
    (hx : R w (Xo X0 E H) E x v) (hi : R w (Xo X0 E H) E i u) (hs : R w (Xo X0 E H) E s r) {y : Yd} (hy : evMapUpd kk H x i s = some y) (hask : y.ask) :
    ∃ w', (Instr.mapUpdate T v u r).run P w = .ok () w' ∧ Goes w0 X0 H E w nm y.eff .any undef w' ∧ y.val = .any := by
  have hTu := tmap_spec hT
  have hkr := kkOf_sound hkk
  unfold evMapUpd at hy
  split at hy
  case h_2 => cases hy
  rename_i k
  obtain ⟨b, rfl, ver, v', us, he, hver⟩ := omap_inv hx
  have hok := h.ok k _ he
  split at hy
  · rename_i kk' tot has val hk
    rw [hk] at hok
    obtain ⟨rfl, b', es, clock, rfl, hb, hm, h4, h5⟩ := hok
    cases hver rfl
    split at hy
    case isFalse => cases hy
    rename_i hkk'
    subst hkk'
    split at hy
    case h_2 => cases hy
    rename_i l hl
    obtain ⟨hpu, rfl⟩ := ite_some hy
    obtain ⟨hll, rfl⟩ := keyS_sound hl hi
    obtain ⟨es', clock', hrun, hm', hes⟩ := run_mapUpdate_map hTu hkr hb hm hll r
    have hput : E.put k (.slc 0 (.map (some b)) us) = E := Env.put_self he
    refine ⟨_, hrun, Goes.set (e' := .slc 0 (.map (some b)) us) h he (by rw [hput]; exact Env.le_refl _) (fun b' _ hb' => World.putObj_heap_other fun hc => ?_) rfl rfl rfl (by simp) (fun b' hb' => .inl (by rw [hk]; exact hb')) (fun hke hwi => ?_) fun X => .any, rfl⟩
    · subst hc; exact hb' (by rw [hk]; rfl)
    · rw [hput] at hwi ⊢
      refine ⟨rfl, b, es', clock', rfl, World.putObj_heap_same (lt_of_block hb), hm', fun l' e hl' he' hke' => ?_, fun ht l' hl' hh => ?_⟩
      · rcases hes e he' with ⟨e1, e2⟩ | ⟨e1, e2⟩
        · have hll' : l' = l := keyV_inj hl' hll (hke'.symm.trans e1)
          subst hll'
          unfold putV
          rw [selS_eq, decide_eq_true rfl, e2]
          exact (isPure_sound 6 _ _ hpu hs).mono hke hwi (Env.le_refl _)
        · have hne : l' ≠ l := fun hc => e1 (by rw [hke', hc])
          unfold putV
          rw [selS_eq, decide_eq_false hne]
          exact (h4 l' e hl' e2 hke').mono hke hwi (Env.le_refl _)
      · simp only [putH, Bool.or_eq_false_iff, decide_eq_false_iff_not] at hh
        unfold putV
        rw [selS_eq, decide_eq_false hh.1]
        exact (h5 ht l' hl' hh.2).mono hke hwi (Env.le_refl _)
  · rename_i kd has c m p T' ho hk
    rw [hk] at hok
    obtain ⟨rfl, b', es, clock, rfl, hb, d⟩ := hok
    cases hver rfl
    split at hy
    case h_2 => cases hy
    rename_i q
    obtain ⟨hkey, sv, fl⟩ := q
    split at hy
    case h_2 => cases hy
    rename_i l hl
    obtain ⟨rfl, rfl⟩ := ite_some hy
    obtain ⟨hq⟩ := hask
    simp only at hq
    subst hq
    obtain ⟨hll, rfl⟩ := keyS_sound hl hi
    obtain ⟨es', clock', hrun, hm', hes⟩ := run_mapUpdate_map hTu hkr hb d.map hll r
    have hput : E.put k (.slc 0 (.map (some b)) us) = E := Env.put_self he
    have hho : ∀ sv' fl' yy, hoI (some (l.getD 0 0, sv', fl')) yy = none ↔ l.getD 0 0 ≠ yy := fun sv' fl' yy => by
      simp only [hoI]; split <;> simp_all
    refine ⟨_, hrun, Goes.set (e' := .slc 0 (.map (some b)) us) h he (by rw [hput]; exact Env.le_refl _) (fun b' _ hb' => World.putObj_heap_other fun hc => ?_) rfl rfl rfl (by simp) (fun b' hb' => .inl ?_) (fun hke hwi => ?_) fun X => .any, rfl⟩
    · subst hc; exact hb' (by rw [hk]; exact .inl rfl)
    · rw [hk]
      rcases hb' with hb' | ⟨yy, h1, h2⟩
      · exact .inl hb'
      · exact .inr ⟨yy, (hho _ _ _).2 ((hho _ _ _).1 h1), h2⟩
    · rw [hput] at hwi ⊢
      have hkey : keyV (.one kd) l = .int kd (l.getD 0 0) := rfl
      refine ⟨rfl, b, es', clock', rfl, World.putObj_heap_same (lt_of_block hb), ⟨⟨hm'.keys, hm'.once, fun l' hl' => ?_⟩, fun yy e he' hke' hh => ?_, fun yy hh => ?_, fun hy sv' fl' hho' => ?_, fun yy yy' b1 h1 h2 => ?_⟩⟩
      · rw [← hm'.iff l' hl']
        match l', l, hl', hll with
        | [a], [c], _, _ => simp [putI, putH]
      · have hne := (hho _ _ _).1 hh
        rcases hes e he' with ⟨e1, e2⟩ | ⟨e1, e2⟩
        · rw [hke', hkey] at e1
          cases e1
          exact absurd rfl hne
        · obtain ⟨g1, ys, g2, g3⟩ := d.inn yy e e2 hke' ((hho _ _ _).2 hne)
          refine ⟨g1, ys, g2.mono fun b1 ⟨a, m', c', e3, e4⟩ => ?_, fun i' j hi' hj => ⟨(g3 i' j hi' hj).1, (g3 i' j hi' hj).2.mono hke hwi (Env.le_refl _)⟩⟩
          have hcell : ∃ cc TT ff, w.heap[b1]? = some (.cells cc TT ff) := by
            rcases g2 with ⟨a', q1, q2, q3⟩ | ⟨b2, cap, cur, q1, q2, _⟩
            · rw [e3] at q1; cases q1
            · rw [e3] at q1; cases q1; subst e4; exact ⟨_, _, _, q2⟩
          refine World.putObj_heap_other fun hc => ?_
          obtain ⟨cc, TT, ff, h9⟩ := hcell
          rw [hc, hb] at h9
          cases h9
      · simp only [putI, Bool.or_eq_false_iff, decide_eq_false_iff_not] at hh
        exact d.gone yy hh.2
      · cases hho'
        refine ⟨fun _ => by simp [putI], fun e he' hke' => ?_, fun hc => by simp [putI] at hc⟩
        rcases hes e he' with ⟨e1, e2⟩ | ⟨e1, e2⟩
        · rw [e2]
          exact hs.mono hke hwi (Env.le_refl _)
        · exact absurd (by rw [hke', hkey]) e1
      · exact d.inj yy yy' b1 ((hho _ _ _).2 ((hho _ _ _).1 h1)) ((hho _ _ _).2 ((hho _ _ _).1 h2))
  · cases hy
end Go.Proofs.YthappngbapbkfaaDoor.Sx
/- The evaluation tells the truth: calls of functions by their specifications. -/
namespace Go.Proofs.YthappngbapbkfaaDoor.Sx
open Go.RowKit
/-- HF knows what H knows. -/
def Ext (H HF : List SO) : Prop := ∀ k, H.getD k .dead ≠ .dead → HF.getD k .dead = H.getD k .dead
/-- The arguments' values. -/
def ArgsR (w : World) (X : Nat → Prop) (E : Env) (ss : List SV) (vs : Array Value) : Prop := vs.size = ss.length ∧ ∀ i, i < ss.length → R w X E (ss.getD i .any) (vs.getD i undef)
/-- The function answers as its specification says, whatever lies in memory besides. -/
def SpecOK (P : Program) (s : FSpec) : Prop :=
  (∀ args w, (callFunc s.f args).run P w = .ok (.enter s.f args) w) ∧
  (∀ args H HF nm y, Ext H HF → (∀ l, y.eff ≠ .sets l) → s.run args H nm = some y → s.run args HF nm = some y) ∧
  ∀ (args : List SV) (H : List SO) (nm : Nat) (y : Yd), s.run args H nm = some y → y.ask → ∀ (w0 : World) (X0 : Fr) (E : Env) (w : World), Rep w0 X0 H E w → Free H E nm y.eff → ∀ (vals : Array Value), ArgsR w (Xo X0 E H) E args vals →
    Calls P s.f vals w fun e w' => ∃ v, e = .returned v ∧ Goes w0 X0 H E w nm y.eff y.val v w'
/-- The same, of one frame. -/
def SpecAt (P : Program) (w0 : World) (X0 : Fr) (s : FSpec) : Prop :=
  (∀ args w, (callFunc s.f args).run P w = .ok (.enter s.f args) w) ∧
  (∀ args H HF nm y, Ext H HF → (∀ l, y.eff ≠ .sets l) → s.run args H nm = some y → s.run args HF nm = some y) ∧
  ∀ (args : List SV) (H : List SO) (nm : Nat) (y : Yd), s.run args H nm = some y → y.ask → ∀ (E : Env) (w : World), Rep w0 X0 H E w → Free H E nm y.eff → ∀ (vals : Array Value), ArgsR w (Xo X0 E H) E args vals →
    Calls P s.f vals w fun e w' => ∃ v, e = .returned v ∧ Goes w0 X0 H E w nm y.eff y.val v w'
theorem SpecOK.at {P : Program} {s : FSpec} (h : SpecOK P s) (w0 : World) (X0 : Fr) : SpecAt P w0 X0 s :=
  ⟨h.1, h.2.1, fun args H nm y hr ha E w hrep hf vals hA => h.2.2 args H nm y hr ha w0 X0 E w hrep hf vals hA⟩
theorem findS_mem {specs : List FSpec} {f : FuncId} {s : FSpec} (h : findS specs f = some s) : s ∈ specs ∧ s.f = f := by
  induction specs with
  | nil => simp [findS] at h
  | cons t r ih =>
    simp only [findS] at h
    split at h
    · rename_i hf
      cases h
      exact ⟨List.mem_cons_self, hf⟩
    · obtain ⟨h1, h2⟩ := ih h
      exact ⟨List.mem_cons_of_mem _ h1, h2⟩
theorem Rep.ext' {w0 X0 H H' E w} (h : Rep w0 X0 H E w) (hl : H.length ≤ H'.length) (hh' : ∀ k e, E k = some e → H'.getD k .dead = H.getD k .dead) : Rep w0 X0 H' E w := by
  refine ⟨h.below, h.x0, h.nm, fun k e he => Nat.lt_of_lt_of_le (h.dom k e he) hl, fun k e he => ?_, fun k e b he hb => ?_, fun k k' e e' b he he' hb hb' => ?_⟩
  · rw [Xo_ext hh', hh' k e he]; exact h.ok k e he
  · rw [hh' k e he] at hb; exact h.low k e b he hb
  · rw [hh' k e he] at hb; rw [hh' k' e' he'] at hb'; exact h.inj k k' e e' b he he' hb hb'
theorem frzO_frz {H : List SO} {k : Nat} {so : SO} (h : frzO H k = some so) : frz H k = some (H.set k so) := by
  unfold frzO at h
  unfold frz
  generalize H.getD k .dead = o at *
  cases o <;> simp only [reduceCtorEq] at h
  · obtain ⟨h1, rfl⟩ := ite_some h
    simp only
    rw [if_pos h1]
  · cases h; rfl
  · rename_i ho
    cases ho with
    | none => cases h; rfl
    | some q => cases h
theorem frzO_sound {w0 X0 H E w} (h : Rep w0 X0 H E w) {k : Nat} {so : SO} (hf : frzO H k = some so) : Rep w0 X0 (H.set k so) E w ∧ Within (Xo X0 E H) (Xo X0 E (H.set k so)) w := by
  cases hk : E k with
  | some e => exact h.frz (frzO_frz hf) hk
  | none =>
    have hh : ∀ j e, E j = some e → (H.set k so).getD j .dead = H.getD j .dead := fun j e hj => getD_set_ne' (fun hc => by subst hc; rw [hk] at hj; cases hj)
    refine ⟨h.ext' (by simp) hh, ?_⟩
    rw [Xo_ext hh]
    exact Within.refl _ _
theorem Within.trans {X Y Z : Nat → Prop} {w : World} (h : Within X Y w) (k : Within Y Z w) : Within X Z w := fun b hb hz => h b hb (k b hb hz)
theorem frzAll_sound {w0 X0 E w} : ∀ (ks : List Nat) (H : List SO) (l : List (Nat × SO)), Rep w0 X0 H E w → frzAll H ks = some l → Rep w0 X0 (applyS H l) E w ∧ Within (Xo X0 E H) (Xo X0 E (applyS H l)) w
  | [], H, l, h, hl => by simp only [frzAll, Option.some.injEq] at hl; subst hl; exact ⟨h, Within.refl _ _⟩
  | k :: r, H, l, h, hl => by
    simp only [frzAll] at hl
    cases hf : frzO H k with
    | none => rw [hf] at hl; exact frzAll_sound r H l h hl
    | some so =>
      rw [hf] at hl
      simp only at hl
      cases hr : frzAll (H.set k so) r with
      | none => rw [hr] at hl; cases hl
      | some l' =>
        rw [hr] at hl
        simp only [Option.map_some, Option.some.injEq] at hl
        subst hl
        obtain ⟨h1, h2⟩ := frzO_sound h hf
        obtain ⟨h3, h4⟩ := frzAll_sound r _ l' h1 hr
        exact ⟨h3, h2.trans h4⟩
theorem evCall_spec {specs : List FSpec} {f : FuncId} {H : List SO} {nm : Nat} {ss : List SV} {y : Yd} (hy : evCall specs f H nm ss = some y) :
    ∃ s ∈ specs, s.f = f ∧ s.run ss H nm = some y ∧ (∀ l, y.eff = .sets l → s.eff = true) := by
  unfold evCall at hy
  cases hs : findS specs f with
  | none => simp [hs] at hy
  | some s =>
    obtain ⟨hmem, rfl⟩ := findS_mem hs
    simp only [hs] at hy
    cases hr : s.run ss H nm with
    | none => simp [hr] at hy
    | some y' =>
      simp only [hr] at hy
      split at hy
      · rename_i l hl
        split at hy
        · rename_i he; cases hy; exact ⟨s, hmem, rfl, hr, fun _ _ => he⟩
        · cases hy
      · rename_i hne; cases hy; exact ⟨s, hmem, rfl, hr, fun l hl => absurd hl (hne l)⟩
theorem evCall_ext {P : Program} {w0 : World} {X0 : Fr} {specs : List FSpec} (hspecs : ∀ s ∈ specs, SpecAt P w0 X0 s) {f : FuncId} {H HF : List SO} {nm : Nat} {ss : List SV} {y : Yd} (he : Ext H HF) (hns : ∀ l, y.eff ≠ .sets l) (hy : evCall specs f H nm ss = some y) : evCall specs f HF nm ss = some y := by
  unfold evCall at hy ⊢
  cases hs : findS specs f with
  | none => simp [hs] at hy
  | some s =>
    obtain ⟨hmem, rfl⟩ := findS_mem hs
    simp only [hs] at hy ⊢
    cases hr : s.run ss H nm with
    | none => simp [hr] at hy
    | some y' =>
      simp only [hr] at hy
      have hyy : y' = y := by
        split at hy
        · split at hy
          · exact Option.some.inj hy
          · cases hy
        · exact Option.some.inj hy
      subst hyy
      rw [(hspecs s hmem).2.1 ss H HF nm y' he hns hr]
      exact hy
/-- A call: what the specification answers. -/
theorem evCall_sound {P : Program} {w0 X0 H E w nm} (h : Rep w0 X0 H E w) {specs : List FSpec} (hspecs : ∀ s ∈ specs, SpecAt P w0 X0 s) {f : FuncId} {ss : List SV} {vs : Array Value} (ha : ArgsR w (Xo X0 E H) E ss vs) {y : Yd}
    (hy : evCall specs f H nm ss = some y) (hask : y.ask) (hf : Free H E nm y.eff) : (callFunc f vs).run P w = .ok (.enter f vs) w ∧ Calls P f vs w fun e w' => ∃ v, e = .returned v ∧ Goes w0 X0 H E w nm y.eff y.val v w' := by
  obtain ⟨s, hmem, rfl, hr, _⟩ := evCall_spec hy
  obtain ⟨hent, _, hok⟩ := hspecs s hmem
  exact ⟨hent vs w, hok ss H nm y hr hask E w h hf vs ha⟩
/-! The operations. -/
def mapArgs (N : Nat) (τ : Tmps) (xs : Array Operand) : List SV := xs.toList.map (evO N τ)
def optO (N : Nat) (τ : Tmps) : Option Operand → Option (Option (IntKind × Int))
  | none => some none
  | some x => match evO N τ x with
    | .int k n => some (some (k, n))
    | _ => none
def evBuiltin (P : Program) (H : List SO) (nm : Nat) (b : Builtin) (ats : Array TypeId) (ss : List SV) : Option Yd :=
  match b with
  | .append => match ats.toList, ss with
    | [t, t'], [s, x] => if t = t' then match tsl P t with
      | some te => match tzero P te.1 with
        | some _ => evAppend te H nm s x
        | none => none
      | none => none
      else none
    | _, _ => none
  | .len => match ats.toList, ss with
    | [t], [s] => match tsl P t with
      | some _ => match s with
        | .str _ => none
        | s => match lenOf H s with
          | some n => some ⟨True, .int .i64 (n : Int), .keep⟩
          | none => none
      | none => match tarr P t with
        | some ai => pureY (.int .i64 ai.1)
        | none => match tstr P t with
          | true => evLenB s
          | false => none
    | _, _ => none
  | .copy => match ats.toList, ss with
    | [t, _], [s, x] => match tsl P t with
      | some te => evCopy te H s x
      | none => none
    | _, _ => none
  | .clear => match ats.toList, ss with
    | [t], [s] => match tsl P t with
      | some te => match tzero P te.1 with
        | some z => evClear te z H s
        | none => none
      | none => none
    | _, _ => none
  | .min => evMin (fun a b => if b < a then b else a) ss
  | .max => evMin (fun a b => if b > a then b else a) ss
  | _ => none
def evOp (P : Program) (specs : List FSpec) (eqs : List (TypeId × List CK)) (N : Nat) (τ : Tmps) (H : List SO) (nm : Nat) (o : Oper) : Option Yd :=
  match o.op with
  | .move x => pureY (evO N τ x)
  | .assign x => pureY (evO N τ x)
  | .pick c a b => match evO N τ c with
    | .lit t => match t with
      | true => pureY (evO N τ a)
      | false => pureY (evO N τ b)
    | .bool t => match asB (evO N τ a), asB (evO N τ b) with
      | some p, some q => pureY (.bool (if t = true then p else q))
      | _, _ => none
    | _ => none
  | .alloc T => match tzero P T with
    | some z => some ⟨True, .own nm 0, .new (.cells z.length (zeroF z) T)⟩
    | none => none
  | .box T x => match cellsOf (evO N τ x) with
    | some (n, g) => some ⟨True, .own nm 0, .new (.cells n g T)⟩
    | none => none
  | .build T parts => match tzero P T with
    | some z => match tflds P T with
      | some fl => evBuildS z fl (parts.toList.map fun p => (p.1, evO N τ p.2))
      | none => match tarr P T with
        | some ai => evBuildA z ai.2.1 (parts.toList.map fun p => (p.1, evO N τ p.2))
        | none => none
    | none => none
  | .buildSlice T len parts => match tsl P T with
    | some te => match tzero P te.1 with
      | some z => evBuildSlice te z nm len (parts.toList.map fun p => (p.1, evO N τ p.2))
      | none => none
    | none => none
  | .load T x => match tinf P T with
    | some ti => evLoad ti H (evO N τ x)
    | none => none
  | .store T x z => match tinf P T with
    | some ti => evStore ti H (evO N τ x) (evO N τ z)
    | none => none
  | .nilCheck x => evNil (evO N τ x)
  | .binOp op T x y _ => match isNilO y with
    | true => match tsl P T with
      | some _ => evNilC op (evO N τ x)
      | none => none
    | false => ev2 op eqs (tbool P T) (tfunc P T) T (evO N τ x) (evO N τ y)
  | .unOp op _ x => ev1 op (evO N τ x)
  | .convert s d x => match tint P s, tint P d with
    | some _, some k => evConvert k (evO N τ x)
    | _, _ => none
  | .makeFunc (.func f) first caps => if first.size = 0 then pureY (.fn f caps.size (fun i => (mapArgs N τ caps).getD i .any)) else none
  | .makeSlice T l c => match tsl P T with
    | some te => match tzero P te.1 with
      | some z => match evO N τ l, evO N τ c with
        | .int _ l, .int _ c => evMakeSlice te z nm l c
        | _, _ => none
      | none => none
    | none => none
  | .slice T x lo hi mx => match tsl P T with
    | some te => match optO N τ lo, optO N τ hi, optO N τ mx with
      | some lo, some hi, some mx => match lo, hi, mx with
        | none, some (_, h), some (_, m) => if h = 0 ∧ m = 0 then evCut0 (evO N τ x) else evSlice te.2.1 H (optI lo) (optI hi) (optI mx) (evO N τ x)
        | _, _, _ => evSlice te.2.1 H (optI lo) (optI hi) (optI mx) (evO N τ x)
      | _, _, _ => none
    | none => none
  | .fieldAddr T x f => match tfld P T f with
    | some fd => evFieldAddr fd (evO N τ x)
    | none => none
  | .field T x f => match tfld P T f with
    | some fd => evField fd (evO N τ x)
    | none => none
  | .indexAddr T x i => match evO N τ i with
    | .int _ i => match tsl P T with
      | some te => evIndexAddrS te.2.1 H i (evO N τ x)
      | none => match tarr P T with
        | some ai => evIndexAddrA ai.1 ai.2.1 i (evO N τ x)
        | none => none
    | _ => none
  | .index T x i => match evO N τ i with
    | .int _ i => match tarr P T with
      | some ai => evIndex ai i (evO N τ x)
      | none => match tstr P T with
        | true => evIndexB i (evO N τ x)
        | false => none
    | _ => none
  | .extract x i => evExtract i (evO N τ x)
  | .call c => match c.callee with
    | .builtin b => evBuiltin P H nm b c.argTypes (mapArgs N τ c.args)
    | .value f => match evO N τ f with
      | .fn F n g => evCall specs F H nm (mapArgs N τ c.args ++ (List.range n).map g)
      | _ => none
    | _ => none
  | .makeMap T r => match r with
    | none => evMakeMap P T nm
    | some _ => none
  | .lookup T x i ok => match tmap P T with
    | some ke => match kkOf P ke.1, tzv P ke.2 with
      | some kk, some z => evLookup kk (ofV z) H (evO N τ x) (evO N τ i) ok
      | _, _ => none
    | none => none
  | .mapUpdate T x i v => match tmap P T with
    | some ke => match kkOf P ke.1 with
      | some kk => evMapUpd kk H (evO N τ x) (evO N τ i) (evO N τ v)
      | none => none
    | none => none
  | _ => none
end Go.Proofs.YthappngbapbkfaaDoor.Sx
/- The evaluation tells the truth: every operation. -/
namespace Go.Proofs.YthappngbapbkfaaDoor.Sx
open Go.RowKit
/-- The fences of which the evaluation speaks: the wide one, and that of a round. -/
def Wd (F : Fence) : Prop := F = Fence.wide ∨ ∃ l, F = Fence.wide.inRound l
theorem Wd.wide : Wd Fence.wide := .inl rfl
theorem Wd.fn {F : Fence} (h : Wd F) (f : FuncId) : F.fn f := by
  rcases h with rfl | ⟨l, rfl⟩ <;> trivial
theorem Wd.depth {F : Fence} (h : Wd F) : F.depth = none := by
  rcases h with rfl | ⟨l, rfl⟩ <;> rfl
theorem Wd.calls {F : Fence} (h : Wd F) {n : Nat} {P : Program} {f : FuncId} {args : Array Value} {w : World} {R : Ending → World → Prop} (hc : Calls P f args w R) : CallsIn F n P f args w R := by
  rcases h with rfl | ⟨l, rfl⟩
  · exact callsIn_wide.2 hc
  · exact CallsIn.inRound l (callsIn_wide.2 hc)
theorem semAt_run {P : Program} {ro : Option Nat} {ρ : Operand → Value} {o : Oper} {w w' : World} {r : Next} (hd : ∀ d, r ≠ .defer d) (h : (execOp ρ o).run P w = .ok r w') : (o.semAt ro ρ).run P w = .ok r w' := by
  by_cases hc : ∃ c, o.op = .defer c
  · obtain ⟨c, hc⟩ := hc
    exfalso
    unfold execOp at h
    rw [hc] at h
    simp only [Sem.run_bind] at h
    cases hr : (resolve ρ c o.type).run P w with
    | ok d w2 =>
      rw [hr] at h
      simp only [Result.andThen, Sem.run_pure, Result.ok.injEq] at h
      exact hd d h.1.symm
    | halt x w2 => rw [hr] at h; simp [Result.andThen] at h
  · rw [Oper.semAt_eq _ _ _ fun c hc' => hc ⟨c, hc'⟩]
    exact h
/-- The operation goes through, and leaves a value and a memory of which G tells. -/
def OpOK (P : Program) (o : Oper) (a : Act) (w : World) (G : Value → World → Prop) : Prop :=
  ∀ (F : Fence) (n : Nat), Wd F → ∀ (next : Act → World → Prop) (Q : Exit → Act → World → Prop), (∀ v w', G v w' → next (a.put o.dst v) w') → o.wpIn F n P a w next Q
theorem opOK_val {P : Program} {o : Oper} {a : Act} {w : World} {G : Value → World → Prop} (h : ∃ u w', (execOp a.eval o).run P w = .ok (.value u) w' ∧ G u w') : OpOK P o a w G := by
  intro F n hF next Q hn
  obtain ⟨u, w', h1, h2⟩ := h
  refine ⟨fun f _ => hF.fn f, ?_⟩
  rw [semAt_run (fun d hc => by cases hc) h1]
  exact hn u w' h2
theorem opOK_skip {P : Program} {o : Oper} {a : Act} {w : World} {G : Value → World → Prop} (h : ∃ w', (execOp a.eval o).run P w = .ok .skip w' ∧ G undef w') : OpOK P o a w G := by
  intro F n hF next Q hn
  obtain ⟨w', h1, h2⟩ := h
  refine ⟨fun f _ => hF.fn f, ?_⟩
  rw [semAt_run (fun d hc => by cases hc) h1]
  exact hn undef w' h2
theorem opOK_call {P : Program} {o : Oper} {a : Act} {w : World} {G : Value → World → Prop} {f : FuncId} {vs : Array Value} (h : (execOp a.eval o).run P w = .ok (.enter f vs) w)
    (hc : Calls P f vs w fun e w' => ∃ v, e = .returned v ∧ G v w') : OpOK P o a w G := by
  intro F n hF next Q hn
  refine ⟨fun f _ => hF.fn f, ?_⟩
  rw [semAt_run (fun d hc => by cases hc) h]
  exact ⟨fun hd => (by rw [hF.depth] at hd; cases hd), (hF.calls hc).mono fun e w' ⟨v, he, hg⟩ => by subst he; exact hn v w' hg⟩
theorem parts_sound {n0 w X E N τ a} (ht : TR n0 w X E N τ a) : ∀ (l : List (Nat × Operand)), PartsR w X E (l.map fun p => (p.1, evO N τ p.2)) (l.map fun p => (p.1, a.eval p.2))
  | [] => trivial
  | (_, x) :: r => ⟨rfl, evO_sound ht x, parts_sound ht r⟩
theorem args_sound {n0 w X E N τ a} (ht : TR n0 w X E N τ a) (xs : Array Operand) : ArgsR w X E (mapArgs N τ xs) (xs.map a.eval) := by
  refine ⟨by simp [mapArgs], fun i hi => ?_⟩
  have hi' : i < xs.size := by simpa [mapArgs] using hi
  have e1 : (mapArgs N τ xs).getD i .any = evO N τ xs[i] := by simp [mapArgs, List.getD_eq_getElem?_getD, hi']
  have e2 : (xs.map a.eval).getD i undef = a.eval xs[i] := by simp [Array.getD, hi']
  rw [e1, e2]
  exact evO_sound ht _
theorem optO_sound {n0 w X E N τ a} (ht : TR n0 w X E N τ a) {x : Option Operand} {r : Option (IntKind × Int)} (h : optO N τ x = some r) : x.map a.eval = optV r := by
  cases x with
  | none => simp only [optO, Option.some.injEq] at h; subst h; rfl
  | some x =>
    simp only [optO] at h
    have hr := evO_sound ht x
    generalize hv : a.eval x = v at hr
    generalize evO N τ x = s at h hr
    cases hr <;> simp only [reduceCtorEq, Option.some.injEq] at h
    subst h
    simp [optV, hv]
theorem int_inv {w X E k n v} (h : R w X E (.int k n) v) : v = .int k n := by cases h; rfl
theorem foldI_sound {P : Program} {w X E} (f : Int → Int → Int) (m2 : Value → Value → Sem Value) (hm : ∀ k x y, (m2 (.int k x) (.int k y)).run P w = .ok (.int k (f x y)) w) :
    ∀ (ss : List SV) (vs : List Value) (k : IntKind) (x : Int) (y : Yd), ss.length = vs.length → (∀ i, i < ss.length → R w X E (ss.getD i .any) (vs.getD i undef)) → foldI f k x ss = some y →
      ∃ n, y = ⟨True, .int k n, .keep⟩ ∧ (vs.foldlM m2 (.int k x)).run P w = .ok (.int k n) w
  | [], [], k, x, y, _, _, hy => by simp only [foldI, pureY, Option.some.injEq] at hy; exact ⟨x, hy.symm, rfl⟩
  | s :: ss, v :: vs, k, x, y, hl, hr, hy => by
    have h0 := hr 0 (by simp)
    simp only [List.getD_cons_zero] at h0
    cases s <;> simp only [foldI, reduceCtorEq] at hy
    rename_i k' b
    split at hy
    case isFalse => cases hy
    rename_i hk
    subst hk
    have hv := int_inv h0
    subst hv
    obtain ⟨n, h1, h2⟩ := foldI_sound f m2 hm ss vs k (f x b) y (by simpa using hl) (fun i hi => by have := hr (i + 1) (by simpa using hi); simpa using this) hy
    exact ⟨n, h1, by simp only [List.foldlM_cons, Sem.run_bind, hm, Result.andThen_ok, h2]⟩
  | [], _ :: _, _, _, _, hl, _, _ => by simp at hl
  | _ :: _, [], _, _, _, hl, _, _ => by simp at hl
theorem evMin_sound {P : Program} {w0 X0 H E w nm} (h : Rep w0 X0 H E w) (f : Int → Int → Int) (m2 : Value → Value → Sem Value) (hm : ∀ k x y, (m2 (.int k x) (.int k y)).run P w = .ok (.int k (f x y)) w)
    {ss : List SV} {vs : Array Value} (ha : ArgsR w (Xo X0 E H) E ss vs) {y : Yd} (hy : evMin f ss = some y) :
    ∃ x r, vs.toList = x :: r ∧ ∃ u, (r.foldlM m2 x).run P w = .ok u w ∧ Goes w0 X0 H E w nm y.eff y.val u w := by
  cases ss with
  | nil => simp [evMin] at hy
  | cons s ss =>
    obtain ⟨hl, hr⟩ := ha
    cases hv : vs.toList with
    | nil =>
      have : vs.size = 0 := by rw [← Array.length_toList, hv]; rfl
      simp [this] at hl
    | cons v r =>
      have hget : ∀ i, vs.getD i undef = (v :: r).getD i undef := fun i => by rw [← toList_getD, hv]
      have h0 := hr 0 (by simp)
      rw [hget] at h0
      simp only [List.getD_cons_zero] at h0
      cases s <;> simp only [evMin, reduceCtorEq] at hy
      rename_i k a
      have hvv := int_inv h0
      subst hvv
      obtain ⟨n, h1, h2⟩ := foldI_sound (P := P) (w := w) (X := Xo X0 E H) (E := E) f m2 hm ss r k a y (by rw [← Array.length_toList, hv] at hl; simpa using hl.symm)
        (fun i hi => by have := hr (i + 1) (by simpa using hi); rw [hget] at this; simpa using this) hy
      subst h1
      exact ⟨_, _, rfl, _, h2, Goes.pure h .int⟩
theorem evBuiltin_sound {P : Program} {w0 X0 H E w nm} (h : Rep w0 X0 H E w) {b : Builtin} {ats : Array TypeId} {ty : TypeId} {cs : Array Bool} {ss : List SV} {vs : Array Value} (ha : ArgsR w (Xo X0 E H) E ss vs) {y : Yd}
    (hy : evBuiltin P H nm b ats ss = some y) (hask : y.ask) (hf : Free H E nm y.eff) : ∃ u w', (builtin b ats ty cs vs).run P w = .ok (.value u) w' ∧ Goes w0 X0 H E w nm y.eff y.val u w' := by
  unfold evBuiltin at hy
  split at hy
  · -- append
    split at hy
    case h_2 => cases hy
    rename_i t t' s x hats
    split at hy
    case isFalse => cases hy
    rename_i htt
    subst htt
    cases hte : tsl P t with
    | none => simp [hte] at hy
    | some te =>
      simp only [hte] at hy
      cases hz : tzero P te.1 with
      | none => simp [hz] at hy
      | some z =>
        simp only [hz] at hy
        have hat : ats = #[t, t] := by rw [← hats]
        obtain ⟨hl, hr⟩ := ha
        have hvs : vs = #[vs.getD 0 undef, vs.getD 1 undef] := by
          apply Array.ext
          · simpa using hl
          · intro i h1 h2
            simp only [List.size_toArray, List.length_cons, List.length_nil] at h2
            obtain rfl | rfl : i = 0 ∨ i = 1 := by omega
            · simp [Array.getD, h1]
            · simp [Array.getD, h1]
        obtain ⟨r, w', h1, h2⟩ := evAppend_sound (P := P) (ty := ty) h hte hz (hr 0 (by simp)) (hr 1 (by simp)) hy hask hf
        refine ⟨r, w', ?_, h2⟩
        rw [hat, hvs, BigFrame.builtin_append]
        simp only [Sem.run_bind, h1, Result.andThen_ok, Sem.run_pure]
  · -- len
    split at hy
    case h_2 => cases hy
    rename_i t s hats
    have hat : ats = #[t] := by rw [← hats]
    obtain ⟨hl, hr⟩ := ha
    have hvs : vs = #[vs.getD 0 undef] := by
      apply Array.ext
      · simpa using hl
      · intro i h1 h2
        simp only [List.size_toArray, List.length_cons, List.length_nil] at h2
        obtain rfl : i = 0 := by omega
        simp [Array.getD, h1]
    have hr0 := hr 0 (by simp)
    simp only [List.getD_cons_zero] at hr0
    cases hte : tsl P t with
    | some te =>
      simp only [hte] at hy
      obtain ⟨ti, h1, h2, h3, h4⟩ := tsl_spec hte
      have hel : P.elem t = te.1 := by unfold Program.elem; rw [h1]
      have key : ∀ n, lenOf H s = some n → (∀ q, s ≠ .str q) → y = ⟨True, .int .i64 n, .keep⟩ → ∃ u w', (builtin .len ats ty cs vs).run P w = .ok (.value u) w' ∧ Goes w0 X0 H E w nm y.eff y.val u w' := by
        rintro n hn hns rfl
        obtain ⟨u, w', g1, g2⟩ := len_sound (P := P) (ty := ty) (nm := nm) h (by rw [hel]; exact h1) hr0 hn hns
        refine ⟨u, w', ?_, g2⟩
        rw [hat, hvs, BigFrame.builtin_len]
        simp only [Sem.run_bind, g1, Result.andThen_ok, Sem.run_pure]
      split at hy
      · cases hy
      · rename_i hns
        cases hn : lenOf H s with
        | none => simp [hn] at hy
        | some n =>
          simp only [hn, Option.some.injEq] at hy
          exact key n hn (fun q hq => hns q hq) hy.symm
    | none =>
      simp only [hte] at hy
      cases hai : tarr P t with
      | none =>
        simp only [hai] at hy
        cases hst : tstr P t with
        | false => simp [hst] at hy
        | true =>
          simp only [hst] at hy
          generalize vs.getD 0 undef = v0 at hvs hr0
          cases hr0 with
          | str =>
            simp only [evLenB, pureY, Option.some.injEq] at hy
            subst hy
            refine ⟨_, w, ?_, Goes.pure h .int⟩
            rw [hat, hvs, BigFrame.builtin_len]
            simp only [Sem.run_bind, run_len_string w t ty _ (tstr_spec hst), Result.andThen_ok, Sem.run_pure]
            rfl
          | _ => simp [evLenB] at hy
      | some ai =>
        simp only [hai, pureY, Option.some.injEq] at hy
        subst hy
        obtain ⟨len, es, ag⟩ := ai
        obtain ⟨e, ti, h1, h2, h3, h4⟩ := tarr_spec hai
        refine ⟨_, w, ?_, Goes.pure h .int⟩
        rw [hat, hvs, BigFrame.builtin_len]
        simp only [Builtin.len_, Sem.run_bind, run_underlying h1, Result.andThen_ok, Sem.run_pure, List.getElem?_toArray, List.getElem?_cons_zero]
        rfl
  · -- copy
    split at hy
    case h_2 => cases hy
    rename_i t t' s x hats
    cases hte : tsl P t with
    | none => simp [hte] at hy
    | some te =>
      simp only [hte] at hy
      have hat : ats = #[t, t'] := by rw [← hats]
      obtain ⟨hl, hr⟩ := ha
      have hvs : vs = #[vs.getD 0 undef, vs.getD 1 undef] := by
        apply Array.ext
        · simpa using hl
        · intro i h1 h2
          simp only [List.size_toArray, List.length_cons, List.length_nil] at h2
          obtain rfl | rfl : i = 0 ∨ i = 1 := by omega
          · simp [Array.getD, h1]
          · simp [Array.getD, h1]
      obtain ⟨r, w', h1, h2⟩ := evCopy_sound (P := P) (ty := ty) (t' := t') (nm := nm) h hte (hr 0 (by simp)) (hr 1 (by simp)) hy
      refine ⟨r, w', ?_, h2⟩
      rw [hat, hvs, BigFrame.builtin_copy]
      simp only [Sem.run_bind, h1, Result.andThen_ok, Sem.run_pure]
  · -- clear
    split at hy
    case h_2 => cases hy
    rename_i t s hats
    split at hy
    case h_2 => cases hy
    rename_i te hte
    split at hy
    case h_2 => cases hy
    rename_i z hz
    have hat : ats = #[t] := by rw [← hats]
    obtain ⟨hl, hr⟩ := ha
    have hvs : vs = #[vs.getD 0 undef] := by
      apply Array.ext
      · simpa using hl
      · intro i h1 h2
        simp only [List.size_toArray, List.length_cons, List.length_nil] at h2
        obtain rfl : i = 0 := by omega
        simp [Array.getD, h1]
    obtain ⟨r, w', h1, h2⟩ := evClear_sound (P := P) (ty := ty) (nm := nm) h hte hz (hr 0 (by simp)) hy
    refine ⟨r, w', ?_, h2⟩
    rw [hat, hvs, BigFrame.builtin_clear]
    simp only [Sem.run_bind, h1, Result.andThen_ok, Sem.run_pure]
  · -- min
    obtain ⟨x, r, h1, u, h2, h3⟩ := evMin_sound (P := P) (nm := nm) h (fun a b => if b < a then b else a) Builtin.min2 (fun k x y => rfl) ha hy
    refine ⟨u, w, ?_, h3⟩
    rw [BigFrame.builtin_min]
    simp only [Builtin.min_, h1, Sem.run_bind, h2, Result.andThen_ok, Sem.run_pure]
  · obtain ⟨x, r, h1, u, h2, h3⟩ := evMin_sound (P := P) (nm := nm) h (fun a b => if b > a then b else a) Builtin.max2 (fun k x y => rfl) ha hy
    refine ⟨u, w, ?_, h3⟩
    rw [BigFrame.builtin_max]
    simp only [Builtin.max_, h1, Sem.run_bind, h2, Result.andThen_ok, Sem.run_pure]
  · cases hy
theorem evNil_sound {P : Program} {w0 X0 H E w nm} (h : Rep w0 X0 H E w) {x : Operand} {a : Act} {s : SV} (hx : R w (Xo X0 E H) E s (a.eval x)) {y : Yd} (hy : evNil s = some y) {o : Oper} (ho : o.op = .nilCheck x) :
    ∃ u w', (execOp a.eval o).run P w = .ok (.value u) w' ∧ Goes w0 X0 H E w nm y.eff y.val u w' := by
  refine ⟨a.eval x, w, ?_, ?_⟩
  · simp only [execOp, ho]
    generalize a.eval x = v at hx
    cases hx <;> simp only [evNil, reduceCtorEq] at hy
    · rfl
    · rfl
    · rfl
    · rfl
    · rename_i hv
      obtain ⟨b, o', rfl⟩ := hv
      rfl
  · cases s <;> simp only [evNil, pureY, reduceCtorEq, Option.some.injEq] at hy <;> subst hy <;> exact Goes.pure h hx
end Go.Proofs.YthappngbapbkfaaDoor.Sx
