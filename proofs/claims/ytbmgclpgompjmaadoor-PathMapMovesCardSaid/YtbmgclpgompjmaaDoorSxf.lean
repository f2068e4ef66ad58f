/- The evaluation tells the truth: stores, new variables, new slices. -/
import Derived.Test.YtbmgclpgompjmaaDoorSxe
namespace Go.Proofs.YtbmgclpgompjmaaDoor.Sx
open Go.RowKit
theorem splice_getD (cur : Array Value) (ws : List Value) (o j : Nat) (h : o + ws.length ≤ cur.size) :
    (cur.toList.take o ++ ws ++ cur.toList.drop (o + ws.length)).toArray.getD j undef = if o ≤ j ∧ j < o + ws.length then ws.getD (j - o) undef else cur.getD j undef := by
  rw [Array.getD_eq_getD_getElem?, List.getElem?_toArray]
  have hl : (cur.toList.take o).length = o := by rw [List.length_take, Array.length_toList]; omega
  by_cases h1 : j < o
  · rw [if_neg (by omega), List.append_assoc, List.getElem?_append_left (by omega), List.getElem?_take, if_pos h1, Array.getElem?_toList, Array.getD_eq_getD_getElem?]
  · by_cases h2 : j < o + ws.length
    · rw [if_pos (by omega), List.append_assoc, List.getElem?_append_right (by omega), hl, List.getElem?_append_left (by omega), List.getD_eq_getElem?_getD]
    · rw [if_neg (by omega), List.getElem?_append_right (by rw [List.length_append, hl]; omega), List.getElem?_drop, List.length_append, hl, Array.getElem?_toList,
        show o + ws.length + (j - (o + ws.length)) = j by omega, Array.getD_eq_getD_getElem?]
theorem splice_size (cur : Array Value) (ws : List Value) (o : Nat) (h : o + ws.length ≤ cur.size) : (cur.toList.take o ++ ws ++ cur.toList.drop (o + ws.length)).toArray.size = cur.size := by
  simp only [List.size_toArray, List.length_append, List.length_take, List.length_drop, Array.length_toList]
  omega
theorem toList_getD (c : Array Value) (j : Nat) : c.toList.getD j undef = c.getD j undef := by
  rw [List.getD_eq_getElem?_getD, Array.getElem?_toList, Array.getD_eq_getD_getElem?]
theorem mem_oneCell {c : Array Value} (h : ∀ i, i < c.size → oneCell (c.getD i undef)) : ∀ v ∈ c.toList, v.oneCell' = true := by
  intro v hv
  obtain ⟨i, hi, rfl⟩ := List.mem_iff_getElem.1 hv
  have := h i (by simpa using hi)
  rw [Array.length_toList] at hi
  simpa [oneCell, Array.getD, hi] using this
theorem Goes.set {w0 X0 H E w w' nm k e e' so' sv v} (h : Rep w0 X0 H E w) (hk : E k = some e) (le : E.le (E.put k e'))
    (hb : ∀ b, b < w.heap.size → holds e (H.getD k .dead) ≠ some b → w'.heap[b]? = w.heap[b]?)
    (hos : w'.os = w.os) (htape : w'.tape = w.tape) (hout : w'.output = w.output) (hsz : w.heap.size ≤ w'.heap.size)
    (hh : ∀ b, holds e' so' = some b → holds e (H.getD k .dead) = some b ∨ (w.heap.size ≤ b))
    (hok : Keeps (Xo X0 E H) w w' → Within (Xo X0 E H) (Xo X0 (E.put k e') (H.set k so')) w → EIok w' (Xo X0 (E.put k e') (H.set k so')) (E.put k e') e' so')
    (hr : ∀ X, R w' X (E.put k e') sv v) : Goes w0 X0 H E w nm (.sets [(k, so')]) sv v w' := by
  obtain ⟨h1, h2, h3⟩ := h.upd hk le hb hos htape hout hsz hh fun a b _ => hok a b
  refine ⟨E.put k e', le, h2, h3, h1, hr _, fun j hj => .inl ?_⟩
  by_cases hjk : j = k
  · subst hjk; rw [hk]; simp
  · rwa [Env.put_ne hjk] at hj
theorem updF_in {g f : Nat → SV} {off m j : Nat} (h : off ≤ j ∧ j < off + m) : updF g off m f j = f (j - off) := by unfold updF; rw [selS_eq, decide_eq_true h]; rfl
theorem updF_out {g f : Nat → SV} {off m j : Nat} (h : ¬ (off ≤ j ∧ j < off + m)) : updF g off m f j = g j := by unfold updF; rw [selS_eq, decide_eq_false h]; rfl
theorem updR_in {g : Nat → Nat → SV} {f : Nat → SV} {i off m j : Nat} (h : off ≤ j ∧ j < off + m) : updR g i off m f i j = f (j - off) := by unfold updR; rw [selS_eq, decide_eq_true ⟨rfl, h⟩]; rfl
theorem updR_out {g : Nat → Nat → SV} {f : Nat → SV} {i i' off m j : Nat} (h : ¬ (i' = i ∧ off ≤ j ∧ j < off + m)) : updR g i off m f i' j = g i' j := by unfold updR; rw [selS_eq, decide_eq_false h]; rfl
theorem setRow_same {w : World} {g : Nat} {cs : Array Value} : (w.setRow g cs).os = w.os ∧ (w.setRow g cs).tape = w.tape ∧ (w.setRow g cs).output = w.output ∧ (w.setRow g cs).heap.size = w.heap.size :=
  ⟨rfl, rfl, rfl, by simp [World.setRow]⟩
theorem evStore_sound {P : Program} {w0 X0 H E w nm} (h : Rep w0 X0 H E w) {t : TypeId} {ti : Nat × Bool} (ht : tinf P t = some ti) {x z : SV} {v u : Value}
    (hx : R w (Xo X0 E H) E x v) (hz : R w (Xo X0 E H) E z u) {y : Yd} (hy : evStore ti H x z = some y) (hask : y.ask) :
    ∃ w', (Instr.storeAt t v u).run P w = .ok () w' ∧ Goes w0 X0 H E w nm y.eff .any undef w' := by
  unfold evStore at hy
  cases hc : cellsOf z with
  | none => simp [hc] at hy
  | some mf =>
    obtain ⟨m, f⟩ := mf
    obtain ⟨hcs, hcr⟩ := cellsOf_sound hz hc
    simp only [hc] at hy
    split at hy
    case isFalse => cases hy
    rename_i hm
    subst hm
    have hsz := (tinf_spec ht w).2
    have hlen : u.cells.toList.length = ti.1 := by rw [Array.length_toList, hcs]
    cases hx with
    | own he =>
      rename_i k off b
      have hok := h.ok k _ he
      simp only at hy
      generalize hs : H.getD k .dead = so at hy hok
      cases so <;> simp only [reduceCtorEq] at hy
      rename_i n g T
      have hstore : ∃ g', y = ⟨Fit (off + ti.1) n, .any, .sets [(k, .cells n g' T)]⟩ ∧ ∀ j, off + ti.1 ≤ n → j < n → g' j = updF g off ti.1 f j := by
        cases hb : Nat.beq ti.1 n with
        | true =>
          rw [hb] at hy
          cases hy
          have hmn : ti.1 = n := Nat.eq_of_beq_eq_true hb
          refine ⟨f, rfl, fun j h1 hj => ?_⟩
          obtain rfl : off = 0 := by omega
          rw [updF_in (by omega)]
          rfl
        | false => rw [hb] at hy; cases hy; exact ⟨_, rfl, fun _ _ _ => rfl⟩
      obtain ⟨g', rfl, hgg⟩ := hstore
      have hle := Fit.le hask
      obtain ⟨vs, h1, h2, h3⟩ := hok
      have hfit : off + u.cells.toList.length ≤ vs.size := by omega
      have hrun := run_storeCells_at P b off T u.cells.toList 0 vs w h1 (by omega) (mem_oneCell fun i hi => (hcr i (by omega)).1)
      simp only [Nat.add_zero] at hrun
      refine ⟨_, by simp only [Instr.storeAt, Instr.sureAddr, storeVar, Sem.run_bind, Sem.run_pure, Result.andThen_ok, hsz, hcs, ne_eq, not_true_eq_false, if_false]; exact hrun, ?_⟩
      generalize hnew : (u.cells.toList.take 0 : List Value) = dummy
      clear hnew dummy
      have hput : E.put k (.blk b) = E := Env.put_self he
      refine Goes.set (e' := .blk b) h he (by rw [hput]; exact Env.le_refl _) (fun b' hb' hne => setRow_other w b b' _ (fun hc => hne (by rw [hs, hc]; rfl))) rfl rfl rfl (by simp [World.setRow])
        (fun b' hb' => .inl (by rw [hs]; exact hb')) (fun hke hwi => ?_) (fun X => .any)
      rw [hput] at hwi ⊢
      refine ⟨_, setRow_heap w b vs _ T _ h1, by rw [splice_size _ _ _ hfit]; exact h2, fun j hj => ?_⟩
      have key := splice_getD vs u.cells.toList off j hfit
      rw [hgg j hle hj]
      by_cases hjj : off ≤ j ∧ j < off + ti.1
      · rw [updF_in hjj, key, if_pos (by omega), toList_getD]
        exact ⟨(hcr (j - off) (by omega)).1, (hcr (j - off) (by omega)).2.mono hke hwi (Env.le_refl _)⟩
      · rw [updF_out hjj, key, if_neg (by omega)]
        exact ⟨(h3 j hj).1, (h3 j hj).2.mono hke hwi (Env.le_refl _)⟩
    | ownAt he =>
      rename_i k ver i m' off b len' cap
      have hok := h.ok k _ he
      simp only at hy
      generalize hs : H.getD k .dead = so at hy hok
      cases so <;> simp only [reduceCtorEq] at hy
      rename_i ver' len n g T
      split at hy
      case isFalse => cases hy
      rename_i hcond
      cases hy
      obtain ⟨⟨rfl, rfl, hle⟩, hpur⟩ := hcond
      obtain ⟨_, xs, h2, h3⟩ := hok
      have hask' : i < len := hask.out
      rcases h2 with ⟨a, hv, rfl, rfl⟩ | ⟨b', cap', cur, hv, c1, c2, c3, c4, c5, c6⟩
      · omega
      cases hv
      have hil : (i + 1) * m' ≤ len' * m' := Nat.mul_le_mul_right _ hask'
      have hll : len' * m' ≤ (cap' + 1) * m' := Nat.mul_le_mul_right _ c2
      rw [Nat.add_mul] at hil
      have hfit : i * m' + off + u.cells.toList.length ≤ cur.size := by omega
      have hrun := run_storeCells_at P b (i * m' + off) T u.cells.toList 0 cur w c1 (by omega) (mem_oneCell fun i hi => (hcr i (by omega)).1)
      simp only [Nat.add_zero] at hrun
      refine ⟨_, by simp only [Instr.storeAt, Instr.sureAddr, storeVar, Sem.run_bind, Sem.run_pure, Result.andThen_ok, hsz, hcs, ne_eq, not_true_eq_false, if_false]; exact hrun, ?_⟩
      have hput : E.put k (.slc ver (.slice (some ⟨b, 0, none⟩) len' (cap' + 1))) = E := Env.put_self he
      refine Goes.set (e' := .slc ver (.slice (some ⟨b, 0, none⟩) len' (cap' + 1))) h he (by rw [hput]; exact Env.le_refl _) (fun b' hb' hne => setRow_other w b b' _ (fun hc => hne (by rw [hs, hc]; rfl))) rfl rfl rfl (by simp [World.setRow])
        (fun b' hb' => .inl (by rw [hs]; exact hb')) (fun hke hwi => ?_) (fun X => .any)
      rw [hput] at hwi ⊢
      refine ⟨rfl, _, .inr ⟨b, cap', _, rfl, setRow_heap w b cur _ T _ c1, c2, c3, by rw [splice_size _ _ _ hfit]; exact c4, rfl, by simp only [List.length_take, List.length_append, List.length_drop, Array.length_toList]; omega⟩, fun i' j hi' hj => ?_⟩
      have hlt := mul_lt_of (n := m') hi' hj
      have key := splice_getD cur u.cells.toList (i * m' + off) (i' * m' + j) hfit
      rw [list_getD_cur hlt]
      have hold : cur.getD (i' * m' + j) undef = xs.getD (i' * m' + j) undef := by subst c5; rw [list_getD_cur hlt]
      by_cases hii : i' = i
      · subst hii
        by_cases hjj : off ≤ j ∧ j < off + ti.1
        · rw [updR_in hjj, key, if_pos (by omega), toList_getD, show i' * m' + j - (i' * m' + off) = j - off by omega]
          exact ⟨(hcr (j - off) (by omega)).1, (isPure_sound 6 _ _ (all_range hpur (by omega)) (hcr (j - off) (by omega)).2).mono hke hwi (Env.le_refl _)⟩
        · rw [updR_out (fun hc => hjj hc.2), key, if_neg (by omega), hold]
          exact ⟨(h3 i' j hi' hj).1, (h3 i' j hi' hj).2.mono hke hwi (Env.le_refl _)⟩
      · have hne : ¬ (i * m' + off ≤ i' * m' + j ∧ i' * m' + j < i * m' + off + ti.1) := by
          rcases Nat.lt_or_gt_of_ne hii with hlt' | hgt
          · have := mul_lt_of (n := m') (len := i) hlt' hj
            omega
          · have : (i + 1) * m' ≤ i' * m' := Nat.mul_le_mul_right _ hgt
            rw [Nat.add_mul] at this
            omega
        rw [updR_out (fun hc => hii hc.1), key, if_neg (by omega), hold]
        exact ⟨(h3 i' j hi' hj).1, (h3 i' j hi' hj).2.mono hke hwi (Env.le_refl _)⟩
    | ownAtOld he hl hv =>
      rename_i k ver ver' v' i m off
      have hok := h.ok k _ he
      simp only at hy
      generalize H.getD k .dead = so at hy hok
      cases so <;> simp only [reduceCtorEq] at hy
      split at hy
      · rename_i hc
        have := hok.1
        omega
      · cases hy
    | _ => simp at hy
end Go.Proofs.YtbmgclpgompjmaaDoor.Sx
