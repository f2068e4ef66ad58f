/- slices.SortFunc of runs with the numbers of their pieces, as apart calls it: its contract for the evaluation. -/
import Derived.Test.YtbkgncikjhibiaaRge
import Derived.Test.YtbkgncikjhibiaaRgf
import Derived.Test.YtbkgncikjhibiaaShown
set_option linter.unusedSimpArgs false
set_option linter.unusedVariables false
namespace Go.Proofs.Ytbkgncikjhibiaa.Ows
open Go.Shelf Go.RowKit Go.Lib Go.Sort Sx Num Rga Rgl Rgm Rgn Rge Rgf
set_option maxRecDepth 100000
/-- A run with the number of its piece. -/
structure Ow where
  y : Int
  x0 : Int
  x1 : Int
  k : Int
def owL (o : Ow) : List SV := [.int .i64 o.y, .int .i64 o.x0, .int .i64 o.x1, .int .i64 o.k]
def owD (g : Nat → SV) : Ow := ⟨Sx.intOf (g 0), Sx.intOf (g 1), Sx.intOf (g 2), Sx.intOf (g 3)⟩
def oI (L : List Ow) (i : Nat) : Ow := L.getD i ⟨0, 0, 0, 0⟩
structure Og where
  n : Nat
  f : Nat → Ow
def Og.L (g : Og) : List Ow := (List.range g.n).map g.f
theorem Og.len (g : Og) : g.L.length = g.n := by simp [Og.L]
theorem Og.oI {g : Og} {i : Nat} (h : i < g.n) : oI g.L i = g.f i := by
  unfold Ows.oI Og.L
  rw [List.getD_eq_getElem?_getD, List.getElem?_map, List.getElem?_range h]
  rfl
def okO (o : Ow) : Prop := ((-8192 ≤ o.y ∧ o.y ≤ 8192) ∧ (-8192 ≤ o.x0 ∧ o.x0 ≤ 8192) ∧ -8192 ≤ o.x1 ∧ o.x1 ≤ 8192) ∧ -8192 ≤ o.k ∧ o.k ≤ 8192
/-- cmp.Or of three numbers. -/
def or3 (x y z : Int) : Int := if x = 0 then (if y = 0 then z else y) else x
theorem or3_walk (x y z : Int) (b : Nat) (W : World) (h0 : W.cell? ⟨b, 0, none⟩ = some (.int .i64 x)) (h1 : W.cell? ⟨b, 1, none⟩ = some (.int .i64 y)) (h2 : W.cell? ⟨b, 2, none⟩ = some (.int .i64 z)) :
    Calls Try.prog 59 #[.slice (some ⟨b, 0, none⟩) 3 3] W fun e w' => e = .returned (.int .i64 (or3 x y z)) ∧ w' = W := by
  by_cases hx : x = 0
  · by_cases hy : y = 0
    · have e : or3 x y z = z := by unfold or3; rw [if_pos hx, if_pos hy]
      rw [e]
      clear e
      subst hx
      subst hy
      by_cases hz : z = 0
      · subst hz
        go_enter Try.func59, Try.ntmps59
        go_wp2
        refine wp_loop_rounds 4 ?_
        rw [rounds_succ]
        go_wp2
        rw [rounds_succ]
        go_wp2
        rw [rounds_succ]
        go_wp2
        rw [rounds_succ]
        go_wp2
        go_ret
        exact ⟨rfl, rfl⟩
      · go_enter Try.func59, Try.ntmps59
        go_wp2
        refine wp_loop_rounds 4 ?_
        rw [rounds_succ]
        go_wp2
        rw [rounds_succ]
        go_wp2
        rw [rounds_succ]
        go_wp2
        go_ret
        exact ⟨rfl, rfl⟩
    · have e : or3 x y z = y := by unfold or3; rw [if_pos hx, if_neg hy]
      rw [e]
      clear e
      subst hx
      go_enter Try.func59, Try.ntmps59
      go_wp2
      refine wp_loop_rounds 4 ?_
      rw [rounds_succ]
      go_wp2
      rw [rounds_succ]
      go_wp2
      go_ret
      exact ⟨rfl, rfl⟩
  · have e : or3 x y z = x := if_neg hx
    rw [e]
    clear e
    go_enter Try.func59, Try.ntmps59
    go_wp2
    refine wp_loop_rounds 4 ?_
    rw [rounds_succ]
    go_wp2
    go_ret
    exact ⟨rfl, rfl⟩
/-- The closure. -/
theorem cmp_walk (a0 a1 a2 a3 b0 b1 b2 b3 : Int) (W : World) (h0 : -9223372036854775808 ≤ a0 - b0 ∧ a0 - b0 ≤ 9223372036854775807) (h1 : -9223372036854775808 ≤ a1 - b1 ∧ a1 - b1 ≤ 9223372036854775807) (h2 : -9223372036854775808 ≤ a3 - b3 ∧ a3 - b3 ≤ 9223372036854775807) :
    Calls Try.prog 58 #[.agg #[.int .i64 a0, .int .i64 a1, .int .i64 a2, .int .i64 a3], .agg #[.int .i64 b0, .int .i64 b1, .int .i64 b2, .int .i64 b3]] W fun e w' => e = .returned (.int .i64 (or3 (a0 - b0) (a1 - b1) (a3 - b3))) ∧ ∃ q os', w' = grow (W.drewN q) os' := by
  have hcon := fun b W' h0 h1 h2 => or3_walk (a0 - b0) (a1 - b1) (a3 - b3) b W' h0 h1 h2
  generalize or3 (a0 - b0) (a1 - b1) (a3 - b3) = r at hcon ⊢
  go_enter Try.func58, Try.ntmps58
  go_wp2_with (go_at_call 59; refine (hcon _ _ (cell_new (by simp) rfl) (cell_new (by simp) rfl) (cell_new (by simp) rfl)).mono ?_; rintro e w' ⟨rfl, rfl⟩)
  go_ret
  exact ⟨rfl, 0, _, by rw [alloc_eq_grow, alloc_eq_grow, alloc_eq_grow, grow_grow, grow_grow]; rfl⟩
/-! The order. -/
instance : Inhabited Ow := ⟨⟨0, 0, 0, 0⟩⟩
def enR (r : Ow) : List Value := [.int .i64 (cl r.y), .int .i64 (cl r.x0), .int .i64 (cl r.x1), .int .i64 (cl r.k)]
def cfR (x y : Ow) : Int := or3 (cl x.y - cl y.y) (cl x.x0 - cl y.x0) (cl x.k - cl y.k)
theorem lt_iff (x y : Ow) : ltOf cfR x y = true ↔ (cl x.y < cl y.y ∨ (cl x.y = cl y.y ∧ (cl x.x0 < cl y.x0 ∨ (cl x.x0 = cl y.x0 ∧ cl x.k < cl y.k)))) := by
  unfold ltOf cfR or3
  rw [decide_eq_true_iff]
  split
  · split <;> omega
  · omega
theorem lt_iff' (x y : Ow) : ltOf cfR x y = false ↔ ¬ (cl x.y < cl y.y ∨ (cl x.y = cl y.y ∧ (cl x.x0 < cl y.x0 ∨ (cl x.x0 = cl y.x0 ∧ cl x.k < cl y.k)))) := by
  rw [← lt_iff, Bool.not_eq_true]
theorem swo : SWO (ltOf cfR) where
  irrefl x := by rw [lt_iff']; omega
  trans x y z h1 h2 := by rw [lt_iff] at *; omega
  ntrans x y z h1 h2 := by rw [lt_iff'] at *; omega
theorem cmpLays (blk off sz : Nat) (w : World) : CmpLays Try.prog 58 #[] enR 4 cfR blk off sz w := fun _ _ _ _ x y => by
  have a1 := cl_b x.y; have a2 := cl_b y.y; have a3 := cl_b x.x0; have a4 := cl_b y.x0; have a5 := cl_b x.k; have a6 := cl_b y.k
  exact cmp_walk (cl x.y) (cl x.x0) (cl x.x1) (cl x.k) (cl y.y) (cl y.x0) (cl y.x1) (cl y.k) _ (by omega) (by omega) (by omega)
/-- Sorted. -/
def srtA (d : Array Ow) : Array Ow := pdq (ltOf cfR) d 0 d.size (Lib.bitLen d.size) true true
def srt (g : Og) : List Ow := (srtA g.L.toArray).toList
theorem srtA_spec (d : Array Ow) : PermIn 0 d.size d (srtA d) ∧ SortedIn (ltOf cfR) 0 d.size (srtA d) :=
  pdq_sorts (ltOf cfR) swo d 0 d.size (Lib.bitLen d.size) true true (Nat.zero_le _) (Nat.le_refl _) (Or.inl rfl)
theorem srt_len (g : Og) : (srt g).length = g.n := by
  have := (srtA_spec g.L.toArray).1.1
  unfold srt
  rw [Array.length_toList, this, List.size_toArray, Og.len]
theorem srt_perm (g : Og) : (srt g).Perm g.L := by
  have h := (srtA_spec g.L.toArray).1
  have h2 := h.2.2
  have e1 : ((srtA g.L.toArray).extract 0 g.L.toArray.size) = srtA g.L.toArray := by rw [← h.1]; simp
  have e2 : (g.L.toArray.extract 0 g.L.toArray.size) = g.L.toArray := by simp
  rw [e1, e2] at h2
  unfold srt
  simpa using h2
theorem srt_sorted (g : Og) {i j : Nat} (hij : i < j) (hj : j < g.n) : ltOf cfR (oI (srt g) j) (oI (srt g) i) = false := by
  have h := (srtA_spec g.L.toArray).2 i j (Nat.zero_le _) hij (by rw [List.size_toArray, Og.len]; exact hj)
  have hs : (srtA g.L.toArray).size = g.n := by rw [(srtA_spec g.L.toArray).1.1, List.size_toArray, Og.len]
  have e : ∀ k, k < g.n → oI (srt g) k = (srtA g.L.toArray)[k]! := fun k hk => by
    unfold oI srt
    rw [getElem!_pos _ k (by omega), List.getD_eq_getElem?_getD, List.getElem?_eq_getElem (by rw [Array.length_toList]; omega)]
    simp
  rw [e i (by omega), e j hj]
  exact h
/-! The memory. -/
theorem row_turn {w w' : World} {X : Fr} {E : Env} {n : Nat} {g g' : Nat → Nat → SV} {T : TypeId} {v : Value} {us : Nat → Option Nat} (h : Rep w X [.row 0 n 4 g T] E w) (he : E 0 = some (.slc 0 v us))
    (hos : w'.os = w.os) (htp : w'.tape = w.tape) (hout : w'.output = w.output) (hsz : w.heap.size ≤ w'.heap.size)
    (hblk : ∀ k, k < w.heap.size → (∀ b, holds (.slc 0 v us) (.row 0 n 4 g T) b → k ≠ b) → w'.heap[k]? = w.heap[k]?)
    (hok : ∃ xs, OwnsR w' T 4 v n xs ∧ ∀ i j, i < n → j < 4 → oneCell (xs.getD (i * 4 + j) undef) ∧ ∀ X', R w' X' E0 (g' i j) (xs.getD (i * 4 + j) undef)) :
    Rep w X [.row 0 n 4 g' T] E w' := by
  have hd : ∀ k e, E k = some e → k = 0 ∧ e = .slc 0 v us := fun k e hk => by
    have h1 := h.dom k e hk
    have h0 : k = 0 := by simp at h1; omega
    subst h0
    rw [he] at hk
    exact ⟨rfl, (Option.some.inj hk).symm⟩
  have hh : ∀ b, holds (.slc 0 v us) (.row 0 n 4 g' T) b → holds (.slc 0 v us) (.row 0 n 4 g T) b := fun b hb => hb
  refine ⟨⟨hos, htp, hout, hsz, fun k hk hdk => hblk k hk (fun b hb hkb => ?_)⟩, h.x0, h.nm, h.dom, fun k e hk => ?_, fun k e b hk hb => ?_, fun k k' e e' b hk hk' hb hb' => ?_⟩
  · rcases h.low 0 _ b he hb with h1 | h1
    · omega
    · exact hdk (hkb ▸ h1)
  · obtain ⟨rfl, rfl⟩ := hd k e hk
    obtain ⟨xs, h1, h2⟩ := hok
    exact ⟨rfl, xs, h1, fun i j hi hj => ⟨(h2 i j hi hj).1, (h2 i j hi hj).2 _⟩⟩
  · obtain ⟨rfl, rfl⟩ := hd k e hk
    exact h.low 0 _ b he (hh b hb)
  · rw [(hd k e hk).1, (hd k' e' hk').1]
theorem sort_block {w : World} {b : Nat} {cur : Array Value} {T : TypeId} (hb : w.heap[b]? = some (.cells cur T (0, 0))) (m : Nat) (d : Array Ow) (os : Array Obj) :
    (sortWorldK enR 4 w b 0 m d os).heap[b]? = some (.cells (putCells id 0 (flatK enR 4 d) cur) T (0, 0)) := by
  have hlt : b < w.heap.size := lt_of_block hb
  show ((w.heap.modify b (onCells (putCells id 0 (flatK enR 4 d)))) ++ os)[b]? = _
  rw [Array.getElem?_append_left (by rw [Array.size_modify]; exact hlt), Array.getElem?_modify, if_pos rfl, hb]
  rfl
theorem sort_other {w : World} {b k : Nat} (hk : k < w.heap.size) (hne : k ≠ b) (m : Nat) (d : Array Ow) (os : Array Obj) : (sortWorldK enR 4 w b 0 m d os).heap[k]? = w.heap[k]? := by
  show ((w.heap.modify b (onCells (putCells id 0 (flatK enR 4 d)))) ++ os)[k]? = _
  rw [Array.getElem?_append_left (by rw [Array.size_modify]; exact hk), Array.getElem?_modify, if_neg (Ne.symm hne)]
theorem sort_size (w : World) (b m : Nat) (d : Array Ow) (os : Array Obj) : w.heap.size ≤ (sortWorldK enR 4 w b 0 m d os).heap.size := by
  show _ ≤ ((w.heap.modify b (onCells (putCells id 0 (flatK enR 4 d)))) ++ os).size
  rw [Array.size_append, Array.size_modify]
  exact Nat.le_add_right _ _
theorem rn_cases {r : Ow} {j : Nat} (hj : j < 4) (P : SV → Value → Prop) (h0 : P (.int .i64 r.y) (.int .i64 r.y)) (h1 : P (.int .i64 r.x0) (.int .i64 r.x0)) (h2 : P (.int .i64 r.x1) (.int .i64 r.x1)) (h3 : P (.int .i64 r.k) (.int .i64 r.k)) (ok : okO r) : P (lst (owL r) j) ((enR r)[j]!) := by
  obtain ⟨⟨⟨a1, a2⟩, ⟨a3, a4⟩, a5, a6⟩, a7, a8⟩ := ok
  unfold enR
  rw [cl_ok a1 a2, cl_ok a3 a4, cl_ok a5 a6, cl_ok a7 a8]
  match j, hj with
  | 0, _ => exact h0
  | 1, _ => exact h1
  | 2, _ => exact h2
  | 3, _ => exact h3
/-! The contract. -/
def soD : List SV → List SO → Option Og
  | [_, .fn _ _ _], [.row _ n _ g _] => some ⟨n, fun i => owD (g i)⟩
  | _, _ => none
def rowW (ver : Nat) (n : Nat) (f : Nat → Ow) : SO := .row ver n 4 (fun i => lst (owL (f i))) 105
def spSort : FSpec := mkSpecM 57 [.arg 0] soD (fun _ => [.osl 0 0, .fn 58 0 (lst [])]) (fun g => [rowW 0 g.n g.f]) (fun g => (∀ i, i < g.n → okO (g.f i)) ∧ g.n ≤ 4294967296) (fun _ => .tup 0 (lst [])) (fun g => [rowW 0 g.n (oI (srt g))])
theorem ok_sort : SpecOK Try.prog spSort := by
  refine specM_hand (enters_of Try.func57 (by kernel_rfl) rfl) (fun g hg vals w X E hnm hrep hsz hr => ?_)
  obtain ⟨hok, hn⟩ := hg
  have h0 := hr 0 (by show 0 < 2; decide)
  have h1 := hr 1 (by show 1 < 2; decide)
  obtain ⟨v0, v1, rfl⟩ : ∃ v0 v1, vals = #[v0, v1] := by
    have hs : vals.size = 2 := hsz
    exact ⟨vals[0], vals[1], by
      apply Array.ext
      · exact hs
      · intro i hi1 hi2
        have : i = 0 ∨ i = 1 := by omega
        rcases this with rfl | rfl <;> rfl⟩
  have h0 : R w (Xo X E [rowW 0 g.n g.f]) E (.osl 0 0) v0 := h0
  have h1 : R w (Xo X E [rowW 0 g.n g.f]) E (.fn 58 0 (lst [])) v1 := h1
  have hv1 : v1 = .func (.func 58) #[] #[] := by
    cases h1 with
    | fn hs hr => rw [Array.size_eq_zero_iff.1 hs]
  subst hv1
  obtain ⟨us, he⟩ : ∃ us, E 0 = some (.slc 0 v0 us) := by
    cases h0 with
    | osl he _ => exact ⟨_, he⟩
    | oslOld he hl _ =>
      have := (hrep.ok 0 _ he).1
      omega
  obtain ⟨_, xs, hown, hxs⟩ := hrep.ok 0 _ he
  have rtup : ∀ (w' : World) (X' : Nat → Prop) (E' : Env), R w' X' E' (.tup 0 (lst [])) (.tuple #[]) := fun _ _ _ => .tup rfl (fun i hi => absurd hi (Nat.not_lt_zero _))
  rcases hown with ⟨a, rfl, hz, rfl⟩ | ⟨b, cap, cur, rfl, hb, hlc, hcap, hcs, htake, hxl⟩
  · refine (AnyF.slices_SortFunc_none Try.sortown a 0 (.func (.func 58) #[] #[]) w).mono ?_
    rintro e w' ⟨rfl, rfl⟩
    refine ⟨.tuple #[], E, rfl, row_turn hrep he rfl rfl rfl (Nat.le_refl _) (fun _ _ _ => rfl) ⟨[], .inl ⟨a, rfl, hz, rfl⟩, fun i j hi => ?_⟩, rtup _ _ _⟩
    rw [hz] at hi
    exact absurd hi (Nat.not_lt_zero _)
  · have hd : g.L.toArray.size = g.n := by rw [List.size_toArray, Og.len]
    have gL : ∀ i, i < g.n → (g.L.toArray)[i]! = g.f i := fun i hi => by
      rw [getElem!_pos _ i (by omega)]
      simp [Og.L]
    have hcell : ∀ j, j < g.n * 4 → cur[j]? = some ((flatK enR 4 g.L.toArray)[j]!) := fun j hj => by
      have hij : j / 4 * 4 + j % 4 = j := by omega
      have hi : j / 4 < g.n := by omega
      have hj3 : j % 4 < 4 := by omega
      obtain ⟨_, hR⟩ := hxs (j / 4) (j % 4) hi hj3
      rw [hij] at hR
      have ex : xs.getD j undef = (cur[j]?).getD undef := by
        rw [← htake, List.getD_eq_getElem?_getD, List.getElem?_take_of_lt hj]
        simp
      have hlt : j < cur.size := by rw [hcs]; have := Nat.mul_le_mul_right 4 hlc; omega
      rw [ex] at hR
      rw [Array.getElem?_eq_getElem hlt] at hR ⊢
      rw [get_flatK _ _ _ _ (by rw [hd]; exact hj), gL _ hi]
      congr 1
      refine rn_cases (P := fun s u => R w (Xo X E [rowW 0 g.n g.f]) E0 s cur[j] → cur[j] = u) hj3 ?_ ?_ ?_ ?_ (hok _ hi) hR
      · intro h; exact int_inv h
      · intro h; exact int_inv h
      · intro h; exact int_inv h
      · intro h; exact int_inv h
    have hH : HoldsK enR 4 w b 0 g.L.toArray := fun j hj => by
      rw [size_flatK, hd] at hj
      have hc := hcell j hj
      rw [Nat.zero_add]
      refine ⟨?_, ?_⟩
      · unfold World.cell?
        rw [hb]
        exact hc
      · unfold World.frozen?
        rw [hb]
        simp
    have hcon := AnyQ.slices_SortFunc_eq Try.sortown 4 (fun w => by kernel_rfl) (fun w => by kernel_rfl) enR (fun _ => rfl) (fun x v hv => by
      simp only [enR, List.mem_cons, List.not_mem_nil, or_false] at hv
      rcases hv with rfl | rfl | rfl | rfl <;> rfl) cfR swo 58 #[] b 0 (cap + 1) g.L.toArray w (enters_of Try.func58 (by kernel_rfl) rfl) (cmpLays _ _ _ _) hH (lt_of_block hb) (by rw [hd]; omega)
    rw [hd] at hcon
    refine hcon.mono ?_
    rintro e w' ⟨rfl, m, os, rfl⟩
    have es : pdq (ltOf cfR) g.L.toArray 0 g.n (Lib.bitLen g.n) true true = srtA g.L.toArray := by unfold srtA; rw [hd]
    rw [es]
    have hsd : (srtA g.L.toArray).size = g.n := by rw [(srtA_spec g.L.toArray).1.1, hd]
    have pc : ∀ j, j < g.n * 4 → (putCells id 0 (flatK enR 4 (srtA g.L.toArray)) cur)[j]? = some ((flatK enR 4 (srtA g.L.toArray))[j]!) := fun j hj => by
      have hlt : j < cur.size := by rw [hcs]; have := Nat.mul_le_mul_right 4 hlc; omega
      unfold putCells
      rw [Array.getElem?_mapIdx, Array.getElem?_eq_getElem hlt]
      simp only [Option.map_some]
      rw [if_pos ⟨Nat.zero_le _, by rw [size_flatK, hsd, Nat.zero_add]; exact hj⟩, Nat.sub_zero]
      rfl
    have psz : (putCells id 0 (flatK enR 4 (srtA g.L.toArray)) cur).size = cur.size := by unfold putCells; simp
    refine ⟨.tuple #[], E, rfl, row_turn hrep he rfl rfl rfl (sort_size _ _ _ _ _) (fun k hk hne => sort_other hk (hne b rfl) _ _ _) ⟨(putCells id 0 (flatK enR 4 (srtA g.L.toArray)) cur).toList.take (g.n * 4), .inr ⟨b, cap, _, rfl, sort_block hb m _ os, hlc, hcap, by rw [psz, hcs], rfl, ?_⟩, fun i j hi hj => ?_⟩, rtup _ _ _⟩
    · rw [List.length_take, Array.length_toList, psz, hcs]
      have := Nat.mul_le_mul_right 4 hlc
      omega
    · have hk : i * 4 + j < g.n * 4 := by omega
      have ex : ((putCells id 0 (flatK enR 4 (srtA g.L.toArray)) cur).toList.take (g.n * 4)).getD (i * 4 + j) undef = (enR (oI (srt g) i))[j]! := by
        rw [List.getD_eq_getElem?_getD, List.getElem?_take_of_lt hk, Array.getElem?_toList, pc _ hk, get_flatK _ _ _ _ (by rw [hsd]; exact hk), show (i * 4 + j) / 4 = i by omega, show (i * 4 + j) % 4 = j by omega]
        have e : (srtA g.L.toArray)[i]! = oI (srt g) i := by
          unfold oI srt
          rw [getElem!_pos _ i (by omega), List.getD_eq_getElem?_getD, List.getElem?_eq_getElem (by rw [Array.length_toList]; omega)]
          simp
        rw [e]
        rfl
      rw [ex]
      have okd : okO (oI (srt g) i) := by
        have hm : oI (srt g) i ∈ srt g := by
          unfold oI
          rw [List.getD_eq_getElem?_getD, List.getElem?_eq_getElem (by rw [srt_len]; exact hi)]
          exact List.getElem_mem _
        have := (srt_perm g).mem_iff.1 hm
        obtain ⟨k, hk, e⟩ := List.mem_map.1 this
        rw [← e]
        exact hok k (List.mem_range.1 hk)
      exact rn_cases (P := fun s u => oneCell u ∧ ∀ X' : Nat → Prop, R (sortWorldK enR 4 w b 0 m (srtA g.L.toArray) os) X' E0 s u) hj ⟨rfl, fun _ => .int⟩ ⟨rfl, fun _ => .int⟩ ⟨rfl, fun _ => .int⟩ ⟨rfl, fun _ => .int⟩ okd
end Go.Proofs.Ytbkgncikjhibiaa.Ows
