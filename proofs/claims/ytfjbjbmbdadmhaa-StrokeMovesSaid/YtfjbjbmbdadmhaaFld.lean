/- slices.SortFunc of crossings, as cross calls it: its contract for the evaluation. -/
import Derived.Shelf.SlSortCmp.NoneTotal
import Derived.Ground.SlsfProg
import Derived.Test.YtfjbjbmbdadmhaaProg
import Derived.Test.YtfjbjbmbdadmhaaFlc
import Derived.Test.YtfjbjbmbdadmhaaRgf
namespace Go.Proofs
open Go.Shelf
def Try.sortcrs_ren : Go.Shelf.Ren := ⟨fun | 6 => 128 | 15 => 87 | 14 => 137 | 28 => 117 | 29 => 118 | 20 => 140 | 21 => 141 | 22 => 142 | 23 => 143 | 24 => 144 | 25 => 145 | 26 => 146 | 27 => 147 | 46 => 149 | 47 => 131 | 48 => 132 | 49 => 150 | 50 => 151 | 57 => 152 | n => n, fun | 22 => 147 | 24 => 150 | 25 => 175 | 3 => 3 | 39 => 125 | 0 => 0 | 53 => 166 | 55 => 168 | 4 => 4 | 46 => 159 | 45 => 158 | 50 => 163 | 5 => 5 | 9 => 9 | 66 => 176 | 70 => 180 | 76 => 185 | 77 => 186 | n => n, fun | n => n⟩
theorem Try.sortcrs : Go.Proofs.SlLaysF0.n6 Try.prog Try.sortcrs_ren := {
  mixed := by kernel_rfl
  f6 := ⟨Try.f128.name, by decide, Try.func128.trans (congrArg some (by kernel_rfl))⟩
  f14 := ⟨Try.f137.name, by decide, Try.func137.trans (congrArg some (by kernel_rfl))⟩
  f15 := Try.func87.trans (congrArg some (by kernel_rfl))
  f20 := ⟨Try.f140.name, by decide, Try.func140.trans (congrArg some (by kernel_rfl))⟩
  f21 := ⟨Try.f141.name, by decide, Try.func141.trans (congrArg some (by kernel_rfl))⟩
  f22 := ⟨Try.f142.name, by decide, Try.func142.trans (congrArg some (by kernel_rfl))⟩
  f23 := ⟨Try.f143.name, by decide, Try.func143.trans (congrArg some (by kernel_rfl))⟩
  f24 := ⟨Try.f144.name, by decide, Try.func144.trans (congrArg some (by kernel_rfl))⟩
  f25 := ⟨Try.f145.name, by decide, Try.func145.trans (congrArg some (by kernel_rfl))⟩
  f26 := ⟨Try.f146.name, by decide, Try.func146.trans (congrArg some (by kernel_rfl))⟩
  f27 := ⟨Try.f147.name, by decide, Try.func147.trans (congrArg some (by kernel_rfl))⟩
  f28 := Try.func117.trans (congrArg some (by kernel_rfl))
  f29 := Try.func118.trans (congrArg some (by kernel_rfl))
  f46 := ⟨Try.f149.name, by decide, Try.func149.trans (congrArg some (by kernel_rfl))⟩
  f47 := Try.func131.trans (congrArg some (by kernel_rfl))
  f48 := Try.func132.trans (congrArg some (by kernel_rfl))
  f49 := ⟨Try.f150.name, by decide, Try.func150.trans (congrArg some (by kernel_rfl))⟩
  f50 := ⟨Try.f151.name, by decide, Try.func151.trans (congrArg some (by kernel_rfl))⟩
  f57 := ⟨Try.f152.name, by decide, Try.func152.trans (congrArg some (by kernel_rfl))⟩
  t0 := Try.underlying0
  a0 := Try.isAgg0
  z0 := Try.sizeOf0
  v0 := Try.zeroValue0
  t3 := Try.underlying3
  a3 := Try.isAgg3
  z3 := Try.sizeOf3
  v3 := Try.zeroValue3
  t4 := Try.underlying4
  a4 := Try.isAgg4
  z4 := Try.sizeOf4
  v4 := Try.zeroValue4
  t5 := Try.underlying5
  a5 := Try.isAgg5
  z5 := Try.sizeOf5
  v5 := Try.zeroValue5
  t9 := Try.underlying9
  a9 := Try.isAgg9
  z9 := Try.sizeOf9
  v9 := Try.zeroValue9
  t22 := Try.underlying147
  a22 := Try.isAgg147
  z22 := Try.sizeOf147
  v22 := Try.zeroValue147
  t25 := Try.underlying175
  a25 := Try.isAgg175
  z25 := Try.sizeOf175
  v25 := Try.zeroValue175
  t39 := Try.underlying125
  a39 := Try.isAgg125
  z39 := Try.sizeOf125
  v39 := Try.zeroValue125
  t45 := Try.underlying158
  a45 := Try.isAgg158
  z45 := Try.sizeOf158
  v45 := Try.zeroValue158
  t46 := Try.underlying159
  a46 := Try.isAgg159
  z46 := Try.sizeOf159
  v46 := Try.zeroValue159
  t50 := Try.underlying163
  a50 := Try.isAgg163
  z50 := Try.sizeOf163
  v50 := Try.zeroValue163
  t53 := Try.underlying166
  a53 := Try.isAgg166
  z53 := Try.sizeOf166
  v53 := Try.zeroValue166
  t55 := Try.underlying168
  a55 := Try.isAgg168
  z55 := Try.sizeOf168
  v55 := Try.zeroValue168
  t66 := Try.underlying176
  a66 := Try.isAgg176
  z66 := Try.sizeOf176
  v66 := Try.zeroValue176
  t70 := Try.underlying180
  a70 := Try.isAgg180
  z70 := Try.sizeOf180
  v70 := Try.zeroValue180
  t76 := Try.underlying185
  a76 := Try.isAgg185
  z76 := Try.sizeOf185
  v76 := Try.zeroValue185
  t77 := Try.underlying186
  a77 := Try.isAgg186
  z77 := Try.sizeOf186
  v77 := Try.zeroValue186 }
end Go.Proofs
set_option linter.unusedSimpArgs false
set_option linter.unusedVariables false
namespace Go.Proofs.Ytfjbjbmbdadmhaa.Fld
open Go.Shelf Go.RowKit Go.Lib Go.Sort Sx Num Rgf Fla Flb
/-- Where an edge crosses a row, and how. -/
structure Cr where
  x : Int
  s : Int
instance : Inhabited Cr := ⟨⟨0, 0⟩⟩
def crL (c : Cr) : List SV := [.int .i64 c.x, .int .i64 c.s]
def crD (g : Nat → SV) : Cr := ⟨Sx.intOf (g 0), Sx.intOf (g 1)⟩
def cI (L : List Cr) (i : Nat) : Cr := L.getD i ⟨0, 0⟩
structure Cg where
  n : Nat
  f : Nat → Cr
def Cg.L (g : Cg) : List Cr := (List.range g.n).map g.f
theorem Cg.len (g : Cg) : g.L.length = g.n := by simp [Cg.L]
/-! The order. -/
theorem nan_walk (x : Int) (W : World) : Calls Try.prog 125 #[.int .i64 x] W fun e w' => e = .returned (.bool false) ∧ w' = W := by
  go_enter Try.func125, Try.ntmps125
  go_wp2
  go_ret
  exact ⟨rfl, rfl⟩
theorem com_walk (x y : Int) (W : World) : Calls Try.prog 101 #[.int .i64 x, .int .i64 y] W fun e w' => e = .returned (.int .i64 (cmpI x y)) ∧ w' = W := by
  have hcon := fun x W => nan_walk x W
  by_cases h : x < y
  · have e : cmpI x y = -1 := if_pos h
    rw [e]
    clear e
    go_enter Try.func101, Try.ntmps101
    go_wp2_with (go_at_call 125; refine (hcon _ _).mono ?_; rintro e w' ⟨rfl, rfl⟩)
    go_ret
    exact ⟨rfl, rfl⟩
  · by_cases h2 : y < x
    · have e : cmpI x y = 1 := by unfold cmpI; rw [if_neg h, if_pos h2]
      rw [e]
      clear e
      go_enter Try.func101, Try.ntmps101
      go_wp2_with (go_at_call 125; refine (hcon _ _).mono ?_; rintro e w' ⟨rfl, rfl⟩)
      go_ret
      exact ⟨rfl, rfl⟩
    · have e : cmpI x y = 0 := by unfold cmpI; rw [if_neg h, if_neg h2]
      rw [e]
      clear e
      go_enter Try.func101, Try.ntmps101
      go_wp2_with (go_at_call 125; refine (hcon _ _).mono ?_; rintro e w' ⟨rfl, rfl⟩)
      go_ret
      exact ⟨rfl, rfl⟩
theorem cmp_walk (a0 a1 b0 b1 : Int) (W : World) :
    Calls Try.prog 129 #[.agg #[.int .i64 a0, .int .i64 a1], .agg #[.int .i64 b0, .int .i64 b1]] W fun e w' => e = .returned (.int .i64 (cmpI a0 b0)) ∧ ∃ q os', w' = grow (W.drewN q) os' := by
  have hcon := fun W' => com_walk a0 b0 W'
  generalize cmpI a0 b0 = r at hcon ⊢
  go_enter Try.func129, Try.ntmps129
  go_wp2_with (go_at_call 101; refine (hcon _).mono ?_; rintro e w' ⟨rfl, rfl⟩)
  go_ret
  exact ⟨rfl, 0, _, by rw [alloc_eq_grow, alloc_eq_grow, grow_grow]; rfl⟩
def enC (r : Cr) : List Value := [.int .i64 r.x, .int .i64 r.s]
def cfC (x y : Cr) : Int := cmpI x.x y.x
theorem lt_iff (x y : Cr) : ltOf cfC x y = true ↔ x.x < y.x := by
  unfold ltOf cfC
  rw [decide_eq_true_iff]
  exact cmp_neg
theorem lt_iff' (x y : Cr) : ltOf cfC x y = false ↔ ¬ x.x < y.x := by
  rw [← lt_iff, Bool.not_eq_true]
theorem swo : SWO (ltOf cfC) where
  irrefl x := by rw [lt_iff']; omega
  trans x y z h1 h2 := by rw [lt_iff] at *; omega
  ntrans x y z h1 h2 := by rw [lt_iff'] at *; omega
theorem cmpLays (blk off sz : Nat) (w : World) : CmpLays Try.prog 129 #[] enC 2 cfC blk off sz w := fun _ _ _ _ x y => cmp_walk x.x x.s y.x y.s _
/-- Sorted. -/
def srtA (d : Array Cr) : Array Cr := pdq (ltOf cfC) d 0 d.size (Lib.bitLen d.size) true true
def srt (g : Cg) : List Cr := (srtA g.L.toArray).toList
theorem srtA_spec (d : Array Cr) : PermIn 0 d.size d (srtA d) ∧ SortedIn (ltOf cfC) 0 d.size (srtA d) :=
  pdq_sorts (ltOf cfC) swo d 0 d.size (Lib.bitLen d.size) true true (Nat.zero_le _) (Nat.le_refl _) (Or.inl rfl)
theorem srt_len (g : Cg) : (srt g).length = g.n := by
  have := (srtA_spec g.L.toArray).1.1
  unfold srt
  rw [Array.length_toList, this, List.size_toArray, Cg.len]
theorem srt_perm (g : Cg) : (srt g).Perm g.L := by
  have h := (srtA_spec g.L.toArray).1
  have h2 := h.2.2
  have e1 : ((srtA g.L.toArray).extract 0 g.L.toArray.size) = srtA g.L.toArray := by rw [← h.1]; simp
  have e2 : (g.L.toArray.extract 0 g.L.toArray.size) = g.L.toArray := by simp
  rw [e1, e2] at h2
  unfold srt
  simpa using h2
theorem srt_sorted (g : Cg) {i j : Nat} (hij : i < j) (hj : j < g.n) : (cI (srt g) i).x ≤ (cI (srt g) j).x := by
  have h := (srtA_spec g.L.toArray).2 i j (Nat.zero_le _) hij (by rw [List.size_toArray, Cg.len]; exact hj)
  have hs : (srtA g.L.toArray).size = g.n := by rw [(srtA_spec g.L.toArray).1.1, List.size_toArray, Cg.len]
  have e : ∀ k, k < g.n → cI (srt g) k = (srtA g.L.toArray)[k]! := fun k hk => by
    unfold cI srt
    rw [getElem!_pos _ k (by omega), List.getD_eq_getElem?_getD, List.getElem?_eq_getElem (by rw [Array.length_toList]; omega)]
    simp
  rw [e i (by omega), e j hj]
  have := (lt_iff' _ _).1 h
  omega
/-! The memory. -/
theorem row_turn {w w' : World} {X : Fr} {E : Env} {n : Nat} {g g' : Nat → Nat → SV} {T : TypeId} {v : Value} {us : Nat → Option Nat} (h : Rep w X [.row 0 n 2 g T] E w) (he : E 0 = some (.slc 0 v us))
    (hos : w'.os = w.os) (htp : w'.tape = w.tape) (hout : w'.output = w.output) (hsz : w.heap.size ≤ w'.heap.size)
    (hblk : ∀ k, k < w.heap.size → (∀ b, holds (.slc 0 v us) (.row 0 n 2 g T) b → k ≠ b) → w'.heap[k]? = w.heap[k]?)
    (hok : ∃ xs, OwnsR w' T 2 v n xs ∧ ∀ i j, i < n → j < 2 → oneCell (xs.getD (i * 2 + j) undef) ∧ ∀ X', R w' X' E0 (g' i j) (xs.getD (i * 2 + j) undef)) :
    Rep w X [.row 0 n 2 g' T] E w' := by
  have hd : ∀ k e, E k = some e → k = 0 ∧ e = .slc 0 v us := fun k e hk => by
    have h1 := h.dom k e hk
    have h0 : k = 0 := by simp at h1; omega
    subst h0
    rw [he] at hk
    exact ⟨rfl, (Option.some.inj hk).symm⟩
  have hh : ∀ b, holds (.slc 0 v us) (.row 0 n 2 g' T) b → holds (.slc 0 v us) (.row 0 n 2 g T) b := fun b hb => hb
  refine ⟨⟨hos, htp, hout, hsz, fun k hk hdk => hblk k hk (fun b hb hkb => ?_)⟩, h.x0, h.nm, h.dom, fun k e hk => ?_, fun k e b hk hb => ?_, fun k k' e e' b hk hk' hb hb' => ?_⟩
  · rcases h.low 0 _ b he hb with h1 | h1
    · omega
    · exact hdk (hkb ▸ h1)
  · obtain ⟨rfl, rfl⟩ := hd k e hk
    obtain ⟨xs, h1, h2⟩ := hok
    exact ⟨rfl, xs, h1, fun i j hi hj => ⟨(h2 i j hi hj).1, (h2 i j hi hj).2 _⟩⟩
  · obtain ⟨rfl, rfl⟩ := hd k e hk
    exact h.low 0 _ b he (hh b hb)
  · rw [(hd k e hk).1, (hd k' e' hk').1]
theorem sort_block {w : World} {b : Nat} {cur : Array Value} {T : TypeId} (hb : w.heap[b]? = some (.cells cur T (0, 0))) (m : Nat) (d : Array Cr) (os : Array Obj) :
    (sortWorldK enC 2 w b 0 m d os).heap[b]? = some (.cells (putCells id 0 (flatK enC 2 d) cur) T (0, 0)) := by
  have hlt : b < w.heap.size := lt_of_block hb
  show ((w.heap.modify b (onCells (putCells id 0 (flatK enC 2 d)))) ++ os)[b]? = _
  rw [Array.getElem?_append_left (by rw [Array.size_modify]; exact hlt), Array.getElem?_modify, if_pos rfl, hb]
  rfl
theorem sort_other {w : World} {b k : Nat} (hk : k < w.heap.size) (hne : k ≠ b) (m : Nat) (d : Array Cr) (os : Array Obj) : (sortWorldK enC 2 w b 0 m d os).heap[k]? = w.heap[k]? := by
  show ((w.heap.modify b (onCells (putCells id 0 (flatK enC 2 d)))) ++ os)[k]? = _
  rw [Array.getElem?_append_left (by rw [Array.size_modify]; exact hk), Array.getElem?_modify, if_neg (Ne.symm hne)]
theorem sort_size (w : World) (b m : Nat) (d : Array Cr) (os : Array Obj) : w.heap.size ≤ (sortWorldK enC 2 w b 0 m d os).heap.size := by
  show _ ≤ ((w.heap.modify b (onCells (putCells id 0 (flatK enC 2 d)))) ++ os).size
  rw [Array.size_append, Array.size_modify]
  exact Nat.le_add_right _ _
theorem rn_cases {r : Cr} {j : Nat} (hj : j < 2) (P : SV → Value → Prop) (h0 : P (.int .i64 r.x) (.int .i64 r.x)) (h1 : P (.int .i64 r.s) (.int .i64 r.s)) : P (lst (crL r) j) ((enC r)[j]!) := by
  unfold enC
  match j, hj with
  | 0, _ => exact h0
  | 1, _ => exact h1
/-! The contract. -/
def soD : List SV → List SO → Option Cg
  | [_, .fn _ _ _], [.row _ n _ g _] => some ⟨n, fun i => crD (g i)⟩
  | _, _ => none
def rowC (ver : Nat) (n : Nat) (f : Nat → Cr) : SO := .row ver n 2 (fun i => lst (crL (f i))) 150
def spSort : FSpec := mkSpecM 128 [.arg 0] soD (fun _ => [.osl 0 0, .fn 129 0 (lst [])]) (fun g => [rowC 0 g.n g.f]) (fun g => g.n ≤ 4294967296) (fun _ => .tup 0 (lst [])) (fun g => [rowC 0 g.n (cI (srt g))])
theorem ok_sort : SpecOK Try.prog spSort := by
  refine specM_hand (enters_of Try.func128 (by kernel_rfl) rfl) (fun g hg vals w X E hnm hrep hsz hr => ?_)
  have hn : g.n ≤ 4294967296 := hg
  have h0 := hr 0 (by show 0 < 2; decide)
  have h1 := hr 1 (by show 1 < 2; decide)
  obtain ⟨v0, v1, rfl⟩ : ∃ v0 v1, vals = #[v0, v1] := by
    have hs : vals.size = 2 := hsz
    exact ⟨vals[0], vals[1], by
      apply Array.ext
      · exact hs
      · intro i hi1 hi2
        have : i = 0 ∨ i = 1 := by omega
        rcases this with rfl | rfl <;> rfl⟩
  have h0 : R w (Xo X E [rowC 0 g.n g.f]) E (.osl 0 0) v0 := h0
  have h1 : R w (Xo X E [rowC 0 g.n g.f]) E (.fn 129 0 (lst [])) v1 := h1
  have hv1 : v1 = .func (.func 129) #[] #[] := by
    cases h1 with
    | fn hs hr => rw [Array.size_eq_zero_iff.1 hs]
  subst hv1
  obtain ⟨us, he⟩ : ∃ us, E 0 = some (.slc 0 v0 us) := by
    cases h0 with
    | osl he _ => exact ⟨_, he⟩
    | oslOld he hl _ =>
      have := (hrep.ok 0 _ he).1
      omega
  obtain ⟨_, xs, hown, hxs⟩ := hrep.ok 0 _ he
  have rtup : ∀ (w' : World) (X' : Nat → Prop) (E' : Env), R w' X' E' (.tup 0 (lst [])) (.tuple #[]) := fun _ _ _ => .tup rfl (fun i hi => absurd hi (Nat.not_lt_zero _))
  rcases hown with ⟨a, rfl, hz, rfl⟩ | ⟨b, cap, cur, rfl, hb, hlc, hcap, hcs, htake, hxl⟩
  · refine (AnyF.slices_SortFunc_none Try.sortcrs a 0 (.func (.func 129) #[] #[]) w).mono ?_
    rintro e w' ⟨rfl, rfl⟩
    refine ⟨.tuple #[], E, rfl, row_turn hrep he rfl rfl rfl (Nat.le_refl _) (fun _ _ _ => rfl) ⟨[], .inl ⟨a, rfl, hz, rfl⟩, fun i j hi => ?_⟩, rtup _ _ _⟩
    rw [hz] at hi
    exact absurd hi (Nat.not_lt_zero _)
  · have hd : g.L.toArray.size = g.n := by rw [List.size_toArray, Cg.len]
    have gL : ∀ i, i < g.n → (g.L.toArray)[i]! = g.f i := fun i hi => by
      rw [getElem!_pos _ i (by omega)]
      simp [Cg.L]
    have hcell : ∀ j, j < g.n * 2 → cur[j]? = some ((flatK enC 2 g.L.toArray)[j]!) := fun j hj => by
      have hij : j / 2 * 2 + j % 2 = j := by omega
      have hi : j / 2 < g.n := by omega
      have hj2 : j % 2 < 2 := by omega
      obtain ⟨_, hR⟩ := hxs (j / 2) (j % 2) hi hj2
      rw [hij] at hR
      have ex : xs.getD j undef = (cur[j]?).getD undef := by
        rw [← htake, List.getD_eq_getElem?_getD, List.getElem?_take_of_lt hj]
        simp
      have hlt : j < cur.size := by rw [hcs]; have := Nat.mul_le_mul_right 2 hlc; omega
      rw [ex] at hR
      rw [Array.getElem?_eq_getElem hlt] at hR ⊢
      rw [get_flatK _ _ _ _ (by rw [hd]; exact hj), gL _ hi]
      congr 1
      refine rn_cases (P := fun s u => R w (Xo X E [rowC 0 g.n g.f]) E0 s cur[j] → cur[j] = u) hj2 ?_ ?_ hR
      · intro h; exact int_inv h
      · intro h; exact int_inv h
    have hH : HoldsK enC 2 w b 0 g.L.toArray := fun j hj => by
      rw [size_flatK, hd] at hj
      have hc := hcell j hj
      rw [Nat.zero_add]
      refine ⟨?_, ?_⟩
      · unfold World.cell?
        rw [hb]
        exact hc
      · unfold World.frozen?
        rw [hb]
        simp
    have hcon := AnyQ.slices_SortFunc_eq Try.sortcrs 2 (fun w => by kernel_rfl) (fun w => by kernel_rfl) enC (fun _ => rfl) (fun x v hv => by
      simp only [enC, List.mem_cons, List.not_mem_nil, or_false] at hv
      rcases hv with rfl | rfl <;> rfl) cfC swo 129 #[] b 0 (cap + 1) g.L.toArray w (enters_of Try.func129 (by kernel_rfl) rfl) (cmpLays _ _ _ _) hH (lt_of_block hb) (by rw [hd]; omega)
    rw [hd] at hcon
    refine hcon.mono ?_
    rintro e w' ⟨rfl, m, os, rfl⟩
    have es : pdq (ltOf cfC) g.L.toArray 0 g.n (Lib.bitLen g.n) true true = srtA g.L.toArray := by unfold srtA; rw [hd]
    rw [es]
    have hsd : (srtA g.L.toArray).size = g.n := by rw [(srtA_spec g.L.toArray).1.1, hd]
    have pc : ∀ j, j < g.n * 2 → (putCells id 0 (flatK enC 2 (srtA g.L.toArray)) cur)[j]? = some ((flatK enC 2 (srtA g.L.toArray))[j]!) := fun j hj => by
      have hlt : j < cur.size := by rw [hcs]; have := Nat.mul_le_mul_right 2 hlc; omega
      unfold putCells
      rw [Array.getElem?_mapIdx, Array.getElem?_eq_getElem hlt]
      simp only [Option.map_some]
      rw [if_pos ⟨Nat.zero_le _, by rw [size_flatK, hsd, Nat.zero_add]; exact hj⟩, Nat.sub_zero]
      rfl
    have psz : (putCells id 0 (flatK enC 2 (srtA g.L.toArray)) cur).size = cur.size := by unfold putCells; simp
    refine ⟨.tuple #[], E, rfl, row_turn hrep he rfl rfl rfl (sort_size _ _ _ _ _) (fun k hk hne => sort_other hk (hne b rfl) _ _ _) ⟨(putCells id 0 (flatK enC 2 (srtA g.L.toArray)) cur).toList.take (g.n * 2), .inr ⟨b, cap, _, rfl, sort_block hb m _ os, hlc, hcap, by rw [psz, hcs], rfl, ?_⟩, fun i j hi hj => ?_⟩, rtup _ _ _⟩
    · rw [List.length_take, Array.length_toList, psz, hcs]
      have := Nat.mul_le_mul_right 2 hlc
      omega
    · have hk : i * 2 + j < g.n * 2 := by omega
      have ex : ((putCells id 0 (flatK enC 2 (srtA g.L.toArray)) cur).toList.take (g.n * 2)).getD (i * 2 + j) undef = (enC (cI (srt g) i))[j]! := by
        rw [List.getD_eq_getElem?_getD, List.getElem?_take_of_lt hk, Array.getElem?_toList, pc _ hk, get_flatK _ _ _ _ (by rw [hsd]; exact hk), show (i * 2 + j) / 2 = i by omega, show (i * 2 + j) % 2 = j by omega]
        have e : (srtA g.L.toArray)[i]! = cI (srt g) i := by
          unfold cI srt
          rw [getElem!_pos _ i (by omega), List.getD_eq_getElem?_getD, List.getElem?_eq_getElem (by rw [Array.length_toList]; omega)]
          simp
        rw [e]
        rfl
      rw [ex]
      exact rn_cases (P := fun s u => oneCell u ∧ ∀ X' : Nat → Prop, R (sortWorldK enC 2 w b 0 m (srtA g.L.toArray) os) X' E0 s u) hj ⟨rfl, fun _ => .int⟩ ⟨rfl, fun _ => .int⟩
end Go.Proofs.Ytfjbjbmbdadmhaa.Fld
