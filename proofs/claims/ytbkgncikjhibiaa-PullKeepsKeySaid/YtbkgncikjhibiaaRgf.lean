/- slices.SortFunc of runs, as Join calls it: its contract for the evaluation. -/
import Derived.Test.YtbkgncikjhibiaaRge
import Derived.Test.YtbkgncikjhibiaaRgd
import Derived.Test.YtbkgncikjhibiaaShrun
set_option linter.unusedSimpArgs false
set_option linter.unusedVariables false
namespace Go.Proofs.Ytbkgncikjhibiaa.Rgf
open Go.Shelf Go.RowKit Go.Lib Go.Sort Sx Num Rga Rgl Rgm Rgn Rge
/-! A function that writes into what it is handed, its contract from another proof. -/
theorem specM_hand {P : Program} {f : FuncId} (hent : ∀ args w, (callFunc f args).run P w = .ok (.enter f args) w)
    {paths : List NP} {γ : Type} {dec : List SV → List SO → Option γ} {args : γ → List SV} {objs : γ → List SO} {pre : γ → Prop} {res : γ → SV} {post : γ → List SO}
    (h : ∀ g, pre g → ∀ (vals : Array Value) (w : World) (X : Fr) (E : Env), (∀ k, X.nm k ≠ none → k < paths.length) → Rep w X (objs g) E w → vals.size = (args g).length →
      (∀ i, i < (args g).length → R w (Xo X E (objs g)) E ((args g).getD i .any) (vals.getD i undef)) →
      Calls P f vals w fun e w' => ∃ v Es, e = .returned v ∧ Rep w X (post g) Es w' ∧ R w' (Xo X Es (post g)) Es (res g) v) : SpecOK P (mkSpecM f paths dec args objs pre res post) := by
  refine ⟨hent, fun l H HF nm y he hns hrun => ?_, fun l H nm y hrun hask w0 X0 E w hrep hfree vals ha => ?_⟩
  · simp only [mkSpecM] at hrun ⊢
    split at hrun
    case h_2 => cases hrun
    rename_i ks hks
    split at hrun
    case h_2 => cases hrun
    rename_i hnd
    simp only [Bool.and_eq_true] at hnd
    rw [namesOf_ext he paths [] ks hks]
    simp only [objsAt_ext he hnd.2, hnd.1, hnd.2, Bool.and_self]
    exact hrun
  · simp only [mkSpecM] at hrun
    split at hrun
    case h_2 => cases hrun
    rename_i ks hks
    split at hrun
    case h_2 => cases hrun
    rename_i hnd
    simp only [Bool.and_eq_true] at hnd
    obtain ⟨hn, hal⟩ := hnd
    split at hrun
    case h_2 => cases hrun
    rename_i g hdec
    cases hrun
    obtain ⟨⟨hle, ⟨hpre⟩⟩, hholes⟩ := withHoles_get hask
    obtain ⟨hkn, hkl⟩ := namesOf_known hrep ha paths [] ks (fun k hk => by cases hk) (holesP_of hholes) hks
    have hkl' : ks.length = paths.length := by simpa using hkl
    unfold argLe at hle
    split at hle
    case h_2 => exact hle.elim
    rename_i hll
    have hll' := Nat.eq_of_beq_eq_true hll
    rw [List.length_map] at hll'
    obtain ⟨hs, hxs⟩ := hrep.sml hn hal
    have hv := hrep.verOK hal
    have hnm : ∀ k, (smlF X0 H E ks).nm k ≠ none → k < paths.length := fun k hk => by
      cases he : smlE E ks k with
      | none => exact absurd he hk
      | some e =>
        obtain ⟨k', hk', _⟩ := smlE_inv he
        have := (List.getElem?_eq_some_iff.1 hk').1
        omega
    have hT := argsT_look (args g).length vals (l.map (sml (objsAt H ks) ks)) w (Xo (smlF X0 H E ks) (smlE E ks) ((objsAt H ks).map (smlO (objsAt H ks) ks))) (smlE E ks) (by rw [ha.1, List.length_map]) (by rw [List.length_map, hll']; exact Nat.le_refl _) (fun i hi => by
      rw [List.length_map] at hi
      have e1 : (l.map (sml (objsAt H ks) ks)).getD i .any = sml (objsAt H ks) ks (l.getD i .any) := by
        rw [List.getD_eq_getElem?_getD, List.getElem?_map, List.getD_eq_getElem?_getD, List.getElem?_eq_getElem hi]; rfl
      rw [e1]
      exact R_sml hxs hv (ha.2 i hi))
    have hvs : vals.size = (args g).length := by rw [ha.1, hll']
    have hst : StR w (smlF X0 H E ks) (args g).length ⟨argsT 0 (l.map (sml (objsAt H ks) ks)), (objsAt H ks).map (smlO (objsAt H ks) ks)⟩ ⟨vals ++ Array.replicate ((args g).length - vals.size) undef, []⟩ w := ⟨smlE E ks, hs, hT.1, DefOK.nil _ _ _, hT.2⟩
    have hst2 := hst.le (m := ((objsAt H ks).map (smlO (objsAt H ks) ks)).length) (fun k hk => by rw [List.length_map, objsAt, List.length_map, hkl']; exact hnm k hk) hle.get.1 hle.get.2
    obtain ⟨E2, hrep2, hsz2, _, hT2⟩ := hst2
    refine (h g hpre vals w (smlF X0 H E ks) E2 hnm hrep2 hvs (fun i hi => ?_)).mono ?_
    · have := hT2 i hi
      rw [lookT_args _ _ _ (Nat.zero_le _), Nat.sub_zero] at this
      rw [hvs, Nat.sub_self] at this
      simpa using this
    · rintro e w' ⟨v, Es, rfl, h3, h4⟩
      exact ⟨v, rfl, Goes.of_sml hrep hn hkn hal h3 h4⟩
/-! The order. -/
instance : Inhabited Rn := ⟨⟨0, 0, 0⟩⟩
def cl (v : Int) : Int := if v < -8192 then -8192 else if 8192 < v then 8192 else v
theorem cl_ok {v : Int} (h1 : -8192 ≤ v) (h2 : v ≤ 8192) : cl v = v := by
  unfold cl
  rw [if_neg (by omega), if_neg (by omega)]
theorem cl_b (v : Int) : -8192 ≤ cl v ∧ cl v ≤ 8192 := by
  unfold cl
  split
  · omega
  · split <;> omega
def enR (r : Rn) : List Value := [.int .i64 (cl r.y), .int .i64 (cl r.x0), .int .i64 (cl r.x1)]
def cfR (x y : Rn) : Int := orI (cl x.y - cl y.y) (cl x.x0 - cl y.x0)
theorem lt_iff (x y : Rn) : ltOf cfR x y = true ↔ (cl x.y < cl y.y ∨ (cl x.y = cl y.y ∧ cl x.x0 < cl y.x0)) := by
  unfold ltOf cfR orI
  rw [decide_eq_true_iff]
  split <;> omega
theorem lt_iff' (x y : Rn) : ltOf cfR x y = false ↔ ¬ (cl x.y < cl y.y ∨ (cl x.y = cl y.y ∧ cl x.x0 < cl y.x0)) := by
  rw [← lt_iff, Bool.not_eq_true]
theorem swo : SWO (ltOf cfR) where
  irrefl x := by rw [lt_iff']; omega
  trans x y z h1 h2 := by rw [lt_iff] at *; omega
  ntrans x y z h1 h2 := by rw [lt_iff'] at *; omega
theorem cmpLays (blk off sz : Nat) (w : World) : CmpLays Try.prog 65 #[] enR 3 cfR blk off sz w := fun _ _ _ _ x y => by
  have a1 := cl_b x.y; have a2 := cl_b y.y; have a3 := cl_b x.x0; have a4 := cl_b y.x0
  exact cmp_walk (cl x.y) (cl x.x0) (cl x.x1) (cl y.y) (cl y.x0) (cl y.x1) _ (by omega) (by omega)
/-- Sorted. -/
def srtA (d : Array Rn) : Array Rn := pdq (ltOf cfR) d 0 d.size (Lib.bitLen d.size) true true
def srt (g : Rg) : List Rn := (srtA g.L.toArray).toList
theorem srtA_spec (d : Array Rn) : PermIn 0 d.size d (srtA d) ∧ SortedIn (ltOf cfR) 0 d.size (srtA d) :=
  pdq_sorts (ltOf cfR) swo d 0 d.size (Lib.bitLen d.size) true true (Nat.zero_le _) (Nat.le_refl _) (Or.inl rfl)
theorem srt_len (g : Rg) : (srt g).length = g.n := by
  have := (srtA_spec g.L.toArray).1.1
  unfold srt
  rw [Array.length_toList, this, List.size_toArray, Rg.len]
theorem srt_perm (g : Rg) : (srt g).Perm g.L := by
  have h := (srtA_spec g.L.toArray).1
  have h2 := h.2.2
  have e1 : ((srtA g.L.toArray).extract 0 g.L.toArray.size) = srtA g.L.toArray := by rw [← h.1]; simp
  have e2 : (g.L.toArray.extract 0 g.L.toArray.size) = g.L.toArray := by simp
  rw [e1, e2] at h2
  unfold srt
  simpa using h2
theorem srt_sorted (g : Rg) {i j : Nat} (hij : i < j) (hj : j < g.n) : ltOf cfR (rI (srt g) j) (rI (srt g) i) = false := by
  have h := (srtA_spec g.L.toArray).2 i j (Nat.zero_le _) hij (by rw [List.size_toArray, Rg.len]; exact hj)
  have hs : (srtA g.L.toArray).size = g.n := by rw [(srtA_spec g.L.toArray).1.1, List.size_toArray, Rg.len]
  have e : ∀ k, k < g.n → rI (srt g) k = (srtA g.L.toArray)[k]! := fun k hk => by
    unfold rI srt
    rw [getElem!_pos _ k (by omega), List.getD_eq_getElem?_getD, List.getElem?_eq_getElem (by rw [Array.length_toList]; omega)]
    simp
  rw [e i (by omega), e j hj]
  exact h
/-! The memory. -/
theorem row_turn {w w' : World} {X : Fr} {E : Env} {n : Nat} {g g' : Nat → Nat → SV} {T : TypeId} {v : Value} {us : Nat → Option Nat} (h : Rep w X [.row 0 n 3 g T] E w) (he : E 0 = some (.slc 0 v us))
    (hos : w'.os = w.os) (htp : w'.tape = w.tape) (hout : w'.output = w.output) (hsz : w.heap.size ≤ w'.heap.size)
    (hblk : ∀ k, k < w.heap.size → (∀ b, holds (.slc 0 v us) (.row 0 n 3 g T) b → k ≠ b) → w'.heap[k]? = w.heap[k]?)
    (hok : ∃ xs, OwnsR w' T 3 v n xs ∧ ∀ i j, i < n → j < 3 → oneCell (xs.getD (i * 3 + j) undef) ∧ ∀ X', R w' X' E0 (g' i j) (xs.getD (i * 3 + j) undef)) :
    Rep w X [.row 0 n 3 g' T] E w' := by
  have hd : ∀ k e, E k = some e → k = 0 ∧ e = .slc 0 v us := fun k e hk => by
    have h1 := h.dom k e hk
    have h0 : k = 0 := by simp at h1; omega
    subst h0
    rw [he] at hk
    exact ⟨rfl, (Option.some.inj hk).symm⟩
  have hh : ∀ b, holds (.slc 0 v us) (.row 0 n 3 g' T) b → holds (.slc 0 v us) (.row 0 n 3 g T) b := fun b hb => hb
  refine ⟨⟨hos, htp, hout, hsz, fun k hk hdk => hblk k hk (fun b hb hkb => ?_)⟩, h.x0, h.nm, h.dom, fun k e hk => ?_, fun k e b hk hb => ?_, fun k k' e e' b hk hk' hb hb' => ?_⟩
  · rcases h.low 0 _ b he hb with h1 | h1
    · omega
    · exact hdk (hkb ▸ h1)
  · obtain ⟨rfl, rfl⟩ := hd k e hk
    obtain ⟨xs, h1, h2⟩ := hok
    exact ⟨rfl, xs, h1, fun i j hi hj => ⟨(h2 i j hi hj).1, (h2 i j hi hj).2 _⟩⟩
  · obtain ⟨rfl, rfl⟩ := hd k e hk
    exact h.low 0 _ b he (hh b hb)
  · rw [(hd k e hk).1, (hd k' e' hk').1]
theorem sort_block {w : World} {b : Nat} {cur : Array Value} {T : TypeId} (hb : w.heap[b]? = some (.cells cur T (0, 0))) (m : Nat) (d : Array Rn) (os : Array Obj) :
    (sortWorldK enR 3 w b 0 m d os).heap[b]? = some (.cells (putCells id 0 (flatK enR 3 d) cur) T (0, 0)) := by
  have hlt : b < w.heap.size := lt_of_block hb
  show ((w.heap.modify b (onCells (putCells id 0 (flatK enR 3 d)))) ++ os)[b]? = _
  rw [Array.getElem?_append_left (by rw [Array.size_modify]; exact hlt), Array.getElem?_modify, if_pos rfl, hb]
  rfl
theorem sort_other {w : World} {b k : Nat} (hk : k < w.heap.size) (hne : k ≠ b) (m : Nat) (d : Array Rn) (os : Array Obj) : (sortWorldK enR 3 w b 0 m d os).heap[k]? = w.heap[k]? := by
  show ((w.heap.modify b (onCells (putCells id 0 (flatK enR 3 d)))) ++ os)[k]? = _
  rw [Array.getElem?_append_left (by rw [Array.size_modify]; exact hk), Array.getElem?_modify, if_neg (Ne.symm hne)]
theorem sort_size (w : World) (b m : Nat) (d : Array Rn) (os : Array Obj) : w.heap.size ≤ (sortWorldK enR 3 w b 0 m d os).heap.size := by
  show _ ≤ ((w.heap.modify b (onCells (putCells id 0 (flatK enR 3 d)))) ++ os).size
  rw [Array.size_append, Array.size_modify]
  exact Nat.le_add_right _ _
theorem rn_cases {r : Rn} {j : Nat} (hj : j < 3) (P : SV → Value → Prop) (h0 : P (.int .i64 r.y) (.int .i64 r.y)) (h1 : P (.int .i64 r.x0) (.int .i64 r.x0)) (h2 : P (.int .i64 r.x1) (.int .i64 r.x1)) (ok : okR r) : P (lst (rnL r) j) ((enR r)[j]!) := by
  obtain ⟨⟨⟨a1, a2⟩, ⟨a3, a4⟩, a5, a6⟩, a7⟩ := ok
  unfold enR
  rw [cl_ok a1 (by omega), cl_ok a3 a4, cl_ok a5 a6]
  match j, hj with
  | 0, _ => exact h0
  | 1, _ => exact h1
  | 2, _ => exact h2
/-! The contract. -/
def soD : List SV → List SO → Option Rg
  | [_, .fn _ _ _], [.row _ n _ g _] => some ⟨n, fun i => rnD (g i)⟩
  | _, _ => none
def rowS (ver : Nat) (n : Nat) (f : Nat → Rn) : SO := .row ver n 3 (fun i => lst (rnL (f i))) 43
def spSort : FSpec := mkSpecM 64 [.arg 0] soD (fun _ => [.osl 0 0, .fn 65 0 (lst [])]) (fun g => [rowS 0 g.n g.f]) (fun g => (∀ i, i < g.n → okR (g.f i)) ∧ g.n ≤ 4294967296) (fun _ => .tup 0 (lst [])) (fun g => [rowS 0 g.n (rI (srt g))])
theorem ok_sort : SpecOK Try.prog spSort := by
  refine specM_hand (enters_of Try.func64 (by kernel_rfl) rfl) (fun g hg vals w X E hnm hrep hsz hr => ?_)
  obtain ⟨hok, hn⟩ := hg
  have h0 := hr 0 (by show 0 < 2; decide)
  have h1 := hr 1 (by show 1 < 2; decide)
  obtain ⟨v0, v1, rfl⟩ : ∃ v0 v1, vals = #[v0, v1] := by
    have hs : vals.size = 2 := hsz
    exact ⟨vals[0], vals[1], by
      apply Array.ext
      · exact hs
      · intro i hi1 hi2
        have : i = 0 ∨ i = 1 := by omega
        rcases this with rfl | rfl <;> rfl⟩
  have h0 : R w (Xo X E [rowS 0 g.n g.f]) E (.osl 0 0) v0 := h0
  have h1 : R w (Xo X E [rowS 0 g.n g.f]) E (.fn 65 0 (lst [])) v1 := h1
  have hv1 : v1 = .func (.func 65) #[] #[] := by
    cases h1 with
    | fn hs hr => rw [Array.size_eq_zero_iff.1 hs]
  subst hv1
  obtain ⟨us, he⟩ : ∃ us, E 0 = some (.slc 0 v0 us) := by
    cases h0 with
    | osl he _ => exact ⟨_, he⟩
    | oslOld he hl _ =>
      have := (hrep.ok 0 _ he).1
      omega
  obtain ⟨_, xs, hown, hxs⟩ := hrep.ok 0 _ he
  have rtup : ∀ (w' : World) (X' : Nat → Prop) (E' : Env), R w' X' E' (.tup 0 (lst [])) (.tuple #[]) := fun _ _ _ => .tup rfl (fun i hi => absurd hi (Nat.not_lt_zero _))
  rcases hown with ⟨a, rfl, hz, rfl⟩ | ⟨b, cap, cur, rfl, hb, hlc, hcap, hcs, htake, hxl⟩
  · refine (AnyF.slices_SortFunc_none Try.sortrun a 0 (.func (.func 65) #[] #[]) w).mono ?_
    rintro e w' ⟨rfl, rfl⟩
    refine ⟨.tuple #[], E, rfl, row_turn hrep he rfl rfl rfl (Nat.le_refl _) (fun _ _ _ => rfl) ⟨[], .inl ⟨a, rfl, hz, rfl⟩, fun i j hi => ?_⟩, rtup _ _ _⟩
    rw [hz] at hi
    exact absurd hi (Nat.not_lt_zero _)
  · have hd : g.L.toArray.size = g.n := by rw [List.size_toArray, Rg.len]
    have gL : ∀ i, i < g.n → (g.L.toArray)[i]! = g.f i := fun i hi => by
      rw [getElem!_pos _ i (by omega)]
      simp [Rg.L]
    have hcell : ∀ j, j < g.n * 3 → cur[j]? = some ((flatK enR 3 g.L.toArray)[j]!) := fun j hj => by
      have hij : j / 3 * 3 + j % 3 = j := by omega
      have hi : j / 3 < g.n := by omega
      have hj3 : j % 3 < 3 := by omega
      obtain ⟨_, hR⟩ := hxs (j / 3) (j % 3) hi hj3
      rw [hij] at hR
      have ex : xs.getD j undef = (cur[j]?).getD undef := by
        rw [← htake, List.getD_eq_getElem?_getD, List.getElem?_take_of_lt hj]
        simp
      have hlt : j < cur.size := by rw [hcs]; have := Nat.mul_le_mul_right 3 hlc; omega
      rw [ex] at hR
      rw [Array.getElem?_eq_getElem hlt] at hR ⊢
      rw [get_flatK _ _ _ _ (by rw [hd]; exact hj), gL _ hi]
      congr 1
      refine rn_cases (P := fun s u => R w (Xo X E [rowS 0 g.n g.f]) E0 s cur[j] → cur[j] = u) hj3 ?_ ?_ ?_ (hok _ hi) hR
      · intro h; exact int_inv h
      · intro h; exact int_inv h
      · intro h; exact int_inv h
    have hH : HoldsK enR 3 w b 0 g.L.toArray := fun j hj => by
      rw [size_flatK, hd] at hj
      have hc := hcell j hj
      rw [Nat.zero_add]
      refine ⟨?_, ?_⟩
      · unfold World.cell?
        rw [hb]
        exact hc
      · unfold World.frozen?
        rw [hb]
        simp
    have hcon := AnyQ.slices_SortFunc_eq Try.sortrun 3 (fun w => by kernel_rfl) (fun w => by kernel_rfl) enR (fun _ => rfl) (fun x v hv => by
      simp only [enR, List.mem_cons, List.not_mem_nil, or_false] at hv
      rcases hv with rfl | rfl | rfl <;> rfl) cfR swo 65 #[] b 0 (cap + 1) g.L.toArray w (enters_of Try.func65 (by kernel_rfl) rfl) (cmpLays _ _ _ _) hH (lt_of_block hb) (by rw [hd]; omega)
    rw [hd] at hcon
    refine hcon.mono ?_
    rintro e w' ⟨rfl, m, os, rfl⟩
    have es : pdq (ltOf cfR) g.L.toArray 0 g.n (Lib.bitLen g.n) true true = srtA g.L.toArray := by unfold srtA; rw [hd]
    rw [es]
    have hsd : (srtA g.L.toArray).size = g.n := by rw [(srtA_spec g.L.toArray).1.1, hd]
    have pc : ∀ j, j < g.n * 3 → (putCells id 0 (flatK enR 3 (srtA g.L.toArray)) cur)[j]? = some ((flatK enR 3 (srtA g.L.toArray))[j]!) := fun j hj => by
      have hlt : j < cur.size := by rw [hcs]; have := Nat.mul_le_mul_right 3 hlc; omega
      unfold putCells
      rw [Array.getElem?_mapIdx, Array.getElem?_eq_getElem hlt]
      simp only [Option.map_some]
      rw [if_pos ⟨Nat.zero_le _, by rw [size_flatK, hsd, Nat.zero_add]; exact hj⟩, Nat.sub_zero]
      rfl
    have psz : (putCells id 0 (flatK enR 3 (srtA g.L.toArray)) cur).size = cur.size := by unfold putCells; simp
    refine ⟨.tuple #[], E, rfl, row_turn hrep he rfl rfl rfl (sort_size _ _ _ _ _) (fun k hk hne => sort_other hk (hne b rfl) _ _ _) ⟨(putCells id 0 (flatK enR 3 (srtA g.L.toArray)) cur).toList.take (g.n * 3), .inr ⟨b, cap, _, rfl, sort_block hb m _ os, hlc, hcap, by rw [psz, hcs], rfl, ?_⟩, fun i j hi hj => ?_⟩, rtup _ _ _⟩
    · rw [List.length_take, Array.length_toList, psz, hcs]
      have := Nat.mul_le_mul_right 3 hlc
      omega
    · have hk : i * 3 + j < g.n * 3 := by omega
      have ex : ((putCells id 0 (flatK enR 3 (srtA g.L.toArray)) cur).toList.take (g.n * 3)).getD (i * 3 + j) undef = (enR (rI (srt g) i))[j]! := by
        rw [List.getD_eq_getElem?_getD, List.getElem?_take_of_lt hk, Array.getElem?_toList, pc _ hk, get_flatK _ _ _ _ (by rw [hsd]; exact hk), show (i * 3 + j) / 3 = i by omega, show (i * 3 + j) % 3 = j by omega]
        have e : (srtA g.L.toArray)[i]! = rI (srt g) i := by
          unfold rI srt
          rw [getElem!_pos _ i (by omega), List.getD_eq_getElem?_getD, List.getElem?_eq_getElem (by rw [Array.length_toList]; omega)]
          simp
        rw [e]
        rfl
      rw [ex]
      have okd : okR (rI (srt g) i) := by
        have hm : rI (srt g) i ∈ srt g := by
          unfold rI
          rw [List.getD_eq_getElem?_getD, List.getElem?_eq_getElem (by rw [srt_len]; exact hi)]
          exact List.getElem_mem _
        have := (srt_perm g).mem_iff.1 hm
        obtain ⟨k, hk, e⟩ := List.mem_map.1 this
        rw [← e]
        exact hok k (List.mem_range.1 hk)
      exact rn_cases (P := fun s u => oneCell u ∧ ∀ X' : Nat → Prop, R (sortWorldK enR 3 w b 0 m (srtA g.L.toArray) os) X' E0 s u) hj ⟨rfl, fun _ => .int⟩ ⟨rfl, fun _ => .int⟩ ⟨rfl, fun _ => .int⟩ okd
end Go.Proofs.Ytbkgncikjhibiaa.Rgf
