/- slices.Grow of a nil slice of lines: a walk; its contract. -/
import Derived.Test.YtppdojjhegiffaaFly
import Derived.ArgAppend
set_option linter.unusedSimpArgs false
set_option linter.unusedVariables false
namespace Go.Proofs.Ytppdojjhegiffaa.Fmg
open Go.RowKit Sx Fla
set_option maxRecDepth 100000
theorem run_append_make {P : Program} (w : World) (t k ty e : TypeId) (i : TypeInfo) (z : Value) (ht : P.underlying t = some (.slice e)) (hk : P.underlying k = some (.int .i64)) (hi : P.info? e = some i) (hz : i.zero = some z)
    (hzs : z.cells.size = i.size) (a : Option Addr) (n : Nat) (h0 : 0 < n) (hn : n ≤ 9223372036854775807) (hb : n * i.bytes ≤ 140737488355328) :
    (Builtin.append_ #[t, k] ty #[.slice a 0 0, .int .i64 n]).run P w = .ok (.slice (some ⟨w.heap.size, 0, none⟩) n (grownCap w n 0 e))
      (w.drew.alloc (.cells ((if n * i.size = 0 then #[] else Builtin.zeroCells z.cells n) ++ Builtin.zeroCells z.cells (grownCap w n 0 e - n)) e)) := by
  have hw : IntKind.i64.wrap (n : Int) = n := wrap_fit (k := .i64) (show i64ok n from ⟨Int.le_trans (by decide) (Int.natCast_nonneg n), Int.ofNat_le.2 hn⟩)
  have h1 : ¬ ((n : Int) < 0) := by omega
  have h2 : ¬ (281474976710656 < (n : Int) * (i.bytes : Int)) := by
    have : ((n * i.bytes : Nat) : Int) ≤ 140737488355328 := Int.ofNat_le.2 hb
    push_cast at this
    omega
  have h3 : ¬ (n ≤ 0) := by omega
  have h3' : n ≠ 0 := by omega
  have h4 : ¬ (9223372036854775807 < (n : Int)) := by omega
  have h5 : ¬ (281474976710656 < Builtin.nextslicecap n 0 * i.bytes) := by rw [nextslicecap_zero h0]; omega
  have hfc : ∀ w' : World, (Builtin.firstCells i.size 0 (.slice a 0 0)).run P w' = .ok #[] w' := fun w' => by
    cases a with
    | none => simp [Builtin.firstCells]
    | some b => exact run_firstCells_some (P := P) w' i.size 0 b 0 0 [] (by simp) (fun j v hj => by simp at hj)
  by_cases h6 : n * i.size = 0
  · have h6' : i.size = 0 := by rcases Nat.mul_eq_zero.1 h6 with h | h; exact absurd h h3'; exact h
    rw [h6'] at hfc
    simp [hfc, Builtin.append_, asInt, asIntOf, run_underlying ht, run_underlying hk, sizeOf, typeInfo, zeroValue, hi, hz, hw, h1, h2, h3, h3', h4, h5, h6, h6', Question.forced, newRow, grownCap]
  · have h6' : i.size ≠ 0 := fun h => h6 (by rw [h, Nat.mul_zero])
    simp [hfc, Builtin.append_, asInt, asIntOf, run_underlying ht, run_underlying hk, sizeOf, typeInfo, zeroValue, hi, hz, hw, h1, h2, h3, h3', h4, h5, h6, h6', Question.forced, newRow, grownCap]
/-- The walk's arm. -/
theorem wpList_append_make {P : Program} (w : World) {ops : Array Oper} {rest : List Oper} {o : Oper} {a : Act} {Q : Exit → Act → World → Prop}
    (hg : o.guard = none) (s x : Operand) (t k : TypeId) (hop : o.op = Op.call { callee := Callee.builtin Builtin.append, args := #[s, x], argTypes := #[t, k] })
    (e : TypeId) (i : TypeInfo) (z : Value) (ht : P.underlying t = some (.slice e)) (hk : P.underlying k = some (.int .i64)) (hi : P.info? e = some i) (hz : i.zero = some z) (hzs : z.cells.size = i.size)
    (ao : Option Addr) (hs : a.eval s = .slice ao 0 0) (n : Nat) (hx : a.eval x = .int .i64 n) (h0 : 0 < n) (hn : n ≤ 9223372036854775807) (hb : n * i.bytes ≤ 140737488355328)
    (hK : ∀ c cur w', Below w.heap.size w w' → w'.heap[w.heap.size]? = some (.cells cur e (0, 0)) → n ≤ c → c ≤ maxLen → cur.size = c * i.size → wpList P ops Q rest (a.put o.dst (.slice (some ⟨w.heap.size, 0, none⟩) n c)) w') :
    wpList P ops Q (o :: rest) a w := by
  refine wpList_plain hg fun K hK' => ?_
  have hrun := run_append_make (P := P) w t k o.type e i z ht hk hi hz hzs ao n h0 hn hb
  unfold Oper.wp
  simp [execOp, hop, resolve, invoke, builtin, hs, hx, hrun, Result.andThen]
  refine hK' _ _ (hK _ _ _ ?_ (heap_alloc_new w.drew _) (grownCap_ge w n 0 e) (grownCap_le_maxLen w n 0 e (by simp only [maxLen]; omega)) ?_)
  · exact (Below.refl _ _).drew.alloc (Nat.le_refl _) _
  · have hge := grownCap_ge w n 0 e
    by_cases h6 : n * i.size = 0
    · have h6' : i.size = 0 := by rcases Nat.mul_eq_zero.1 h6 with h | h; omega; exact h
      simp [h6', size_zeroCells, hzs]
    · rw [if_neg h6]
      simp only [Array.size_append, size_zeroCells, hzs, ← Nat.add_mul]
      congr 1
      omega
theorem grow_walk (a : Option Addr) (n : Nat) (h0 : 0 < n) (hn : n ≤ 1000000) (w : World) : Calls Try.prog 55 #[.slice a 0 0, .int .i64 n] w fun e w' =>
    ∃ c cur, e = .returned (.slice (some ⟨w.heap.size, 0, none⟩) 0 (c + 1)) ∧ Below w.heap.size w w' ∧ w'.heap[w.heap.size]? = some (.cells cur 48 (0, 0)) ∧ c + 1 ≤ maxLen ∧ cur.size = (c + 1) * 2 := by
  have h1 : ¬ ((n : Int) < 0) := by omega
  go_enter Try.func55, Try.ntmps55
  go_wp2_with (first | (at_builtin; refine wpList_append_make _ rfl _ _ 45 3 rfl 48 _ _ Try.underlying45 Try.underlying3 rfl rfl rfl a rfl n rfl h0 (by omega) (by show n * 32 ≤ _; omega) ?_) | go_in)
  intro c cur w' hb hcell hnc hcm hcs
  obtain ⟨c, rfl⟩ : ∃ c', c = c' + 1 := ⟨c - 1, by omega⟩
  go_wp2
  go_ret
  exact ⟨c, cur, rfl, hb, hcell, hcm, hcs⟩
theorem grow_walk0 (a : Option Addr) (w : World) : Calls Try.prog 55 #[.slice a 0 0, .int .i64 0] w fun e w' => e = .returned (.slice a 0 0) ∧ w' = w := by
  go_enter Try.func55, Try.ntmps55
  go_wp2
  go_ret
  exact ⟨rfl, rfl⟩
/-- A function whose answer is a new empty row, by a walk. -/
theorem specN_empty {P : Program} {f : FuncId} {γ : Type} {dec : List SV → Option γ} {args : γ → List SV} {pre : γ → Prop} {n : Nat} {F : Nat → Nat → SV} {T : TypeId} (hent : ∀ args w, (callFunc f args).run P w = .ok (.enter f args) w)
    (h : ∀ g, pre g → ∀ (vals : Array Value) (w : World) (X : Nat → Prop), vals.size = (args g).length → (∀ i, i < (args g).length → R w X E0 ((args g).getD i .any) (vals.getD i undef)) →
      Calls P f vals w fun e w' => ∃ v, e = .returned v ∧ Below w.heap.size w w' ∧ OwnsR w' T n v 0 [] ∧ ∀ b, holds (.slc 0 v) (.row 0 0 n F T) = some b → w.heap.size ≤ b) : SpecOK P (mkSpecN f dec args pre (fun _ => .osl 0 0) (fun _ => .row 0 0 n F T)) := by
  refine ⟨hent, fun args H HF nm y _ _ h => h, fun l H nm y hrun hp w0 X0 E w hrep hfree vals ha => ?_⟩
  simp only [mkSpecN] at hrun
  split at hrun
  case h_2 => cases hrun
  rename_i hpu
  split at hrun
  case h_2 => cases hrun
  rename_i g hdec
  cases hrun
  obtain ⟨hle, ⟨hpre⟩⟩ := hp
  obtain ⟨hll, hle⟩ := leArgs_get hle
  have hr := args_pure ha hpu
  have hsz := ha.1
  refine (h g hpre vals w (Xo X0 E H) (by omega) (fun i hi => pureR (fun _ hb => hb) (hle i hi) (hr i (by omega)))).mono ?_
  rintro e w' ⟨v, rfl, hb, how, hh⟩
  refine ⟨_, rfl, ?_⟩
  have hv : ∃ a m c, v = .slice a m c := by
    rcases how with ⟨a, rfl, _⟩ | ⟨b, cap, cur, rfl, _⟩ <;> exact ⟨_, _, _, rfl⟩
  exact Goes.new (e := .slc 0 v) hrep hfree hb hh (fun _ _ _ => ⟨rfl, [], how, fun i j hi => absurd hi (Nat.not_lt_zero _)⟩) (fun X => .osl (Env.put_same _ _ _) hv)
def spGrowL : FSpec := mkSpecN 55 (γ := Nat) (fun | [_, .int _ n] => some n.toNat | _ => none) (fun n => [.cap0, .int .i64 n]) (fun n => n ≤ 1000000) (fun _ => .osl 0 0) (fun _ => .row 0 0 2 (fun _ _ => .any) 48)
theorem ok_growL : SpecOK Try.prog spGrowL := by
  refine specN_empty (enters_of Try.func55 (by kernel_rfl) rfl) (fun n hn vals w X hsz hr => ?_)
  obtain ⟨v0, v1, rfl⟩ : ∃ v0 v1, vals = #[v0, v1] := by
    have hs : vals.size = 2 := hsz
    exact ⟨vals[0], vals[1], by
      apply Array.ext
      · exact hs
      · intro i hi1 hi2
        have : i = 0 ∨ i = 1 := by omega
        rcases this with rfl | rfl <;> rfl⟩
  have h0 : R w X E0 .cap0 v0 := hr 0 (by show 0 < 2; decide)
  have h1 : R w X E0 (.int .i64 n) v1 := hr 1 (by show 1 < 2; decide)
  cases h1
  cases h0
  rename_i a
  rcases Nat.eq_zero_or_pos n with rfl | hp
  · refine (grow_walk0 a w).mono ?_
    rintro e w' ⟨rfl, rfl⟩
    exact ⟨_, rfl, Below.refl _ _, .inl ⟨a, rfl, rfl, rfl⟩, fun b hb => by cases a <;> simp [holds] at hb⟩
  · refine (grow_walk a n hp hn w).mono ?_
    rintro e w' ⟨c, cur, rfl, hb, hcell, hcm, hcs⟩
    refine ⟨_, rfl, hb, .inr ⟨_, c, cur, rfl, hcell, Nat.zero_le _, hcm, hcs, by simp, by simp⟩, fun b hb => ?_⟩
    simp only [holds, Option.some.injEq] at hb
    omega
end Go.Proofs.Ytppdojjhegiffaa.Fmg
