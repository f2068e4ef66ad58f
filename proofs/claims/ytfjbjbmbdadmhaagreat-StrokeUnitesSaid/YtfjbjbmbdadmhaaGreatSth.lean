/- slices.Concat of two lists of lines; printworkskeep1.strokes, style; the law StrokeUnites: by the evaluation. -/
import Derived.Test.YtfjbjbmbdadmhaaGreatFlg
import Derived.ArgAppend
import Derived.Test.YtfjbjbmbdadmhaaGreatStm
set_option linter.unusedSimpArgs false
set_option linter.unusedVariables false
namespace Go.Proofs.YtfjbjbmbdadmhaaGreat.Stg
open Go.RowKit Sx Fla
set_option maxRecDepth 100000
theorem run_append_make {P : Program} (w : World) (t k ty e : TypeId) (i : TypeInfo) (z : Value) (ht : P.underlying t = some (.slice e)) (hk : P.underlying k = some (.int .i64)) (hi : P.info? e = some i) (hz : i.zero = some z)
    (hzs : z.cells.size = i.size) (a : Option Addr) (n : Nat) (h0 : 0 < n) (hn : n ≤ 9223372036854775807) (hb : n * i.bytes ≤ 140737488355328) :
    (Builtin.append_ #[t, k] ty #[.slice a 0 0, .int .i64 n]).run P w = .ok (.slice (some ⟨w.heap.size, 0, none⟩) n (grownCap w n 0 e))
      (w.drew.alloc (.cells ((if n * i.size = 0 then #[] else Builtin.zeroCells z.cells n) ++ Builtin.zeroCells z.cells (grownCap w n 0 e - n)) e)) := by
  have hw : IntKind.i64.wrap (n : Int) = n := wrap_fit (k := .i64) (show i64ok n from ⟨Int.le_trans (by decide) (Int.natCast_nonneg n), Int.ofNat_le.2 hn⟩)
  have h1 : ¬ ((n : Int) < 0) := by omega
  have h2 : ¬ (281474976710656 < (n : Int) * (i.bytes : Int)) := by
    have : ((n * i.bytes : Nat) : Int) ≤ 140737488355328 := Int.ofNat_le.2 hb
    push_cast at this
    omega
  have h3 : ¬ (n ≤ 0) := by omega
  have h3' : n ≠ 0 := by omega
  have h4 : ¬ (9223372036854775807 < (n : Int)) := by omega
  have h5 : ¬ (281474976710656 < Builtin.nextslicecap n 0 * i.bytes) := by rw [nextslicecap_zero h0]; omega
  have hfc : ∀ w' : World, (Builtin.firstCells i.size 0 (.slice a 0 0)).run P w' = .ok #[] w' := fun w' => by
    cases a with
    | none => simp [Builtin.firstCells]
    | some b => exact run_firstCells_some (P := P) w' i.size 0 b 0 0 [] (by simp) (fun j v hj => by simp at hj)
  by_cases h6 : n * i.size = 0
  · have h6' : i.size = 0 := by rcases Nat.mul_eq_zero.1 h6 with h | h; exact absurd h h3'; exact h
    rw [h6'] at hfc
    simp [hfc, Builtin.append_, asInt, asIntOf, run_underlying ht, run_underlying hk, sizeOf, typeInfo, zeroValue, hi, hz, hw, h1, h2, h3, h3', h4, h5, h6, h6', Question.forced, newRow, grownCap]
  · have h6' : i.size ≠ 0 := fun h => h6 (by rw [h, Nat.mul_zero])
    simp [hfc, Builtin.append_, asInt, asIntOf, run_underlying ht, run_underlying hk, sizeOf, typeInfo, zeroValue, hi, hz, hw, h1, h2, h3, h3', h4, h5, h6, h6', Question.forced, newRow, grownCap]
/-- The walk's arm. -/
theorem wpList_append_make {P : Program} (w : World) {ops : Array Oper} {rest : List Oper} {o : Oper} {a : Act} {Q : Exit → Act → World → Prop}
    (hg : o.guard = none) (s x : Operand) (t k : TypeId) (hop : o.op = Op.call { callee := Callee.builtin Builtin.append, args := #[s, x], argTypes := #[t, k] })
    (e : TypeId) (i : TypeInfo) (z : Value) (ht : P.underlying t = some (.slice e)) (hk : P.underlying k = some (.int .i64)) (hi : P.info? e = some i) (hz : i.zero = some z) (hzs : z.cells.size = i.size)
    (ao : Option Addr) (hs : a.eval s = .slice ao 0 0) (n : Nat) (hx : a.eval x = .int .i64 n) (h0 : 0 < n) (hn : n ≤ 9223372036854775807) (hb : n * i.bytes ≤ 140737488355328)
    (hK : ∀ c cur w', Below w.heap.size w w' → w'.heap[w.heap.size]? = some (.cells cur e (0, 0)) → n ≤ c → c ≤ maxLen → cur.size = c * i.size → wpList P ops Q rest (a.put o.dst (.slice (some ⟨w.heap.size, 0, none⟩) n c)) w') :
    wpList P ops Q (o :: rest) a w := by
  refine wpList_plain hg fun K hK' => ?_
  have hrun := run_append_make (P := P) w t k o.type e i z ht hk hi hz hzs ao n h0 hn hb
  unfold Oper.wp
  simp [execOp, hop, resolve, invoke, builtin, hs, hx, hrun, Result.andThen]
  refine hK' _ _ (hK _ _ _ ?_ (heap_alloc_new w.drew _) (grownCap_ge w n 0 e) (grownCap_le_maxLen w n 0 e (by simp only [maxLen]; omega)) ?_)
  · exact (Below.refl _ _).drew.alloc (Nat.le_refl _) _
  · have hge := grownCap_ge w n 0 e
    by_cases h6 : n * i.size = 0
    · have h6' : i.size = 0 := by rcases Nat.mul_eq_zero.1 h6 with h | h; omega; exact h
      simp [h6', size_zeroCells, hzs]
    · rw [if_neg h6]
      simp only [Array.size_append, size_zeroCells, hzs, ← Nat.add_mul]
      congr 1
      omega
theorem grow_walk (a : Option Addr) (n : Nat) (h0 : 0 < n) (hn : n ≤ 1000000) (w : World) : Calls Tryz.prog 18 #[.slice a 0 0, .int .i64 n] w fun e w' =>
    ∃ c cur, e = .returned (.slice (some ⟨w.heap.size, 0, none⟩) 0 (c + 1)) ∧ Below w.heap.size w w' ∧ w'.heap[w.heap.size]? = some (.cells cur 35 (0, 0)) ∧ c + 1 ≤ maxLen ∧ cur.size = (c + 1) * 2 := by
  have h1 : ¬ ((n : Int) < 0) := by omega
  go_enter Tryz.func18, Tryz.ntmps18
  go_wp2_with (first | (at_builtin; refine wpList_append_make _ rfl _ _ 22 3 rfl 35 _ _ Tryz.underlying22 Tryz.underlying3 rfl rfl rfl a rfl n rfl h0 (by omega) (by show n * 32 ≤ _; omega) ?_) | go_in)
  intro c cur w' hb hcell hnc hcm hcs
  obtain ⟨c, rfl⟩ : ∃ c', c = c' + 1 := ⟨c - 1, by omega⟩
  go_wp2
  go_ret
  exact ⟨c, cur, rfl, hb, hcell, hcm, hcs⟩
theorem grow_walk0 (a : Option Addr) (w : World) : Calls Tryz.prog 18 #[.slice a 0 0, .int .i64 0] w fun e w' => e = .returned (.slice a 0 0) ∧ w' = w := by
  go_enter Tryz.func18, Tryz.ntmps18
  go_wp2
  go_ret
  exact ⟨rfl, rfl⟩
/-- A function whose answer is a new empty row, by a walk. -/
theorem specN_empty {P : Program} {f : FuncId} {γ : Type} {dec : List SV → Option γ} {args : γ → List SV} {pre : γ → Prop} {n : Nat} {F : Nat → Nat → SV} {T : TypeId} (hent : ∀ args w, (callFunc f args).run P w = .ok (.enter f args) w)
    (h : ∀ g, pre g → ∀ (vals : Array Value) (w : World) (X : Nat → Prop), vals.size = (args g).length → (∀ i, i < (args g).length → R w X E0 ((args g).getD i .any) (vals.getD i undef)) →
      Calls P f vals w fun e w' => ∃ v, e = .returned v ∧ Below w.heap.size w w' ∧ OwnsR w' T n v 0 [] ∧ ∀ b, blkOf v = some b → w.heap.size ≤ b) : SpecOK P (mkSpecN f dec args pre (fun _ => .osl 0 0) (fun _ => .row 0 0 n F T)) := by
  refine ⟨hent, fun args H HF nm y _ _ h => h, fun l H nm y hrun hp w0 X0 E w hrep hfree vals ha => ?_⟩
  simp only [mkSpecN] at hrun
  split at hrun
  case h_2 => cases hrun
  rename_i hpu
  split at hrun
  case h_2 => cases hrun
  rename_i g hdec
  cases hrun
  obtain ⟨hle, ⟨hpre⟩⟩ := hp
  obtain ⟨hll, hle⟩ := leArgs_get hle
  have hr := args_pure ha hpu
  have hsz := ha.1
  refine (h g hpre vals w (Xo X0 E H) (by omega) (fun i hi => pureR (fun _ hb => hb) (hle i hi) (hr i (by omega)))).mono ?_
  rintro e w' ⟨v, rfl, hb, how, hh⟩
  refine ⟨_, rfl, ?_⟩
  have hv : ∃ a m c, v = .slice a m c := by
    rcases how with ⟨a, rfl, _⟩ | ⟨b, cap, cur, rfl, _⟩ <;> exact ⟨_, _, _, rfl⟩
  exact Goes.new (e := .slc 0 v (fun _ => none)) hrep hfree hb hh (fun _ _ _ => ⟨rfl, [], how, fun i j hi => absurd hi (Nat.not_lt_zero _)⟩) (fun X => .osl (Env.put_same _ _ _) hv)
def spGrowL : FSpec := mkSpecN 18 (γ := Nat) (fun | [_, .int _ n] => some n.toNat | _ => none) (fun n => [.cap0, .int .i64 n]) (fun n => n ≤ 1000000) (fun _ => .osl 0 0) (fun _ => .row 0 0 2 (fun _ _ => .any) 35)
theorem ok_growL : SpecOK Tryz.prog spGrowL := by
  refine specN_empty (enters_of Tryz.func18 (by kernel_rfl) rfl) (fun n hn vals w X hsz hr => ?_)
  obtain ⟨v0, v1, rfl⟩ : ∃ v0 v1, vals = #[v0, v1] := by
    have hs : vals.size = 2 := hsz
    exact ⟨vals[0], vals[1], by
      apply Array.ext
      · exact hs
      · intro i hi1 hi2
        have : i = 0 ∨ i = 1 := by omega
        rcases this with rfl | rfl <;> rfl⟩
  have h0 : R w X E0 .cap0 v0 := hr 0 (by show 0 < 2; decide)
  have h1 : R w X E0 (.int .i64 n) v1 := hr 1 (by show 1 < 2; decide)
  cases h1
  cases h0
  rename_i a
  rcases Nat.eq_zero_or_pos n with rfl | hp
  · refine (grow_walk0 a w).mono ?_
    rintro e w' ⟨rfl, rfl⟩
    exact ⟨_, rfl, Below.refl _ _, .inl ⟨a, rfl, rfl, rfl⟩, fun b hb => by cases a <;> simp [blkOf] at hb⟩
  · refine (grow_walk a n hp hn w).mono ?_
    rintro e w' ⟨c, cur, rfl, hb, hcell, hcm, hcs⟩
    refine ⟨_, rfl, hb, .inr ⟨_, c, cur, rfl, hcell, Nat.zero_le _, hcm, hcs, by simp, by simp⟩, fun b hb => ?_⟩
    simp only [blkOf, Option.some.injEq] at hb
    omega
end Go.Proofs.YtfjbjbmbdadmhaaGreat.Stg
set_option linter.unusedSimpArgs false
set_option linter.unusedVariables false
namespace Go.Proofs.YtfjbjbmbdadmhaaGreat.Sth
open Go.RowKit Sx Num Aff Con Rga Rgl Rgn Fla Flg Sta Stb Stc Sto Ste Stl Stm Stg
set_option maxRecDepth 100000
structure CaG where
  a : Lns
  b : Lns
def pk (h : CaG) (i : Nat) : Lns := if i = 1 then h.b else h.a
def spConcat : FSpec := mkSpec 8 (γ := CaG) (fun | [.sl _ _ f] => some ⟨⟨slLen (f 0 0), lnsD (f 0 0)⟩, ⟨slLen (f 1 0), lnsD (f 1 0)⟩⟩ | _ => none) (fun h => [.sl 2 1 (fun i _ => lnsS (pk h i))]) (fun h => h.a.n ≤ 1000 ∧ h.b.n ≤ 1000) (fun h => lnsS (catG h.a h.b))
theorem ok_concat : SpecOK Tryz.prog spConcat := by
  refine spec_sound (specs := [spGrowL]) (all_ok (⟨ok_growL, trivial⟩)) (eqs := []) (fun _ _ h => (List.not_mem_nil h).elim) Aff.mixed Tryz.func8 rfl (by kernel_rfl) (fun _ _ => by kernel_rfl) (fun g => (⟨[(3, .rounds 3), (11, .rounds 3)], []⟩ : Ann)) (fun g => Nat.le_of_ble_eq_true (by kernel_rfl)) ?_
  rintro g hg
  refine vc_of (B := let z11 := (↑(2 : Nat) : Int);let z10 := (IntKind.i64 = IntKind.i64);let z8 := (0 : Nat);let z6 := (1 : Int);let z4 := (9223372036854775807 : Int);let z3 := (-9223372036854775808 : Int);let z2 := (0 : Int); let z13 := (z3 ≤ z2 + z6 + z6 ∧ z2 + z6 + z6 ≤ z4);let z1 := (pk g (z2 + z6).toNat); let z12 := (↑z1.n : Int);let z0 := (pk g (Int.toNat z2)); let z9 := (↑z0.n : Int);True ∧ True ∧ True ∧ True ∧ True ∧ True ∧ Sx.Ask (z2 ≤ z2 ∧ z2 < z11) ∧ True ∧ True ∧ True ∧ True ∧ True ∧ Sx.Ask (z3 ≤ z2 + z9 ∧ z2 + z9 ≤ z4) ∧ True ∧ True ∧ True ∧ Sx.Ask (z3 ≤ z2 + z6 ∧ z2 + z6 ≤ z4) ∧ True ∧ True ∧ Sx.Ask (z2 ≤ z2 + z6 ∧ z2 + z6 < z11) ∧ True ∧ True ∧ True ∧ True ∧ True ∧ Sx.Ask (z3 ≤ z2 + z9 + z12 ∧ z2 + z9 + z12 ≤ z4) ∧ True ∧ True ∧ True ∧ Sx.Ask z13 ∧ True ∧ True ∧ True ∧ ((True ∧ (Sx.Ask z10 ∧ Sx.Ask (z2 + z9 + z12 = (↑(z2 + z9 + z12).toNat : Int))) ∧ True) ∧ Sx.Ask ((z2 + z9 + z12).toNat ≤ (1000000 : Nat))) ∧ True ∧ True ∧ True ∧ True ∧ True ∧ Sx.Ask (z2 ≤ z2 ∧ z2 < z11) ∧ True ∧ True ∧ True ∧ True ∧ Sx.Ask (z8 + z0.n ≤ (9223372036854775807 : Nat) ∧ (z8 + z0.n) * (32 : Nat) ≤ (140737488355328 : Nat)) ∧ True ∧ Sx.Ask (z3 ≤ z2 + z6 ∧ z2 + z6 ≤ z4) ∧ True ∧ True ∧ Sx.Ask (z2 ≤ z2 + z6 ∧ z2 + z6 < z11) ∧ True ∧ True ∧ True ∧ True ∧ Sx.Ask (z8 + z0.n + z1.n ≤ (9223372036854775807 : Nat) ∧ (z8 + z0.n + z1.n) * (32 : Nat) ≤ (140737488355328 : Nat)) ∧ True ∧ Sx.Ask z13 ∧ True ∧ True ∧ True ∧ True ∧ True ∧ Sx.Ask (z8 + z0.n + z1.n = g.a.n + g.b.n) ∧ ∀ (i : Nat), let z15 := (z0.f (i - z8)); let z14 := (i < z8 + z0.n); let z7 := ((Stm.catG g.a g.b).f i); let z5 := (z1.f (i - (z8 + z0.n))); i < g.a.n + g.b.n → (True ∧ Sx.Ask ((bif decide z14 then z15.n else z5.n) = z7.n) ∧ ∀ (i_1 : Nat), i_1 < z7.n → (True ∧ Sx.Ask z10 ∧ Sx.Ask ((bif decide z14 then (z15.f i_1).x else (z5.f i_1).x) = (z7.f i_1).x)) ∧ Sx.Ask z10 ∧ Sx.Ask ((bif decide z14 then (z15.f i_1).y else (z5.f i_1).y) = (z7.f i_1).y)) ∧ Sx.Ask ((bif decide z14 then z15.c else z5.c) = z7.c)) (by kernel_rfl) ?_
  simp only [ask_iff, br_iff, eq_self, true_and, and_true, implies_true, forall_const, decide_eq_true_eq, decide_eq_false_iff_not, ne_eq, Nat.mul_one, Nat.add_zero, Nat.zero_add, Int.toNat_natCast, and_self, List.append_assoc, false_and, and_false]
  simp only [show pk g (Int.toNat 0) = g.a from rfl, show pk g ((0 : Int) + 1).toNat = g.b from rfl, Nat.sub_zero]
  obtain ⟨ha, hb⟩ := hg
  refine ⟨by omega, by omega, by omega, by omega, by omega, by omega, ⟨by omega, by omega⟩, by omega, by omega, by omega, by omega, by omega, by omega, trivial, fun i hi => ?_⟩
  have hc : (catG g.a g.b).f i = if i < g.a.n then g.a.f i else g.b.f (i - g.a.n) := rfl
  rw [hc]
  by_cases c : i < g.a.n
  · rw [if_pos c, decide_eq_true c]
    exact ⟨⟨rfl, fun _ _ => ⟨rfl, rfl⟩⟩, rfl⟩
  · rw [if_neg c, decide_eq_false c]
    exact ⟨⟨rfl, fun _ _ => ⟨rfl, rfl⟩⟩, rfl⟩
/-! style. -/
structure StyG where
  s : Sty
  m : Int
def cutS (g : StyG) : Sty := ⟨cutI g.s.w 1 g.m, cutI g.s.cap 0 2, cutI g.s.join 0 2, cutI g.s.limit 16 1024⟩
def spSty : FSpec := mkSpec 6 (γ := StyG) (fun | [.agg _ g, .int _ m] => some ⟨styD g, m⟩ | _ => none) (fun g => [styS g.s, .int .i64 g.m]) (fun g => 1 ≤ g.m ∧ g.m ≤ 1024) (fun g => styS (cutS g))
theorem ok_sty : SpecOK Tryz.prog spSty := by
  refine spec_sound (specs := [spCut]) (all_ok (⟨ok_cut, trivial⟩)) (eqs := []) (fun _ _ h => (List.not_mem_nil h).elim) Aff.mixed Tryz.func6 rfl (by kernel_rfl) (fun _ _ => by kernel_rfl) (fun g => A0) (fun g => Nat.le_of_ble_eq_true (by kernel_rfl)) ?_
  rintro ⟨s, m⟩ hg
  refine vc_of (B := let z7 := (16 : Int);let z6 := (1024 : Int);let z5 := (-2305843009213693952 : Int);let z4 := (2 : Int);let z3 := (0 : Int);let z1 := (4611686018427387903 : Int); let z2 := ((z5 ≤ z3 ∧ z3 ≤ z4) ∧ z4 ≤ z1 ∧ z4 - z3 ≤ z1);let z0 := (IntKind.i64 = IntKind.i64);True ∧ True ∧ True ∧ True ∧ True ∧ (((Sx.Ask z0 ∧ Sx.Ask (s.w = s.w)) ∧ (Sx.Ask z0 ∧ Sx.Ask ((1 : Int) = (1 : Int))) ∧ (Sx.Ask z0 ∧ Sx.Ask (m = m)) ∧ True) ∧ Sx.Ask ((z5 ≤ (1 : Int) ∧ (1 : Int) ≤ m) ∧ m ≤ z1 ∧ m - (1 : Int) ≤ z1)) ∧ True ∧ True ∧ (((Sx.Ask z0 ∧ Sx.Ask (s.cap = s.cap)) ∧ (Sx.Ask z0 ∧ Sx.Ask (z3 = z3)) ∧ (Sx.Ask z0 ∧ Sx.Ask (z4 = z4)) ∧ True) ∧ Sx.Ask z2) ∧ True ∧ True ∧ (((Sx.Ask z0 ∧ Sx.Ask (s.join = s.join)) ∧ (Sx.Ask z0 ∧ Sx.Ask (z3 = z3)) ∧ (Sx.Ask z0 ∧ Sx.Ask (z4 = z4)) ∧ True) ∧ Sx.Ask z2) ∧ True ∧ True ∧ (((Sx.Ask z0 ∧ Sx.Ask (s.limit = s.limit)) ∧ (Sx.Ask z0 ∧ Sx.Ask (z7 = z7)) ∧ (Sx.Ask z0 ∧ Sx.Ask (z6 = z6)) ∧ True) ∧ Sx.Ask ((z5 ≤ z7 ∧ z7 ≤ z6) ∧ z6 ≤ z1 ∧ z6 - z7 ≤ z1)) ∧ True ∧ True ∧ (True ∧ True) ∧ (((True ∧ Sx.Ask z0 ∧ Sx.Ask (cutI s.w (1 : Int) m = cutI s.w (1 : Int) m)) ∧ Sx.Ask z0 ∧ Sx.Ask (cutI s.cap z3 z4 = cutI s.cap z3 z4)) ∧ Sx.Ask z0 ∧ Sx.Ask (cutI s.join z3 z4 = cutI s.join z3 z4)) ∧ Sx.Ask z0 ∧ Sx.Ask (cutI s.limit z7 z6 = cutI s.limit z7 z6)) (by kernel_rfl) ?_
  simp only [ask_iff, br_iff, eq_self, true_and, and_true, implies_true, forall_const, decide_eq_true_eq, decide_eq_false_iff_not, ne_eq, Nat.mul_one, Nat.add_zero, Nat.zero_add, Int.toNat_natCast, and_self, List.append_assoc, false_and, and_false]
  obtain ⟨h1, h2⟩ : 1 ≤ m ∧ m ≤ 1024 := hg
  exact ⟨⟨⟨by omega, by omega⟩, by omega, by omega⟩, ⟨⟨by omega, by omega⟩, by omega, by omega⟩, ⟨⟨by omega, by omega⟩, by omega, by omega⟩, ⟨by omega, by omega⟩, by omega, by omega⟩
/-! strokes. -/
noncomputable def spStks : FSpec := mkSpec 4 (γ := Unit) (fun | [] => some () | _ => none) (fun _ => []) (fun _ => True) (fun _ => .lit true)
theorem ok_stks : SpecOK Tryz.prog spStks := by
  refine spec_sound (specs := [giv spStr, Rgd.spRect, Rgc.spEqR]) (all_ok (⟨giv_ok ok_str, Rgd.ok_rect, Rgc.ok_eqR, trivial⟩)) (eqs := []) (fun _ _ h => (List.not_mem_nil h).elim) Aff.mixed Tryz.func4 rfl (by kernel_rfl) (fun _ _ => by kernel_rfl) (fun g => A0) (fun g => Nat.le_of_ble_eq_true (by kernel_rfl)) ?_
  rintro g hg
  refine vc_of (B := let z7 := (1 : Nat);let z5 := (0 : Int);let z3 := (Rgd.ReG.mk z5 (-2 : Int) (10 : Int) (2 : Int));let z2 := (IntKind.i64 = IntKind.i64);let z1 := (Rgn.Lf z3.f z3.n);let z0 := (Sto.StrG.mk (Fla.Lns.mk z7 fun (i : Nat) => Fla.Li.mk (2 : Nat) (fun (i : Nat) => Con.Pt.mk (bif decide (i = z7) then (10 : Int) else z5) (bif decide (i = z7) then z5 else z5)) false) (Sto.Sty.mk (4 : Int) z5 z5 (64 : Int))); let z6 := (Ste.outR z0);True ∧ True ∧ True ∧ True ∧ True ∧ True ∧ True ∧ (((Sx.Ask (z7 = z7) ∧ ∀ (i : Nat), i < z7 → (True ∧ Sx.Ask ((2 : Nat) = (2 : Nat)) ∧ ∀ (i : Nat), i < (2 : Nat) → (True ∧ Sx.Ask z2 ∧ Sx.Ask ((bif decide (i = z7) then (10 : Int) else z5) = bif decide (i = z7) then (10 : Int) else z5)) ∧ Sx.Ask z2 ∧ Sx.Ask ((bif decide (i = z7) then z5 else z5) = bif decide (i = z7) then z5 else z5)) ∧ Sx.Ask (false = false)) ∧ ((((True ∧ Sx.Ask z2 ∧ Sx.Ask ((4 : Int) = (4 : Int))) ∧ Sx.Ask z2 ∧ Sx.Ask (z5 = z5)) ∧ Sx.Ask z2 ∧ Sx.Ask (z5 = z5)) ∧ Sx.Ask z2 ∧ Sx.Ask ((64 : Int) = (64 : Int))) ∧ True) ∧ Sx.Ask (Ste.StrOK z0)) ∧ True ∧ True ∧ True ∧ True ∧ True ∧ (((Sx.Ask z2 ∧ Sx.Ask (z5 = z5)) ∧ (Sx.Ask z2 ∧ Sx.Ask ((-2 : Int) = (-2 : Int))) ∧ (Sx.Ask z2 ∧ Sx.Ask ((10 : Int) = (10 : Int))) ∧ (Sx.Ask z2 ∧ Sx.Ask ((2 : Int) = (2 : Int))) ∧ True) ∧ Sx.Ask z3.ok) ∧ True ∧ True ∧ True ∧ True ∧ True ∧ True ∧ True ∧ True ∧ True ∧ True ∧ True ∧ True ∧ True ∧ Sx.Br (decide ((↑z6.length : Int) = (4 : Int))) (True ∧ True ∧ (((Sx.Ask (z6.length = z6.length) ∧ ∀ (i : Nat), let z4 := (Rga.rI z6 i); i < z6.length → ((True ∧ Sx.Ask z2 ∧ Sx.Ask (z4.y = z4.y)) ∧ Sx.Ask z2 ∧ Sx.Ask (z4.x0 = z4.x0)) ∧ Sx.Ask z2 ∧ Sx.Ask (z4.x1 = z4.x1)) ∧ (Sx.Ask (z1.length = z1.length) ∧ ∀ (i : Nat), let z8 := (Rga.rI z1 i); i < z1.length → ((True ∧ Sx.Ask z2 ∧ Sx.Ask (z8.y = z8.y)) ∧ Sx.Ask z2 ∧ Sx.Ask (z8.x0 = z8.x0)) ∧ Sx.Ask z2 ∧ Sx.Ask (z8.x1 = z8.x1)) ∧ True) ∧ Sx.Ask (Rgc.EqG.mk (Rga.Rg.mk z6.length (Rga.rI z6)) (Rga.Rg.mk z1.length (Rga.rI z1))).ok) ∧ True ∧ True ∧ True ∧ Sx.Ask (true = true)) (True ∧ True ∧ True ∧ Sx.Ask (false = true))) (by kernel_rfl) ?_
  simp only [ask_iff, br_iff, eq_self, true_and, and_true, implies_true, forall_const, decide_eq_true_eq, decide_eq_false_iff_not, ne_eq, Nat.mul_one, Nat.add_zero, Nat.zero_add, Int.toNat_natCast, and_self, List.append_assoc, false_and, and_false]
  have e : outR ⟨⟨1, fun _ => ⟨2, fun i => ⟨bif decide (i = 1) then 10 else 0, bif decide (i = 1) then 0 else 0⟩, false⟩⟩, ⟨4, 0, 0, 64⟩⟩ = lB := out0 rfl ⟨rfl, rfl, rfl, rfl⟩
  rw [e]
  refine ⟨ok0 rfl ⟨rfl, rfl, rfl, rfl⟩, ⟨by decide, by decide, by decide, by decide, by decide, by decide⟩, fun _ => ?_, fun h => absurd rfl h⟩
  show vld (Rg.L ⟨lB.length, rI lB⟩) ∧ Rg.L ⟨lB.length, rI lB⟩ = _
  rw [Rg.L_of]
  exact ⟨vB, rfl⟩
/-! The law. -/
structure UnG where
  l : Lns
  m : Lns
  s : Sty
def lnok (g : Lns) : Prop := g.n ≤ 9223372036854775807 ∧ ∀ i, i < g.n → (g.f i).n ≤ 9223372036854775807
def UnG.ok (g : UnG) : Prop := lnok g.l ∧ lnok g.m
def tw (g : Lns) : Lns := FwG.out ⟨g, 200⟩
theorem tw_tiny (g : Lns) : (tw g).n ≤ 4 ∧ ∀ i, i < (tw g).n → tiny ((tw g).f i) := by
  refine ⟨show min g.n 4 ≤ 4 by omega, fun i _ => ⟨show min (g.f i).n 8 ≤ 8 by omega, fun j _ => ?_⟩⟩
  exact ⟨cutI_range _ (-200) 200 (by omega), cutI_range _ (-200) 200 (by omega)⟩
theorem sty_tiny (s : Sty) : Sty.tiny (cutS ⟨s, 60⟩) := by
  have h1 := cutI_range s.w 1 60 (by omega)
  have h2 := cutI_range s.limit 16 1024 (by omega)
  exact ⟨⟨⟨⟨h1.1, show cutI s.w 1 60 ≤ 1024 by omega⟩, cutI_range s.cap 0 2 (by omega)⟩, cutI_range s.join 0 2 (by omega), h2⟩, h1.2⟩
theorem vO (s : Sty) (g : Lns) : vld (Rg.L ⟨(outR ⟨g, s⟩).length, rI (outR ⟨g, s⟩)⟩) := by
  rw [Rg.L_of]
  exact out_vld s g
theorem eqO (s : Sty) (g h : Lns) : Rgc.EqG.ok ⟨⟨(outR ⟨catG g h, s⟩).length, rI (outR ⟨catG g h, s⟩)⟩, ⟨(Rgb.cbOut or ⟨⟨(outR ⟨g, s⟩).length, rI (outR ⟨g, s⟩)⟩, ⟨(outR ⟨h, s⟩).length, rI (outR ⟨h, s⟩)⟩⟩).length, rI (Rgb.cbOut or ⟨⟨(outR ⟨g, s⟩).length, rI (outR ⟨g, s⟩)⟩, ⟨(outR ⟨h, s⟩).length, rI (outR ⟨h, s⟩)⟩⟩)⟩⟩ := by
  rw [← out_cat]
  exact ⟨vO s (catG g h), rfl⟩
noncomputable def spUnites : FSpec := mkSpec 3 (γ := UnG) (fun | [s, t, .agg _ g] => some ⟨⟨slLen s, lnsD s⟩, ⟨slLen t, lnsD t⟩, styD g⟩ | _ => none) (fun g => [lnsS g.l, lnsS g.m, styS g.s]) UnG.ok (fun _ => .bool true)
theorem ok_unites : SpecOK Tryz.prog spUnites := by
  refine spec_sound (specs := [spStks, spFew, spSty, spStr, spConcat, Rgc.spUnion, Rgc.spEqR]) (all_ok (⟨ok_stks, ok_few, ok_sty, ok_str, ok_concat, Rgc.ok_Union, Rgc.ok_eqR, trivial⟩)) (eqs := []) (fun _ _ h => (List.not_mem_nil h).elim) Aff.mixed Tryz.func3 rfl (by kernel_rfl) (fun _ _ => by kernel_rfl) (fun g => A0) (fun g => Nat.le_of_ble_eq_true (by kernel_rfl)) ?_
  rintro g hg
  refine vc_of (B := let z32 := (60 : Int);let z22 := (8 : Nat);let z17 := (4 : Nat);let z14 := (-200 : Int);let z13 := (200 : Int); let z16 := (Fla.Lns.mk (Min.min g.m.n z17) fun (i : Nat) => Fla.Li.mk (Min.min (g.m.f i).n z22) (fun (i_2 : Nat) => Con.Pt.mk (cutI ((g.m.f i).f i_2).x z14 z13) (cutI ((g.m.f i).f i_2).y z14 z13)) (g.m.f i).c); let z15 := (Fla.Lns.mk (Min.min g.l.n z17) fun (i : Nat) => Fla.Li.mk (Min.min (g.l.f i).n z22) (fun (i_2 : Nat) => Con.Pt.mk (cutI ((g.l.f i).f i_2).x z14 z13) (cutI ((g.l.f i).f i_2).y z14 z13)) (g.l.f i).c);let z12 := (Sto.Sty.mk (cutI g.s.w (1 : Int) z32) (cutI g.s.cap (0 : Int) (2 : Int)) (cutI g.s.join (0 : Int) (2 : Int)) (cutI g.s.limit (16 : Int) (1024 : Int)));let z11 := (Fla.Lns.mk (Min.min g.l.n z17) fun (i : Nat) => Fla.Li.mk (Min.min (g.l.f i).n z22) (fun (i_1 : Nat) => Con.Pt.mk (cutI ((g.l.f i).f i_1).x z14 z13) (cutI ((g.l.f i).f i_1).y z14 z13)) (g.l.f i).c);let z10 := (Fla.Lns.mk (Min.min g.m.n z17) fun (i : Nat) => Fla.Li.mk (Min.min (g.m.f i).n z22) (fun (i_1 : Nat) => Con.Pt.mk (cutI ((g.m.f i).f i_1).x z14 z13) (cutI ((g.m.f i).f i_1).y z14 z13)) (g.m.f i).c);let z9 := (IntKind.i64 = IntKind.i64);let z8 := ((((True ∧ Sx.Ask z9 ∧ Sx.Ask (cutI g.s.w (1 : Int) z32 = cutI g.s.w (1 : Int) z32)) ∧ Sx.Ask z9 ∧ Sx.Ask (cutI g.s.cap (0 : Int) (2 : Int) = cutI g.s.cap (0 : Int) (2 : Int))) ∧ Sx.Ask z9 ∧ Sx.Ask (cutI g.s.join (0 : Int) (2 : Int) = cutI g.s.join (0 : Int) (2 : Int))) ∧ Sx.Ask z9 ∧ Sx.Ask (cutI g.s.limit (16 : Int) (1024 : Int) = cutI g.s.limit (16 : Int) (1024 : Int)));let z3 := (Sto.StrG.mk z10 z12); let z19 := (Ste.outR z3);let z2 := (Sto.StrG.mk z11 z12); let z18 := (Ste.outR z2);let z1 := (Sto.StrG.mk (Fla.Lns.mk (Min.min g.l.n z17 + Min.min g.m.n z17) fun (i : Nat) => let z21 := (g.m.f (i - Min.min g.l.n z17)); if i < Min.min g.l.n z17 then Fla.Li.mk (Min.min (g.l.f i).n z22) (fun (i_1 : Nat) => Con.Pt.mk (cutI ((g.l.f i).f i_1).x z14 z13) (cutI ((g.l.f i).f i_1).y z14 z13)) (g.l.f i).c else Fla.Li.mk (Min.min z21.n z22) (fun (i_1 : Nat) => Con.Pt.mk (cutI (z21.f i_1).x z14 z13) (cutI (z21.f i_1).y z14 z13)) z21.c) z12); let z25 := (Ste.outR z1);let z0 := (Rgb.cbOut Bool.or (Rgm.CbG.mk (Rga.Rg.mk z18.length (Rga.rI z18)) (Rga.Rg.mk z19.length (Rga.rI z19))));True ∧ True ∧ (True ∧ Sx.Ask True) ∧ True ∧ True ∧ (((Sx.Ask (g.l.n = g.l.n) ∧ ∀ (i : Nat), let z28 := (g.l.f i); i < g.l.n → (True ∧ Sx.Ask (z28.n = z28.n) ∧ ∀ (i_1 : Nat), i_1 < z28.n → (True ∧ Sx.Ask z9 ∧ Sx.Ask ((z28.f i_1).x = (z28.f i_1).x)) ∧ Sx.Ask z9 ∧ Sx.Ask ((z28.f i_1).y = (z28.f i_1).y)) ∧ Sx.Ask (z28.c = z28.c)) ∧ (Sx.Ask z9 ∧ Sx.Ask (z13 = z13)) ∧ True) ∧ Sx.Ask (Flg.FwG.mk g.l z13).ok) ∧ True ∧ (((Sx.Ask (g.m.n = g.m.n) ∧ ∀ (i : Nat), let z29 := (g.m.f i); i < g.m.n → (True ∧ Sx.Ask (z29.n = z29.n) ∧ ∀ (i_1 : Nat), i_1 < z29.n → (True ∧ Sx.Ask z9 ∧ Sx.Ask ((z29.f i_1).x = (z29.f i_1).x)) ∧ Sx.Ask z9 ∧ Sx.Ask ((z29.f i_1).y = (z29.f i_1).y)) ∧ Sx.Ask (z29.c = z29.c)) ∧ (Sx.Ask z9 ∧ Sx.Ask (z13 = z13)) ∧ True) ∧ Sx.Ask (Flg.FwG.mk g.m z13).ok) ∧ True ∧ ((((((True ∧ Sx.Ask z9 ∧ Sx.Ask (g.s.w = g.s.w)) ∧ Sx.Ask z9 ∧ Sx.Ask (g.s.cap = g.s.cap)) ∧ Sx.Ask z9 ∧ Sx.Ask (g.s.join = g.s.join)) ∧ Sx.Ask z9 ∧ Sx.Ask (g.s.limit = g.s.limit)) ∧ (Sx.Ask z9 ∧ Sx.Ask (z32 = z32)) ∧ True) ∧ Sx.Ask ((1 : Int) ≤ z32 ∧ z32 ≤ (1024 : Int))) ∧ True ∧ True ∧ True ∧ True ∧ True ∧ (((Sx.Ask (Min.min g.l.n z17 = Min.min g.l.n z17) ∧ ∀ (i : Nat), let z30 := (g.l.f i); i < Min.min g.l.n z17 → (True ∧ Sx.Ask (Min.min z30.n z22 = Min.min z30.n z22) ∧ ∀ (i_1 : Nat), i_1 < Min.min z30.n z22 → (True ∧ Sx.Ask z9 ∧ Sx.Ask (cutI (z30.f i_1).x z14 z13 = cutI (z30.f i_1).x z14 z13)) ∧ Sx.Ask z9 ∧ Sx.Ask (cutI (z30.f i_1).y z14 z13 = cutI (z30.f i_1).y z14 z13)) ∧ Sx.Ask (z30.c = z30.c)) ∧ z8 ∧ True) ∧ Sx.Ask (Ste.StrOK z2)) ∧ True ∧ True ∧ True ∧ True ∧ True ∧ True ∧ True ∧ (((Sx.Ask (Min.min g.m.n z17 = Min.min g.m.n z17) ∧ ∀ (i : Nat), let z31 := (g.m.f i); i < Min.min g.m.n z17 → (True ∧ Sx.Ask (Min.min z31.n z22 = Min.min z31.n z22) ∧ ∀ (i_1 : Nat), i_1 < Min.min z31.n z22 → (True ∧ Sx.Ask z9 ∧ Sx.Ask (cutI (z31.f i_1).x z14 z13 = cutI (z31.f i_1).x z14 z13)) ∧ Sx.Ask z9 ∧ Sx.Ask (cutI (z31.f i_1).y z14 z13 = cutI (z31.f i_1).y z14 z13)) ∧ Sx.Ask (z31.c = z31.c)) ∧ z8 ∧ True) ∧ Sx.Ask (Ste.StrOK z3)) ∧ True ∧ True ∧ True ∧ True ∧ True ∧ True ∧ True ∧ True ∧ (((Sx.Ask ((2 : Nat) = (2 : Nat)) ∧ ∀ (i : Nat), let z27 := (i = (1 : Nat)); let z7 := (pk (CaG.mk z15 z16) i); i < (2 : Nat) → True ∧ Sx.Ask ((bif decide z27 then Min.min g.m.n z17 else Min.min g.l.n z17) = (pk (CaG.mk z11 z10) i).n) ∧ ∀ (i_1 : Nat), let z6 := ((pk (CaG.mk (Fla.Lns.mk (Min.min g.l.n z17) fun (i : Nat) => Fla.Li.mk (Min.min (g.l.f i).n z22) (fun (i_3 : Nat) => Con.Pt.mk (cutI ((g.l.f i).f i_3).x z14 z13) (cutI ((g.l.f i).f i_3).y z14 z13)) (g.l.f i).c) (Fla.Lns.mk (Min.min g.m.n z17) fun (i : Nat) => Fla.Li.mk (Min.min (g.m.f i).n z22) (fun (i_3 : Nat) => Con.Pt.mk (cutI ((g.m.f i).f i_3).x z14 z13) (cutI ((g.m.f i).f i_3).y z14 z13)) (g.m.f i).c)) i).f i_1); i_1 < z7.n → (True ∧ Sx.Ask ((bif decide z27 then Min.min (g.m.f i_1).n z22 else Min.min (g.l.f i_1).n z22) = (z7.f i_1).n) ∧ ∀ (i_2 : Nat), i_2 < z6.n → (True ∧ Sx.Ask z9 ∧ Sx.Ask ((bif decide z27 then cutI ((g.m.f i_1).f i_2).x z14 z13 else cutI ((g.l.f i_1).f i_2).x z14 z13) = (z6.f i_2).x)) ∧ Sx.Ask z9 ∧ Sx.Ask ((bif decide z27 then cutI ((g.m.f i_1).f i_2).y z14 z13 else cutI ((g.l.f i_1).f i_2).y z14 z13) = (z6.f i_2).y)) ∧ Sx.Ask ((bif decide z27 then (g.m.f i_1).c else (g.l.f i_1).c) = (z7.f i_1).c)) ∧ True) ∧ Sx.Ask (Min.min g.l.n z17 ≤ (1000 : Nat) ∧ Min.min g.m.n z17 ≤ (1000 : Nat))) ∧ True ∧ (((Sx.Ask (Min.min g.l.n z17 + Min.min g.m.n z17 = Min.min g.l.n z17 + Min.min g.m.n z17) ∧ ∀ (i : Nat), let z5 := ((Stm.catG z11 z10).f i); let z4 := ((Stm.catG z15 z16).f i); i < Min.min g.l.n z17 + Min.min g.m.n z17 → (True ∧ Sx.Ask (z5.n = z5.n) ∧ ∀ (i_1 : Nat), i_1 < z4.n → (True ∧ Sx.Ask z9 ∧ Sx.Ask ((z4.f i_1).x = (z4.f i_1).x)) ∧ Sx.Ask z9 ∧ Sx.Ask ((z4.f i_1).y = (z4.f i_1).y)) ∧ Sx.Ask (z5.c = z5.c)) ∧ z8 ∧ True) ∧ Sx.Ask (Ste.StrOK z1)) ∧ True ∧ True ∧ True ∧ True ∧ True ∧ True ∧ True ∧ (((Sx.Ask (z18.length = z18.length) ∧ ∀ (i : Nat), let z23 := (Rga.rI z18 i); i < z18.length → ((True ∧ Sx.Ask z9 ∧ Sx.Ask (z23.y = z23.y)) ∧ Sx.Ask z9 ∧ Sx.Ask (z23.x0 = z23.x0)) ∧ Sx.Ask z9 ∧ Sx.Ask (z23.x1 = z23.x1)) ∧ (Sx.Ask (z19.length = z19.length) ∧ ∀ (i : Nat), let z24 := (Rga.rI z19 i); i < z19.length → ((True ∧ Sx.Ask z9 ∧ Sx.Ask (z24.y = z24.y)) ∧ Sx.Ask z9 ∧ Sx.Ask (z24.x0 = z24.x0)) ∧ Sx.Ask z9 ∧ Sx.Ask (z24.x1 = z24.x1)) ∧ True) ∧ Sx.Ask (Rga.vld (Rga.Rg.mk z18.length (Rga.rI z18)).L ∧ Rga.vld (Rga.Rg.mk z19.length (Rga.rI z19)).L)) ∧ True ∧ True ∧ True ∧ True ∧ True ∧ True ∧ True ∧ True ∧ True ∧ True ∧ True ∧ True ∧ True ∧ True ∧ True ∧ True ∧ True ∧ True ∧ (((Sx.Ask (z25.length = z25.length) ∧ ∀ (i : Nat), let z20 := (Rga.rI z25 i); i < z25.length → ((True ∧ Sx.Ask z9 ∧ Sx.Ask (z20.y = z20.y)) ∧ Sx.Ask z9 ∧ Sx.Ask (z20.x0 = z20.x0)) ∧ Sx.Ask z9 ∧ Sx.Ask (z20.x1 = z20.x1)) ∧ (Sx.Ask (z0.length = z0.length) ∧ ∀ (i : Nat), let z26 := (Rga.rI z0 i); i < z0.length → ((True ∧ Sx.Ask z9 ∧ Sx.Ask (z26.y = z26.y)) ∧ Sx.Ask z9 ∧ Sx.Ask (z26.x0 = z26.x0)) ∧ Sx.Ask z9 ∧ Sx.Ask (z26.x1 = z26.x1)) ∧ True) ∧ Sx.Ask (Rgc.EqG.mk (Rga.Rg.mk z25.length (Rga.rI z25)) (Rga.Rg.mk z0.length (Rga.rI z0))).ok) ∧ True ∧ True ∧ True ∧ Sx.Ask (true = true)) (by kernel_rfl) ?_
  simp only [ask_iff, br_iff, eq_self, true_and, and_true, implies_true, forall_const, decide_eq_true_eq, decide_eq_false_iff_not, ne_eq, Nat.mul_one, Nat.add_zero, Nat.zero_add, Int.toNat_natCast, and_self, List.append_assoc, false_and, and_false]
  obtain ⟨hl, hm⟩ := hg
  have tl := tw_tiny g.l
  have tm := tw_tiny g.m
  have ts := sty_tiny g.s
  refine ⟨⟨hl, show (0 : Int) ≤ 200 by decide, show (200 : Int) ≤ 32767 by decide⟩, ⟨hm, show (0 : Int) ≤ 200 by decide, show (200 : Int) ≤ 32767 by decide⟩, ⟨by omega, by omega⟩, str_ok (g := tw g.l) ⟨by have := tl.1; omega, tl.2⟩ ts, str_ok (g := tw g.m) ⟨by have := tm.1; omega, tm.2⟩ ts, ?_⟩
  refine ⟨⟨fun i hi => match i, hi with
    | 0, _ => ⟨rfl, fun j _ => ⟨⟨rfl, fun k _ => ⟨rfl, rfl⟩⟩, rfl⟩⟩
    | 1, _ => ⟨rfl, fun j _ => ⟨⟨rfl, fun k _ => ⟨rfl, rfl⟩⟩, rfl⟩⟩, ?_⟩, ?_⟩
  · exact ⟨Nat.le_trans tl.1 (by decide), Nat.le_trans tm.1 (by decide)⟩
  exact ⟨str_ok (g := catG (tw g.l) (tw g.m)) (cat_tiny tl tm) ts, ⟨vO (cutS ⟨g.s, 60⟩) (tw g.l), vO (cutS ⟨g.s, 60⟩) (tw g.m)⟩, eqO (cutS ⟨g.s, 60⟩) (tw g.l) (tw g.m)⟩
end Go.Proofs.YtfjbjbmbdadmhaaGreat.Sth
