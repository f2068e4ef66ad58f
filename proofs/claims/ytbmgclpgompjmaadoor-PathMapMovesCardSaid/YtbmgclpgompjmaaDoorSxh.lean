/- The evaluation tells the truth: addresses, parts, slices, arithmetic. -/
import Derived.Test.YtbmgclpgompjmaaDoorSxg
namespace Go.Proofs.YtbmgclpgompjmaaDoor.Sx
open Go.RowKit
theorem up {w X E sv v} (h : R w X E0 sv v) : R w X E sv v := h.mono (fun _ _ _ => rfl) (Within.refl _ _) (Env.E0_le E)
theorem tfld_spec {P : Program} {t : TypeId} {f : Nat} {fd : Nat × Nat × Bool} (h : tfld P t f = some fd) :
    ∃ fs x, P.underlying t = some (.struct fs) ∧ fs[f]? = some x ∧ x.offset = fd.1 ∧ tinf P x.type = some (fd.2.1, fd.2.2) := by
  unfold tfld at h
  cases hd : P.underlying t with
  | none => simp [hd] at h
  | some d =>
    cases d <;> simp only [hd, reduceCtorEq] at h
    rename_i fs
    cases hf : fs[f]? with
    | none => simp [hf] at h
    | some x =>
      cases hi : tinf P x.type with
      | none => simp [hf, hi] at h
      | some q =>
        simp only [hf, hi, Option.some.injEq] at h
        subst h
        exact ⟨fs, x, rfl, hf, rfl, hi⟩
theorem R_ref_sub {w X E n g b o m k} (h : R w X E (.ref n g) (.pointer (some ⟨b, o, none⟩))) (hm : m + k ≤ n) : R w X E (.ref k (fun j => g (m + j))) (.pointer (some ⟨b, o + m, none⟩)) := by
  cases h with
  | ref hb hX hc ho hr =>
    refine .ref hb hX (by omega) (fun j hj => ?_) fun j hj => ?_
    · have := ho (m + j) (by omega); rwa [← Nat.add_assoc] at this
    · have := hr (m + j) (by omega); rwa [← Nat.add_assoc] at this
theorem evFieldAddr_sound {P : Program} {w0 X0 H E w nm} (h : Rep w0 X0 H E w) {t : TypeId} {f : Nat} {fd : Nat × Nat × Bool} (ht : tfld P t f = some fd) {x : SV} {v : Value} (hx : R w (Xo X0 E H) E x v) {y : Yd}
    (hy : evFieldAddr fd x = some y) : ∃ u w', (Instr.fieldAt t v f).run P w = .ok u w' ∧ Goes w0 X0 H E w nm y.eff y.val u w' := by
  obtain ⟨fs, fx, h1, h2, h3, h4⟩ := tfld_spec ht
  have hsz := (tinf_spec h4 w).2
  have fin : ∀ {b o : Nat}, v = .pointer (some ⟨b, o, none⟩) → fd.2.1 ≠ 0 → y.eff = .keep → R w (Xo X0 E H) E y.val (.pointer (some ⟨b, o + fd.1, none⟩)) →
      ∃ u w', (Instr.fieldAt t v f).run P w = .ok u w' ∧ Goes w0 X0 H E w nm y.eff y.val u w' := by
    intro b o hv hne he hr
    subst hv
    refine ⟨.pointer (some ⟨b, o + fd.1, none⟩), w, ?_, ?_⟩
    · simp only [Instr.fieldAt, Sem.run_bind, run_underlying h1, Result.andThen_ok, h2, Instr.sureAddr, Sem.run_pure, fieldPlace, hsz, hne, if_false, addr_add, h3]
    · rw [he]; exact Goes.pure h hr
  cases hx with
  | own he =>
    simp only [evFieldAddr] at hy
    split at hy
    · cases hy
    · cases hy; exact fin rfl ‹_› rfl (.own he)
  | ref hb hX hc ho hr =>
    simp only [evFieldAddr] at hy
    split at hy
    · cases hy
    · rename_i hne
      cases hy
      exact fin rfl (by omega) rfl (R_ref_sub (.ref hb hX hc ho hr) (by omega))
  | ownAt he =>
    simp only [evFieldAddr] at hy
    split at hy
    · cases hy
    · cases hy; refine fin rfl ‹_› rfl ?_; rw [Nat.add_assoc]; exact .ownAt he
  | ownAtOld he hl hv =>
    obtain ⟨b, o, rfl⟩ := hv
    simp only [evFieldAddr] at hy
    split at hy
    · cases hy
    · cases hy; exact fin rfl ‹_› rfl (.ownAtOld he hl ⟨_, _, rfl⟩)
  | _ => simp [evFieldAddr] at hy
theorem evIndexAddrS_sound {P : Program} {w0 X0 H E w nm} (h : Rep w0 X0 H E w) {t : TypeId} {te : TypeId × Nat × Nat} (ht : tsl P t = some te) {x : SV} {v : Value} (hx : R w (Xo X0 E H) E x v) {k : IntKind} {i : Int} {y : Yd}
    (hy : evIndexAddrS te.2.1 H i x = some y) (hask : y.ask) : ∃ u w', (Instr.indexAt t v (.int k i)).run P w = .ok u w' ∧ Goes w0 X0 H E w nm y.eff y.val u w' := by
  obtain ⟨ti, h1, h2, h3, h4⟩ := tsl_spec ht
  have hsz : (sizeOf te.1).run P w = .ok te.2.1 w := by simp [sizeOf, typeInfo, h2, h3]
  have fin : ∀ {b o len cap : Nat}, v = .slice (some ⟨b, o, none⟩) len cap → inLen i len → y.eff = .keep → R w (Xo X0 E H) E y.val (.pointer (some ⟨b, o + i.toNat * te.2.1, none⟩)) →
      ∃ u w', (Instr.indexAt t v (.int k i)).run P w = .ok u w' ∧ Goes w0 X0 H E w nm y.eff y.val u w' := by
    intro b o len cap hv hin he hr
    subst hv
    refine ⟨.pointer (some ⟨b, o + i.toNat * te.2.1, none⟩), w, ?_, ?_⟩
    · simp only [Instr.indexAt, asIntOf, Sem.run_bind, Sem.run_pure, run_underlying h1, Result.andThen_ok, hsz, addr_add, Sem.run_ite, if_pos (show 0 ≤ i ∧ i < (len : Int) from hin)]
    · rw [he]; exact Goes.pure h hr
  have onSl : ∀ {E' : Env} {len n : Nat} {g : Nat → Nat → SV}, R w (Xo X0 E H) E' (.sl len n g) v → n = te.2.1 → y = ⟨Ask (inLen i len), .ref n (g i.toNat), .keep⟩ →
      ∃ u w', (Instr.indexAt t v (.int k i)).run P w = .ok u w' ∧ Goes w0 X0 H E w nm y.eff y.val u w' := by
    intro E' len n g hr hn hyy
    subst hyy
    have hin : inLen i len := hask.out
    have hlt : i.toNat < len := by have := hin.1; have := hin.2; omega
    cases hr with
    | sl0 => omega
    | sl hb hX hc hl ho hr =>
      rename_i b o cap c T fr
      subst hn
      refine fin rfl hin rfl ?_
      have hle : (i.toNat + 1) * te.2.1 ≤ len * te.2.1 := Nat.mul_le_mul_right _ hlt
      rw [Nat.add_mul] at hle
      exact .ref hb hX (by omega) (fun j hj => ho _ _ hlt hj) fun j hj => hr _ _ hlt hj
  cases hx with
  | sl0 =>
    simp only [evIndexAddrS] at hy
    obtain ⟨hn, rfl⟩ := ite_some hy
    have := hask.out.1
    have := hask.out.2
    omega
  | sl hb hX hc hl ho hr =>
    simp only [evIndexAddrS] at hy
    obtain ⟨hn, rfl⟩ := ite_some hy
    exact onSl (.sl (E := E0) hb hX hc hl ho hr) hn rfl
  | osl he hv =>
    rename_i k' ver
    have hok := h.ok k' _ he
    simp only [evIndexAddrS] at hy
    generalize H.getD k' .dead = so at hy hok
    cases so <;> simp only [reduceCtorEq] at hy
    · rename_i ver' len n g T
      obtain ⟨⟨rfl, hn⟩, rfl⟩ := ite_some hy
      obtain ⟨_, xs, h5, _⟩ := hok
      have hin : inLen i len := hask.out
      rcases h5 with ⟨a, rfl, rfl, rfl⟩ | ⟨b', cap', cur, rfl, c1, c2, c3, c4, c5, c6⟩
      · have := hin.1; have := hin.2; omega
      · refine fin rfl hin rfl ?_
        rw [Nat.zero_add, ← hn]
        exact .ownAt (off := 0) he
    · rename_i ver' len n g
      obtain ⟨⟨rfl, hn⟩, rfl⟩ := ite_some hy
      exact onSl hok.2 hn rfl
  | oslOld he hl hv =>
    rename_i k' ver ver' v'
    have hok := h.ok k' _ he
    simp only [evIndexAddrS] at hy
    generalize H.getD k' .dead = so at hy hok
    cases so <;> simp only [reduceCtorEq] at hy
    · obtain ⟨⟨rfl, hn⟩, rfl⟩ := ite_some hy
      have := hok.1
      omega
    · obtain ⟨⟨rfl, hn⟩, rfl⟩ := ite_some hy
      have := hok.1
      omega
  | win he hl ha h0 =>
    rename_i k' ver m lo l a a0 len0 cap0
    have hok := h.ok k' _ he
    simp only [evIndexAddrS] at hy
    generalize H.getD k' .dead = so at hy hok
    cases so <;> simp only [reduceCtorEq] at hy
    rename_i ver' len n g T
    obtain ⟨⟨⟨rfl, rfl⟩, hn⟩, rfl⟩ := ite_some hy
    obtain ⟨_, xs, h5, _⟩ := hok
    have hin : inLen i l := hask.out
    have hl0 : l ≠ 0 := by have := hin.1; have := hin.2; omega
    rcases h5 with ⟨a', hv', rfl, rfl⟩ | ⟨b', cap', cur, hv', c1, c2, c3, c4, c5, c6⟩
    · cases hv'; omega
    · cases hv'
      have hadd : a = some ⟨b', 0 + lo * m, none⟩ := by rw [ha hl0, Option.map_some]; exact congrArg some (addr_add b' 0 _)
      subst hadd
      refine fin rfl hin rfl ?_
      rw [← hn, Nat.zero_add, ← Nat.add_mul]
      exact .ownAt (off := 0) he
  | winOld he hl hv =>
    rename_i k' ver ver' v' m lo l
    have hok := h.ok k' _ he
    simp only [evIndexAddrS] at hy
    generalize H.getD k' .dead = so at hy hok
    cases so <;> simp only [reduceCtorEq] at hy
    obtain ⟨⟨⟨rfl, rfl⟩, hn⟩, rfl⟩ := ite_some hy
    have := hok.1
    omega
  | _ => simp [evIndexAddrS] at hy
theorem evIndexAddrA_sound {P : Program} {w0 X0 H E w nm} (h : Rep w0 X0 H E w) {t : TypeId} {ai : Nat × Nat × Bool} (ht : tarr P t = some ai) {x : SV} {v : Value} (hx : R w (Xo X0 E H) E x v) {k : IntKind} {i : Int} {y : Yd}
    (hy : evIndexAddrA ai.1 ai.2.1 i x = some y) (hask : y.ask) : ∃ u w', (Instr.indexAt t v (.int k i)).run P w = .ok u w' ∧ Goes w0 X0 H E w nm y.eff y.val u w' := by
  obtain ⟨len, es, ag⟩ := ai
  obtain ⟨e, ti, h1, h2, h3, h4⟩ := tarr_spec ht
  have hsz : (sizeOf e).run P w = .ok es w := (tinf_spec h2 w).2
  have fin : ∀ {b o : Nat}, v = .pointer (some ⟨b, o, none⟩) → inLen i len → y.eff = .keep → R w (Xo X0 E H) E y.val (.pointer (some ⟨b, o + i.toNat * es, none⟩)) →
      ∃ u w', (Instr.indexAt t v (.int k i)).run P w = .ok u w' ∧ Goes w0 X0 H E w nm y.eff y.val u w' := by
    intro b o hv hin he hr
    subst hv
    refine ⟨.pointer (some ⟨b, o + i.toNat * es, none⟩), w, ?_, ?_⟩
    · simp only [Instr.indexAt, asIntOf, Sem.run_bind, Sem.run_pure, run_underlying h1, Result.andThen_ok, Instr.sureAddr, hsz, addr_add, Sem.run_ite, if_pos (show 0 ≤ i ∧ i < (len : Int) from hin)]
    · rw [he]; exact Goes.pure h hr
  cases hx with
  | own he =>
    simp only [evIndexAddrA, Option.some.injEq] at hy
    subst hy
    exact fin rfl hask.out rfl (.own he)
  | ref hb hX hc ho hr =>
    rename_i n g b o c T fr
    simp only [evIndexAddrA] at hy
    obtain ⟨hle, rfl⟩ := ite_some hy
    have hin : inLen i len := hask.out
    have hlt : i.toNat < len := by have := hin.1; have := hin.2; omega
    have hle2 : (i.toNat + 1) * es ≤ len * es := Nat.mul_le_mul_right _ hlt
    rw [Nat.add_mul] at hle2
    exact fin rfl hin rfl (R_ref_sub (.ref hb hX hc ho hr) (by omega))
  | ownAt he =>
    simp only [evIndexAddrA, Option.some.injEq] at hy
    subst hy
    refine fin rfl hask.out rfl ?_
    rw [Nat.add_assoc]
    exact .ownAt he
  | ownAtOld he hl hv =>
    obtain ⟨b, o, rfl⟩ := hv
    simp only [evIndexAddrA, Option.some.injEq] at hy
    subst hy
    exact fin rfl hask.out rfl (.ownAtOld he hl ⟨_, _, rfl⟩)
  | _ => simp [evIndexAddrA] at hy
/-- A part of an aggregate. -/
theorem run_part {P : Program} {w X E} {t : TypeId} {ti : Nat × Bool} (ht : tinf P t = some ti) {n off : Nat} {g : Nat → SV} {cs : Array Value} {s : SV} (hs : cs.size = n)
    (ho : ∀ i, i < n → oneCell (cs.getD i undef)) (h : ∀ i, i < n → R w X E (g i) (cs.getD i undef)) (hl : ld ti n g off = some s) :
    ∃ v, (Go.part t cs off).run P w = .ok v w ∧ R w X E s v := by
  obtain ⟨m, a⟩ := ti
  obtain ⟨h1, h2⟩ := tinf_spec ht w
  cases a with
  | true =>
    simp only [ld, if_true] at hl
    obtain ⟨hle, rfl⟩ := ite_some hl
    have hg : ∀ i, i < m → (cs.extract off (off + m)).getD i undef = cs.getD (off + i) undef := fun i hi => by
      rw [Array.getD_eq_getD_getElem?, Array.getElem?_extract, if_pos (by omega), Array.getD_eq_getD_getElem?]
    refine ⟨.agg (cs.extract off (off + m)), by simp [Go.part, h1, h2], .agg (by rw [Array.size_extract]; omega) (fun i hi => ?_) fun i hi => ?_⟩
    · rw [hg i hi]; exact ho _ (by omega)
    · rw [hg i hi]; exact h _ (by omega)
  | false =>
    simp only [ld, Bool.false_eq_true, if_false] at hl
    obtain ⟨hle, rfl⟩ := ite_some hl
    refine ⟨cs.getD off undef, ?_, h _ hle⟩
    have : cs[off]? = some (cs.getD off undef) := by rw [Array.getD_eq_getD_getElem?, Array.getElem?_eq_getElem (by omega)]; rfl
    simp only [Go.part, Sem.run_bind, h1, Result.andThen_ok, this, Bool.false_eq_true, if_false, Sem.run_pure]
theorem evIndex_sound {P : Program} {w0 X0 H E w nm} (h : Rep w0 X0 H E w) {t : TypeId} {ai : Nat × Nat × Bool} (ht : tarr P t = some ai) {x : SV} {v : Value} (hx : R w (Xo X0 E H) E x v) {k : IntKind} {i : Int} {y : Yd}
    (hy : evIndex ai i x = some y) (hask : y.ask) : ∃ u w', (Instr.index t v (.int k i)).run P w = .ok u w' ∧ Goes w0 X0 H E w nm y.eff y.val u w' := by
  obtain ⟨len, es, ag⟩ := ai
  obtain ⟨e, ti, h1, h2, h3, h4⟩ := tarr_spec ht
  have hsz : (sizeOf e).run P w = .ok es w := (tinf_spec h2 w).2
  cases hx with
  | agg hs ho hr =>
    rename_i n g vs
    have hy0 : (if n = len * es then (if ag = true then some (Yd.mk (Ask (inLen i len)) (.agg es (fun j => g (i.toNat * es + j))) .keep) else if es = 1 then some ⟨Ask (inLen i len), g i.toNat, .keep⟩ else none) else none) = some y := hy
    clear hy
    by_cases hn : n = len * es
    case neg => rw [if_neg hn] at hy0; cases hy0
    rw [if_pos hn] at hy0
    have key : ∀ s, inLen i len → ld (es, ag) n g (i.toNat * es) = some s → ∃ u w', (Instr.index t (.agg vs) (.int k i)).run P w = .ok u w' ∧ Goes w0 X0 H E w nm .keep s u w' := by
      intro s hin hl
      obtain ⟨u, hu, hr'⟩ := run_part (P := P) h2 hs ho hr hl
      refine ⟨u, w, ?_, Goes.pure h hr'⟩
      simp only [Instr.index, asIntOf, Sem.run_bind, Sem.run_pure, run_underlying h1, Result.andThen_ok, Sem.run_ite, if_pos (show 0 ≤ i ∧ i < (len : Int) from hin), hsz, hu]
    by_cases hag : ag = true
    · rw [if_pos hag] at hy0
      subst hag
      cases hy0
      have hin : inLen i len := hask.out
      have hlt : i.toNat < len := by have := hin.1; have := hin.2; omega
      have hle2 : (i.toNat + 1) * es ≤ len * es := Nat.mul_le_mul_right _ hlt
      rw [Nat.add_mul] at hle2
      exact key _ hin (by simp only [ld, if_true]; rw [if_pos (by omega)])
    · rw [if_neg hag] at hy0
      obtain ⟨hes, rfl⟩ := ite_some hy0
      have hin : inLen i len := hask.out
      have hlt : i.toNat < len := by have := hin.1; have := hin.2; omega
      subst hes
      have : ag = false := by simpa using hag
      subst this
      exact key _ hin (by simp only [ld, Bool.false_eq_true, if_false, Nat.mul_one]; rw [if_pos (by omega)])
  | _ => simp [evIndex] at hy
theorem evField_sound {P : Program} {w0 X0 H E w nm} (h : Rep w0 X0 H E w) {t : TypeId} {f : Nat} {fd : Nat × Nat × Bool} (ht : tfld P t f = some fd) {x : SV} {v : Value} (hx : R w (Xo X0 E H) E x v) {y : Yd}
    (hy : evField fd x = some y) : ∃ u w', (Instr.field t v f).run P w = .ok u w' ∧ Goes w0 X0 H E w nm y.eff y.val u w' := by
  obtain ⟨fs, fx, h1, h2, h3, h4⟩ := tfld_spec ht
  cases hx with
  | agg hs ho hr =>
    rename_i n g vs
    simp only [evField] at hy
    cases hl : ld (fd.2.1, fd.2.2) n g fd.1 with
    | none => simp [hl] at hy
    | some s =>
      simp only [hl, Option.map_some, Option.some.injEq] at hy
      subst hy
      obtain ⟨u, hu, hr'⟩ := run_part (P := P) h4 hs ho hr hl
      refine ⟨u, w, ?_, Goes.pure h hr'⟩
      simp only [Instr.field, Sem.run_bind, run_underlying h1, Result.andThen_ok, h2, asAgg, Sem.run_pure, h3, hu]
  | _ => simp [evField] at hy
theorem evExtract_sound {P : Program} {w0 X0 H E w nm} (h : Rep w0 X0 H E w) {i : Nat} {x : SV} {v : Value} (hx : R w (Xo X0 E H) E x v) {y : Yd}
    (hy : evExtract i x = some y) : ∃ u w', (Instr.extract v i).run P w = .ok u w' ∧ Goes w0 X0 H E w nm y.eff y.val u w' := by
  cases hx with
  | tup hs hr =>
    rename_i n g vs
    simp only [evExtract] at hy
    obtain ⟨hlt, rfl⟩ := ite_some hy
    have : vs[i]? = some (vs.getD i undef) := by rw [Array.getD_eq_getD_getElem?, Array.getElem?_eq_getElem (by omega)]; rfl
    exact ⟨_, w, by simp only [Instr.extract, this, Sem.run_pure], Goes.pure h (hr i hlt)⟩
  | _ => simp [evExtract] at hy
theorem wrap_fit {k : IntKind} {n : Int} (h : inK k n) : k.wrap n = fitK k n := by
  cases k <;> first | rfl | exact IntWalk.i64_in n h
theorem beq_eq_decide (a b : Int) : (a == b) = decide (a = b) := by by_cases h : a = b <;> simp [h]
theorem bne_eq_decide (a b : Int) : (a != b) = decide (a ≠ b) := by by_cases h : a = b <;> simp [h]
/-- Aggregates of type t with n cells compare cell by cell. -/
def EqOK (P : Program) (t : TypeId) (n : List CK) : Prop := ∀ (w : World) (X : Nat → Prop) (E : Env) (g f : Nat → SV) (xs ys : Array Value) (b : Bool), xs.size = n.length → ys.size = n.length → eqCells g f n 0 = some b →
  (∀ i, i < n.length → R w X E (g i) (xs.getD i undef)) → (∀ i, i < n.length → R w X E (f i) (ys.getD i undef)) →
  ∀ x y, (eqGuard .eql t x y (.agg xs) (.agg ys)).run P w = .ok () w ∧ (eqGuard .neq t x y (.agg xs) (.agg ys)).run P w = .ok () w ∧ (Op.equalIn 10000 t (.agg xs) (.agg ys)).run P w = .ok b w
theorem evEqB_sound {P : Program} {w0 X0 H E w nm} (h : Rep w0 X0 H E w) {op : BinOp} {t : TypeId} {xo yo : Operand} {v u : Value} {b : Bool} {y : Yd} (hy : evEqB op b = some y)
    (g1 : (eqGuard .eql t xo yo v u).run P w = .ok () w) (g2 : (eqGuard .neq t xo yo v u).run P w = .ok () w)
    (e1 : (binOp .eql t v u).run P w = .ok (.bool b) w) (e2 : (binOp .neq t v u).run P w = .ok (.bool !b) w) :
    ∃ r w', (do eqGuard op t xo yo v u; binOp op t v u : Sem Value).run P w = .ok r w' ∧ Goes w0 X0 H E w nm y.eff y.val r w' := by
  cases op <;> simp only [evEqB, pureY, Option.some.injEq, reduceCtorEq] at hy <;> subst hy
  · exact ⟨_, w, by simp only [Sem.run_bind, g1, Result.andThen_ok, e1], Goes.pure h .bool⟩
  · exact ⟨_, w, by simp only [Sem.run_bind, g2, Result.andThen_ok, e2], Goes.pure h .bool⟩
theorem equal_func_nil {P : Program} (w : World) (d : Nat) (t : TypeId) {a b c} (h : P.underlying t = some (.func a b c)) (f : Fn) (x y : Array Value) : (Op.equalIn (d + 1) t (.func f x y) .nilFunc).run P w = .ok false w := by
  simp only [Op.equalIn, Sem.run_bind, run_underlying h, Result.andThen_ok, Sem.run_pure]
theorem equal_nil_nil {P : Program} (w : World) (d : Nat) (t : TypeId) {a b c} (h : P.underlying t = some (.func a b c)) : (Op.equalIn (d + 1) t .nilFunc .nilFunc).run P w = .ok true w := by
  simp only [Op.equalIn, Sem.run_bind, run_underlying h, Result.andThen_ok, Sem.run_pure]
theorem bin_func_nil {P : Program} (w : World) (t : TypeId) {a b c} (h : P.underlying t = some (.func a b c)) (f : Fn) (x y : Array Value) :
    (binOp .eql t (.func f x y) .nilFunc).run P w = .ok (.bool false) w ∧ (binOp .neq t (.func f x y) .nilFunc).run P w = .ok (.bool !false) w := by
  constructor <;> simp only [binOp] <;> simp [Op.equal, Op.maxDepth, equal_func_nil w 9999 t h]
theorem bin_nil_nil {P : Program} (w : World) (t : TypeId) {a b c} (h : P.underlying t = some (.func a b c)) :
    (binOp .eql t .nilFunc .nilFunc).run P w = .ok (.bool true) w ∧ (binOp .neq t .nilFunc .nilFunc).run P w = .ok (.bool !true) w := by
  constructor <;> simp only [binOp] <;> simp [Op.equal, Op.maxDepth, equal_nil_nil w 9999 t h]
theorem asB_inv {w X E s b v} (hs : asB s = some b) (h : R w X E s v) : v = .bool b := by
  cases h <;> simp only [asB, Option.some.injEq, reduceCtorEq] at hs
  · subst hs; rfl
  · subst hs; rfl
theorem findE_mem : ∀ {eqs : List (TypeId × List CK)} {t : TypeId} {ks : List CK}, findE eqs t = some ks → (t, ks) ∈ eqs
  | [], t, ks, h => by cases h
  | (u, l) :: r, t, ks, h => by
    simp only [findE] at h
    split at h
    · rename_i hu; cases h; subst hu; exact List.mem_cons_self
    · exact List.mem_cons_of_mem _ (findE_mem h)
theorem ev2_sound {P : Program} {w0 X0 H E w nm} (h : Rep w0 X0 H E w) {op : BinOp} {eqs : List (TypeId × List CK)} (heqs : ∀ t n, (t, n) ∈ eqs → EqOK P t n)
    {t : TypeId} {xo yo : Operand} {x z : SV} {v u : Value} (hx : R w (Xo X0 E H) E x v) (hz : R w (Xo X0 E H) E z u) {y : Yd}
    (hy : ev2 op eqs (tbool P t) (tfunc P t) t x z = some y) (hask : y.ask) : ∃ r w', (do eqGuard op t xo yo v u; binOp op t v u : Sem Value).run P w = .ok r w' ∧ Goes w0 X0 H E w nm y.eff y.val r w' := by
  have bools : ∀ {a : Bool} {s : SV}, asB s = some a → v = .bool a → (ev2 op eqs (tbool P t) (tfunc P t) t s z = match asB s, asB z with | some a, some b => if tbool P t = true then evEqB op (a == b) else none | _, _ => none) → ev2 op eqs (tbool P t) (tfunc P t) t s z = some y →
      ∃ r w', (do eqGuard op t xo yo v u; binOp op t v u : Sem Value).run P w = .ok r w' ∧ Goes w0 X0 H E w nm y.eff y.val r w' := by
    intro a s ha hv heq hy
    subst hv
    rw [heq, ha] at hy
    cases hb : asB z with
    | none => rw [hb] at hy; cases hy
    | some b =>
      rw [hb] at hy
      have hu := asB_inv hb hz
      subst hu
      by_cases hbb : tbool P t = true
      · simp only [if_pos hbb] at hy
        have hu : P.underlying t = some .bool := by
          unfold tbool at hbb
          split at hbb
          · assumption
          · cases hbb
        exact evEqB_sound h hy (by rw [eqGuard_at_bool]; rfl) (by rw [eqGuard_at_bool]; rfl) (run_eql_bool w t a b hu) (run_neq_bool w t a b hu)
      · simp only [if_neg hbb] at hy; cases hy
  cases hx with
  | int =>
    rename_i k a
    cases hz with
    | int =>
      rename_i k' b
      have hy0 : (if isSh op = true then shI op k a b else if k = k' then binI op k a b else none) = some y := hy
      clear hy
      by_cases hsh : isSh op = true
      · rw [if_pos hsh] at hy0
        cases op <;> simp only [isSh, Bool.false_eq_true] at hsh
        · simp only [shI, Option.some.injEq] at hy0
          subst hy0
          obtain ⟨⟨a1, a2⟩, a3⟩ := hask.out
          refine ⟨_, w, ?_, Goes.pure h .int⟩
          simp only [eqGuard_at_int, Sem.run_bind, Sem.run_pure, Result.andThen_ok, binOp_shl, shift_shl k k' a b a1 a2, wrap_fit a3]
        · simp only [shI, Option.some.injEq] at hy0
          subst hy0
          obtain ⟨a1, a2⟩ := hask.out
          refine ⟨_, w, ?_, Goes.pure h .int⟩
          simp only [eqGuard_at_int, Sem.run_bind, Sem.run_pure, Result.andThen_ok, binOp_shr, shift_shr k k' a b a1 a2]
      · rw [if_neg hsh] at hy0
        by_cases hk : k = k'
        · rw [if_pos hk] at hy0
          subst hk
          have go : ∀ {sv : SV} {r : Value}, y.eff = .keep → y.val = sv → (binOp op t (.int k a) (.int k b)).run P w = .ok r w → R w (Xo X0 E H) E sv r →
              ∃ r w', (do eqGuard op t xo yo (.int k a) (.int k b); binOp op t (.int k a) (.int k b) : Sem Value).run P w = .ok r w' ∧ Goes w0 X0 H E w nm y.eff y.val r w' := by
            intro sv r he hv hr hR
            rw [he, hv]
            exact ⟨r, w, by simp only [eqGuard_at_int, Sem.run_bind, Sem.run_pure, Result.andThen_ok, hr], Goes.pure h hR⟩
          cases op <;> simp only [binI, pureY, Option.some.injEq, reduceCtorEq] at hy0 <;> (try (exact absurd rfl hsh)) <;> subst hy0
          · exact go rfl rfl (by rw [binOp_add]; simp only [Op.intArith, Sem.run_pure, wrap_fit hask.out]) .int
          · exact go rfl rfl (by rw [binOp_sub]; simp only [Op.intArith, Sem.run_pure, wrap_fit hask.out]) .int
          · exact go rfl rfl (by rw [binOp_mul]; simp only [Op.intArith, Sem.run_pure, wrap_fit hask.out]) .int
          · exact go rfl rfl (by rw [binOp_quo]; simp only [Op.intDiv, if_neg hask.out.1, Sem.run_pure, wrap_fit hask.out.2]) .int
          · exact go rfl rfl (by rw [binOp_rem]; have hne : b ≠ 0 := hask.out; simp only [Op.intDiv, if_neg hne, Sem.run_pure]) .int
          · exact go rfl rfl (by rw [binOp_and, intBits_and]; rfl) .int
          · exact go rfl rfl (by rw [binOp_or, intBits_or]; rfl) .int
          · exact go rfl rfl (by rw [binOp_xor, intBits_xor]; rfl) .int
          · exact go rfl rfl (by rw [binOp_andNot, intBits_andNot]; rfl) .int
          · exact go rfl rfl (by rw [binOp_eql]; rfl) (by rw [beq_eq_decide]; exact .bool)
          · exact go rfl rfl (by rw [binOp_neq]; rfl) (by rw [bne_eq_decide]; exact .bool)
          · exact go rfl rfl (by rw [binOp_lss]; rfl) .bool
          · exact go rfl rfl (by rw [binOp_leq]; rfl) .bool
          · exact go rfl rfl (by rw [binOp_gtr]; rfl) .bool
          · exact go rfl rfl (by rw [binOp_geq]; rfl) .bool
        · rw [if_neg hk] at hy0; cases hy0
    | _ => simp [ev2, asB] at hy
  | bool =>
    rename_i a
    exact bools (s := .bool a) rfl rfl rfl hy
  | lit =>
    rename_i a
    exact bools (s := .lit a) rfl rfl rfl hy
  | str =>
    rename_i a
    cases hz with
    | str =>
      rename_i b
      have hy0 : evEqB op (a.toList == b.toList) = some y := hy
      exact evEqB_sound h hy0 (by rw [eqGuard_at_string]; rfl) (by rw [eqGuard_at_string]; rfl) (by rw [binOp_string_eql]; rfl) (by rw [binOp_string_neq]; rfl)
    | _ => simp [ev2, asB] at hy
  | fn hs hr =>
    rename_i f n g vs
    cases hz with
    | nilfn =>
      have hy0 : (if tfunc P t = true then evEqB op false else none) = some y := hy
      by_cases hb : tfunc P t = true
      · rw [if_pos hb] at hy0
        have hu : ∃ a b c, P.underlying t = some (.func a b c) := by
          unfold tfunc at hb
          split at hb
          · exact ⟨_, _, _, by assumption⟩
          · cases hb
        obtain ⟨a, b, c, hu⟩ := hu
        exact evEqB_sound h hy0 (by rw [eqGuard_at_func]; rfl) (by rw [eqGuard_at_func]; rfl) (bin_func_nil w t hu _ _ _).1 (bin_func_nil w t hu _ _ _).2
      · rw [if_neg hb] at hy0; cases hy0
    | _ => simp [ev2, asB] at hy
  | nilfn =>
    cases hz with
    | nilfn =>
      have hy0 : (if tfunc P t = true then evEqB op true else none) = some y := hy
      by_cases hb : tfunc P t = true
      · rw [if_pos hb] at hy0
        have hu : ∃ a b c, P.underlying t = some (.func a b c) := by
          unfold tfunc at hb
          split at hb
          · exact ⟨_, _, _, by assumption⟩
          · cases hb
        obtain ⟨a, b, c, hu⟩ := hu
        exact evEqB_sound h hy0 (by rw [eqGuard_at_nilFunc]; rfl) (by rw [eqGuard_at_nilFunc]; rfl) (bin_nil_nil w t hu).1 (bin_nil_nil w t hu).2
      · rw [if_neg hb] at hy0; cases hy0
    | _ => simp [ev2, asB] at hy
  | agg hs ho hr =>
    rename_i n g vs
    cases hz with
    | agg hs' ho' hr' =>
      rename_i m f us
      have hy0 : (match findE eqs t with
        | some ks => if n = ks.length ∧ m = n then match eqCells g f ks 0 with | some b => evEqB op b | none => none else none
        | none => none) = some y := hy
      cases hfe : findE eqs t with
      | none => rw [hfe] at hy0; cases hy0
      | some ks =>
        rw [hfe] at hy0
        simp only at hy0
        by_cases hc : n = ks.length ∧ m = n
        · rw [if_pos hc] at hy0
          obtain ⟨rfl, rfl⟩ := hc
          cases hq : eqCells g f ks 0 with
          | none => rw [hq] at hy0; cases hy0
          | some b =>
            rw [hq] at hy0
            obtain ⟨g1, g2, g3⟩ := heqs t ks (findE_mem hfe) w _ E g f vs us b hs hs' hq hr hr' xo yo
            exact evEqB_sound h hy0 g1 g2 (by rw [run_eql_struct, g3]; rfl) (by rw [run_neq_struct, g3]; rfl)
        · rw [if_neg hc] at hy0; cases hy0
    | _ => simp [ev2, asB] at hy
  | _ => simp [ev2, asB] at hy
theorem evNilC_sound {P : Program} {w0 X0 H E w nm} (h : Rep w0 X0 H E w) {op : BinOp} {t : TypeId} {te : TypeId × Nat × Nat} (ht : tsl P t = some te) {xo yo : Operand} {x : SV} {v : Value} {n c : Nat} (hx : R w (Xo X0 E H) E x v) {y : Yd}
    (hy : evNilC op x = some y) : ∃ r w', (do eqGuard op t xo yo v (.slice none n c); binOp op t v (.slice none n c) : Sem Value).run P w = .ok r w' ∧ Goes w0 X0 H E w nm y.eff y.val r w' := by
  obtain ⟨ti, h1, _⟩ := tsl_spec ht
  have key : ∀ {a : Option Addr} {m k : Nat} {b : Bool}, a.isNone = b → (op = .eql ∧ y = ⟨True, .lit b, .keep⟩ ∨ op = .neq ∧ y = ⟨True, .lit (!b), .keep⟩) → v = .slice a m k →
      ∃ r w', (do eqGuard op t xo yo v (.slice none n c); binOp op t v (.slice none n c) : Sem Value).run P w = .ok r w' ∧ Goes w0 X0 H E w nm y.eff y.val r w' := by
    rintro a m k b hb (⟨rfl, rfl⟩ | ⟨rfl, rfl⟩) rfl
    · refine ⟨.bool b, w, ?_, Goes.pure h .lit⟩
      simp [eqGuard, binOp, Op.equal, Op.maxDepth, Lib.run_equalIn_slice_nil w 9999 t te.1 a m k n c h1, hb]
    · refine ⟨.bool (!b), w, ?_, Goes.pure h .lit⟩
      simp [eqGuard, binOp, Op.equal, Op.maxDepth, Lib.run_equalIn_slice_nil w 9999 t te.1 a m k n c h1, hb]
  cases hx with
  | nilsl => cases op <;> simp only [evNilC, pureY, reduceCtorEq, Option.some.injEq] at hy <;> subst hy <;> first | exact key (b := true) rfl (.inl ⟨rfl, rfl⟩) rfl | exact key (b := true) rfl (.inr ⟨rfl, rfl⟩) rfl
  | slN hr => cases op <;> simp only [evNilC, pureY, reduceCtorEq, Option.some.injEq] at hy <;> subst hy <;> first | exact key (b := false) rfl (.inl ⟨rfl, rfl⟩) rfl | exact key (b := false) rfl (.inr ⟨rfl, rfl⟩) rfl
  | _ => cases op <;> simp [evNilC] at hy
theorem ev1_sound {P : Program} {w0 X0 H E w nm} (h : Rep w0 X0 H E w) {op : UnOp} {x : SV} {v : Value} (hx : R w (Xo X0 E H) E x v) {y : Yd} (hy : ev1 op x = some y) (hask : y.ask) :
    ∃ r w', (Op.unary op v).run P w = .ok r w' ∧ Goes w0 X0 H E w nm y.eff y.val r w' := by
  cases hx with
  | int =>
    rename_i k n
    cases op <;> simp only [ev1, reduceCtorEq, Option.some.injEq] at hy
    subst hy
    exact ⟨_, w, by simp only [Op.unary, Op.intArith, Sem.run_pure, wrap_fit hask.out], Goes.pure h .int⟩
  | bool =>
    cases op <;> simp only [ev1, pureY, reduceCtorEq, Option.some.injEq] at hy
    subst hy
    exact ⟨_, w, by simp only [Op.unary, Sem.run_pure], Goes.pure h .bool⟩
  | lit =>
    cases op <;> simp only [ev1, pureY, reduceCtorEq, Option.some.injEq] at hy
    subst hy
    exact ⟨_, w, by simp only [Op.unary, Sem.run_pure], Goes.pure h .lit⟩
  | _ => cases op <;> simp [ev1] at hy
theorem evConvert_sound {P : Program} {w0 X0 H E w nm} (h : Rep w0 X0 H E w) {src dst : TypeId} {k : IntKind} (hs : tint P src ≠ none) (hd : tint P dst = some k) {x : SV} {v : Value} (hx : R w (Xo X0 E H) E x v) {y : Yd}
    (hy : evConvert k x = some y) (hask : y.ask) : ∃ r w', (convert src dst v).run P w = .ok r w' ∧ Goes w0 X0 H E w nm y.eff y.val r w' := by
  have hds : P.underlying dst = some (.int k) := by
    unfold tint at hd
    split at hd
    · rename_i k' he; cases hd; exact he
    · cases hd
  have hss : (P.underlying src).isSome = true := by
    unfold tint at hs
    split at hs
    · rename_i k' he; rw [he]; rfl
    · exact absurd rfl hs
  have hik : P.intKind dst = k := by unfold Program.intKind; rw [hds]
  cases hx with
  | int =>
    rename_i k' n
    simp only [evConvert, Option.some.injEq] at hy
    subst hy
    have := run_convert_int (P := P) w src dst k' n hss (by rw [hik]; exact hds)
    rw [hik] at this
    exact ⟨_, w, by rw [this, wrap_fit hask.out], Goes.pure h .int⟩
  | _ => simp [evConvert] at hy
end Go.Proofs.YtbmgclpgompjmaaDoor.Sx
