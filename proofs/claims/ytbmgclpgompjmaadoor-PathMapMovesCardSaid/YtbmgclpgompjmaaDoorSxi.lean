/- The evaluation tells the truth: slices of slices, append, builtins, calls. -/
import Derived.Test.YtbmgclpgompjmaaDoorSxh
namespace Go.Proofs.YtbmgclpgompjmaaDoor.Sx
open Go.RowKit
/-- An index as the operand gives it. -/
def optV : Option (IntKind × Int) → Option Value
  | some (k, n) => some (.int k n)
  | none => none
def optI : Option (IntKind × Int) → Option Int
  | some (_, n) => some n
  | none => none
theorem run_sliceX {P : Program} {w : World} {t e : TypeId} {es len cap : Nat} {a : Option Addr} (ht : P.underlying t = some (.slice e)) (hs : (sizeOf e).run P w = .ok es w) (hlc : len ≤ cap)
    (lo hi mx : Option (IntKind × Int)) (hm : mx.isSome = true → hi.isSome = true) (hask : slAsk len (optI lo) (optI hi) (optI mx)) :
    ∃ m, (Instr.sliceAt t (.slice a len cap) (optV lo) (optV hi) (optV mx)).run P w = .ok (sliced a ((optI lo).getD 0).toNat ((optI hi).getD len).toNat m es) w ∧ ((optI hi).getD len).toNat ≤ m ∧ m ≤ cap := by
  obtain ⟨a1, a2, a3, a4⟩ := hask
  have hel : P.elem t = e := by unfold Program.elem; rw [ht]
  have ht' : P.underlying t = some (.slice (P.elem t)) := by rw [hel]; exact ht
  rw [← hel] at hs
  cases mx with
  | none =>
    refine ⟨cap, ?_, ?_, Nat.le_refl _⟩
    · rw [run_sliceAt_slice w t _ _ _ _ ht']
      cases lo with
      | none =>
        cases hi with
        | none =>
          simp only [optV, optI, Option.getD_none] at *
          rw [run_slice_all w t a len cap ht', hs]
          simp
        | some h =>
          obtain ⟨kh, h⟩ := h
          simp only [optV, optI, Option.getD_none, Option.getD_some] at *
          rw [run_slice_h w t a len cap ht' kh h (by omega) (by omega), hs]
          simp
      | some l =>
        obtain ⟨kl, l⟩ := l
        cases hi with
        | none =>
          simp only [optV, optI, Option.getD_none, Option.getD_some] at *
          rw [run_slice_l w t a len cap ht' kl l (by omega) (by omega), hs]
          simp
        | some h =>
          obtain ⟨kh, h⟩ := h
          simp only [optV, optI, Option.getD_none, Option.getD_some] at *
          rw [run_slice_lh w t a len cap ht' kl kh l h (by omega) (by omega) (by omega), hs]
          simp
    · have e : (optI (none : Option (IntKind × Int))).getD (len : Int) = len := rfl
      rw [e] at a3
      omega
  | some m =>
    obtain ⟨km, m⟩ := m
    cases hi with
    | none => cases hm rfl
    | some h =>
      obtain ⟨kh, h⟩ := h
      refine ⟨m.toNat, ?_, ?_, ?_⟩
      · rw [run_sliceAt_slice w t _ _ _ _ ht']
        cases lo with
        | none =>
          simp only [optV, optI, Option.getD_none, Option.getD_some] at *
          rw [run_slice_hm w t a len cap ht' kh km h m (by omega) (by omega) (by omega), hs]
          simp
        | some l =>
          obtain ⟨kl, l⟩ := l
          simp only [optV, optI, Option.getD_some] at *
          rw [run_slice_lhm w t a len cap ht' kl kh km l h m (by omega) (by omega) (by omega) (by omega), hs]
          simp
      · simp only [optI, Option.getD_some] at *
        omega
      · simp only [optI, Option.getD_some] at *
        omega
theorem run_sliceN {P : Program} {w : World} {t e : TypeId} {es len cap : Nat} {a : Option Addr} (ht : P.underlying t = some (.slice e)) (hs : (sizeOf e).run P w = .ok es w) (hlc : len ≤ cap)
    (lo hi : Option (IntKind × Int)) (hask : slAsk len (optI lo) (optI hi) none) :
    (Instr.sliceAt t (.slice a len cap) (optV lo) (optV hi) (optV none)).run P w = .ok (sliced a ((optI lo).getD 0).toNat ((optI hi).getD len).toNat cap es) w := by
  obtain ⟨a1, a2, a3, a4⟩ := hask
  have hel : P.elem t = e := by unfold Program.elem; rw [ht]
  have ht' : P.underlying t = some (.slice (P.elem t)) := by rw [hel]; exact ht
  rw [← hel] at hs
  rw [run_sliceAt_slice w t _ _ _ _ ht']
  cases lo with
  | none =>
    cases hi with
    | none =>
      simp only [optV, optI, Option.getD_none] at *
      rw [run_slice_all w t a len cap ht', hs]
      simp
    | some h =>
      obtain ⟨kh, h⟩ := h
      simp only [optV, optI, Option.getD_none, Option.getD_some] at *
      rw [run_slice_h w t a len cap ht' kh h (by omega) (by omega), hs]
      simp
  | some l =>
    obtain ⟨kl, l⟩ := l
    cases hi with
    | none =>
      simp only [optV, optI, Option.getD_none, Option.getD_some] at *
      rw [run_slice_l w t a len cap ht' kl l (by omega) (by omega), hs]
      simp
    | some h =>
      obtain ⟨kh, h⟩ := h
      simp only [optV, optI, Option.getD_none, Option.getD_some] at *
      rw [run_slice_lh w t a len cap ht' kl kh l h (by omega) (by omega) (by omega), hs]
      simp
theorem R_sliced {w X E E' len n g a cap l h m} (hr : R w X E (.sl len n g) (.slice a len cap)) (h1 : l ≤ h) (h2 : h ≤ len) (h3 : h ≤ m) (_ : m ≤ cap) : R w X E' (.sl (h - l) n (fun i j => g (l + i) j)) (sliced a l h m n) := by
  by_cases hl : l = h
  · subst hl
    simp only [Nat.sub_self, sliced]
    exact .sl0
  · have hne : m ≠ l := by omega
    unfold sliced
    rw [if_neg hne]
    cases hr with
    | sl0 => omega
    | sl hb hX hc hlc ho hr =>
      rename_i b o c T fr
      simp only [Option.map_some, addr_add]
      have e1 : ∀ i j, o + l * n + i * n + j = o + (l + i) * n + j := fun i j => by rw [Nat.add_mul]; omega
      have hle : h * n ≤ len * n := Nat.mul_le_mul_right _ h2
      have he : (h - l) * n = h * n - l * n := Nat.sub_mul _ _ _
      have hle2 : l * n ≤ h * n := Nat.mul_le_mul_right _ h1
      refine .sl hb hX (by omega) (by omega) (fun i j hi hj => ?_) fun i j hi hj => ?_
      · rw [e1]; exact ho _ _ (by omega) hj
      · rw [e1]; exact hr _ _ (by omega) hj
theorem R_sl_shape {w X E len n g v} (h : R w X E (.sl len n g) v) : ∃ a cap, v = .slice a len cap := by
  cases h with
  | sl0 => exact ⟨_, _, rfl⟩
  | sl => exact ⟨_, _, rfl⟩
/-- len ≤ cap, where it matters. -/
theorem R_sl_cap {w X E len n g a cap} (h : R w X E (.sl len n g) (.slice a len cap)) : len ≤ cap := by
  cases h with
  | sl0 => exact Nat.zero_le _
  | sl _ _ _ hl => exact hl
theorem evSlice_sound {P : Program} {w0 X0 H E w nm} (h : Rep w0 X0 H E w) {t : TypeId} {te : TypeId × Nat × Nat} (ht : tsl P t = some te) {x : SV} {v : Value} (hx : R w (Xo X0 E H) E x v)
    {lo hi mx : Option (IntKind × Int)} {y : Yd} (hy : evSlice te.2.1 H (optI lo) (optI hi) (optI mx) x = some y) (hask : y.ask) :
    ∃ u w', (Instr.sliceAt t v (optV lo) (optV hi) (optV mx)).run P w = .ok u w' ∧ Goes w0 X0 H E w nm y.eff y.val u w' := by
  obtain ⟨ti, h1, h2, h3, h4⟩ := tsl_spec ht
  have hsz : (sizeOf te.1).run P w = .ok te.2.1 w := by simp [sizeOf, typeInfo, h2, h3]
  have go : ∀ {E' : Env} {len n : Nat} {g : Nat → Nat → SV}, R w (Xo X0 E H) E' (.sl len n g) v → n = te.2.1 → ((optI mx).isSome = true → (optI hi).isSome = true) →
      y = ⟨Ask (slAsk len (optI lo) (optI hi) (optI mx)), .sl ((optI hi).getD len - (optI lo).getD 0).toNat n (fun i j => g (((optI lo).getD 0).toNat + i) j), .keep⟩ →
      ∃ u w', (Instr.sliceAt t v (optV lo) (optV hi) (optV mx)).run P w = .ok u w' ∧ Goes w0 X0 H E w nm y.eff y.val u w' := by
    intro E' len n g hr hn hm hyy
    subst hyy
    obtain ⟨a, cap, rfl⟩ := R_sl_shape hr
    have hask' : slAsk len (optI lo) (optI hi) (optI mx) := hask.out
    obtain ⟨m, hrun, hm1, hm2⟩ := run_sliceX (P := P) (w := w) (a := a) h1 hsz (R_sl_cap hr) lo hi mx (by cases mx <;> cases hi <;> simp_all [optI]) hask'
    obtain ⟨a1, a2, a3, a4⟩ := hask'
    refine ⟨_, w, hrun, Goes.pure h ?_⟩
    subst hn
    have := R_sliced (E' := E) hr (l := ((optI lo).getD 0).toNat) (h := ((optI hi).getD len).toNat) (m := m) (by omega) (by omega) hm1 hm2
    rwa [show ((optI hi).getD len - (optI lo).getD 0).toNat = ((optI hi).getD len).toNat - ((optI lo).getD 0).toNat by omega]
  -- a part of a slice of the call's own
  have own : ∀ {k ver lo0 len len0 cap : Nat} {a a0 : Option Addr}, E k = some (.slc ver (.slice a0 len0 cap)) → len0 ≤ cap → lo0 + len ≤ len0 → (len ≠ 0 → a = a0.map (·.add (lo0 * te.2.1))) → (lo0 = 0 → a = a0) → (cap ≠ 0 → ∃ b, a0 = some ⟨b, 0, none⟩) → (optI mx).isSome = false →
      y = ⟨Ask (slAsk len (optI lo) (optI hi) none), .win k ver te.2.1 (lo0 + ((optI lo).getD 0).toNat) ((optI hi).getD len - (optI lo).getD 0).toNat, .keep⟩ → v = .slice a len (cap - lo0) →
      ∃ u w', (Instr.sliceAt t v (optV lo) (optV hi) (optV mx)).run P w = .ok u w' ∧ Goes w0 X0 H E w nm y.eff y.val u w' := by
    intro k ver lo0 len len0 cap a a0 he hlc hl0 ha h0 hadd hm hyy hv
    subst hyy
    subst hv
    have hmx : mx = none := by cases mx <;> simp_all [optI]
    subst hmx
    have hask' : slAsk len (optI lo) (optI hi) none := hask.out
    obtain ⟨a1, a2, a3, a4⟩ := id hask'
    have hrun : (Instr.sliceAt t (.slice a len (cap - lo0)) (optV lo) (optV hi) (optV none)).run P w = .ok (sliced a ((optI lo).getD 0).toNat ((optI hi).getD len).toNat (cap - lo0) te.2.1) w := run_sliceN (P := P) (w := w) (a := a) h1 hsz (by omega) lo hi hask'
    refine ⟨_, w, hrun, Goes.pure h ?_⟩
    have e3 : (none : Option Int).getD (len : Int) = len := rfl
    rw [e3] at a3 a4
    generalize hl : ((optI lo).getD 0).toNat = l at *
    generalize hh : ((optI hi).getD (len : Int)).toNat = q at *
    have e4 : ((optI hi).getD (len : Int) - (optI lo).getD 0).toNat = q - l := by omega
    rw [e4]
    unfold sliced
    rw [show cap - lo0 - l = cap - (lo0 + l) by omega]
    refine .win he (by omega) (fun hne => ?_) fun hz => ?_
    · rw [if_neg (by omega), ha (by omega)]
      obtain ⟨b, rfl⟩ := hadd (by omega)
      simp only [Option.map_some, addr_add]
      rw [Nat.add_assoc, ← Nat.add_mul]
    · obtain rfl : lo0 = 0 := by omega
      obtain rfl : l = 0 := by omega
      rw [h0 rfl]
      split
      · rfl
      · obtain ⟨b, rfl⟩ := hadd (by omega)
        simp only [Option.map_some, addr_add, Nat.zero_mul, Nat.add_zero]
  cases hx with
  | sl0 =>
    simp only [evSlice] at hy
    obtain ⟨⟨hn, hm⟩, hyy⟩ := ite_some hy
    exact go (E' := E) .sl0 hn hm hyy.symm
  | sl hb hX hc hl ho hr =>
    simp only [evSlice] at hy
    obtain ⟨⟨hn, hm⟩, hyy⟩ := ite_some hy
    exact go (E' := E) (.sl hb hX hc hl ho hr) hn hm hyy.symm
  | osl he hv =>
    rename_i k ver
    have hok := h.ok k _ he
    simp only [evSlice] at hy
    generalize H.getD k .dead = so at hy hok
    cases so <;> simp only [reduceCtorEq] at hy
    · rename_i ver' len n g T
      obtain ⟨⟨rfl, hn, hm⟩, hyy⟩ := ite_some hy
      obtain ⟨_, xs, h5, _⟩ := hok
      have hsh : ∃ a cap, v = .slice a len cap ∧ len ≤ cap ∧ (cap ≠ 0 → ∃ b, a = some ⟨b, 0, none⟩) := by
        rcases h5 with ⟨a, rfl, rfl, rfl⟩ | ⟨b', cap', cur, rfl, c1, c2, c3, c4, c5, c6⟩
        · exact ⟨_, _, rfl, Nat.le_refl _, fun hc => absurd rfl hc⟩
        · exact ⟨_, _, rfl, c2, fun _ => ⟨_, rfl⟩⟩
      obtain ⟨a, cap, rfl, hlc, hadd⟩ := hsh
      subst hn
      refine own (lo0 := 0) (a := a) (cap := cap) he hlc (by omega) (fun _ => ?_) (fun _ => rfl) hadd hm (by rw [← hyy, Nat.zero_add]) rfl
      rw [Nat.zero_mul]
      cases cap with
      | zero => omega
      | succ cap => obtain ⟨b, rfl⟩ := hadd (by omega); rw [Option.map_some, addr_add]
    · obtain ⟨⟨_, hn, hm⟩, hyy⟩ := ite_some hy
      exact go hok.2 hn hm hyy.symm
  | oslOld he hl hv =>
    rename_i k ver ver' v'
    have hok := h.ok k _ he
    simp only [evSlice] at hy
    generalize H.getD k .dead = so at hy hok
    cases so <;> simp only [reduceCtorEq] at hy
    · obtain ⟨⟨rfl, hn, hm⟩, hyy⟩ := ite_some hy
      have := hok.1
      omega
    · obtain ⟨⟨rfl, hn, hm⟩, hyy⟩ := ite_some hy
      have := hok.1
      omega
  | win he hl ha h0 =>
    rename_i k ver m lo0 l a a0 len0 cap0
    have hok := h.ok k _ he
    simp only [evSlice] at hy
    generalize H.getD k .dead = so at hy hok
    cases so <;> simp only [reduceCtorEq] at hy
    rename_i ver' len n g T
    obtain ⟨⟨⟨rfl, rfl⟩, hn, hm⟩, hyy⟩ := ite_some hy
    obtain ⟨_, xs, h5, _⟩ := hok
    have hsh : len0 = len ∧ len0 ≤ cap0 ∧ (cap0 ≠ 0 → ∃ b, a0 = some ⟨b, 0, none⟩) := by
      rcases h5 with ⟨a, hv', rfl, rfl⟩ | ⟨b', cap', cur, hv', c1, c2, c3, c4, c5, c6⟩
      · cases hv'; exact ⟨rfl, Nat.le_refl _, fun hc => absurd rfl hc⟩
      · cases hv'; exact ⟨rfl, c2, fun _ => ⟨_, rfl⟩⟩
    obtain ⟨rfl, hlc, hadd⟩ := hsh
    subst hn
    exact own (lo0 := lo0) he hlc hl ha h0 hadd hm hyy.symm rfl
  | winOld he hl hv =>
    rename_i k ver ver' v' m lo0 l
    have hok := h.ok k _ he
    simp only [evSlice] at hy
    generalize H.getD k .dead = so at hy hok
    cases so <;> simp only [reduceCtorEq] at hy
    obtain ⟨⟨⟨rfl, rfl⟩, hn, hm⟩, hyy⟩ := ite_some hy
    have := hok.1
    omega
  | _ => simp [evSlice] at hy
/-- 'x[:0:0]'. -/
theorem evCut0_sound {P : Program} {w0 X0 H E w nm} (h : Rep w0 X0 H E w) {t : TypeId} {te : TypeId × Nat × Nat} (ht : tsl P t = some te) {x : SV} {v : Value} (hx : R w (Xo X0 E H) E x v) {kh km : IntKind}
    {y : Yd} (hy : evCut0 x = some y) :
    ∃ u w', (Instr.sliceAt t v none (some (.int kh 0)) (some (.int km 0))).run P w = .ok u w' ∧ Goes w0 X0 H E w nm y.eff y.val u w' := by
  obtain ⟨ti, h1, h2, h3, h4⟩ := tsl_spec ht
  have hel : P.elem t = te.1 := by unfold Program.elem; rw [h1]
  have ht' : P.underlying t = some (.slice (P.elem t)) := by rw [hel]; exact h1
  have hsz : (sizeOf (P.elem t)).run P w = .ok te.2.1 w := by rw [hel]; simp [sizeOf, typeInfo, h2, h3]
  have go : ∀ {a : Option Addr} {n c : Nat}, v = .slice a n c → y = ⟨True, .cap0, .keep⟩ → ∃ u w', (Instr.sliceAt t v none (some (.int kh 0)) (some (.int km 0))).run P w = .ok u w' ∧ Goes w0 X0 H E w nm y.eff y.val u w' := by
    rintro a n c rfl rfl
    refine ⟨.slice a 0 0, w, ?_, Goes.pure h .cap0⟩
    rw [run_sliceAt_slice w t _ _ _ _ ht', run_slice_hm w t a n c ht' kh km 0 0 (by omega) (by omega) (by omega), hsz]
    simp [sliced]
  cases hx with
  | sl0 => simp only [evCut0, pureY, Option.some.injEq] at hy; exact go rfl hy.symm
  | sl => simp only [evCut0, pureY, Option.some.injEq] at hy; exact go rfl hy.symm
  | cap0 => simp only [evCut0, pureY, Option.some.injEq] at hy; exact go rfl hy.symm
  | _ => simp [evCut0] at hy
/-- What lies behind a source. -/
theorem srcOf_sound {w0 X0 H E w} (h : Rep w0 X0 H E w) {x : SV} {v : Value} (hx : R w (Xo X0 E H) E x v) {len n : Nat} {g : Nat → Nat → SV} (hs : srcOf H x = some (len, n, g)) :
    ∃ a cap, v = .slice a len cap ∧ (len = 0 ∨ ∃ b o c T fr, a = some ⟨b, o, none⟩ ∧ w.heap[b]? = some (.cells c T fr) ∧ o + len * n ≤ c.size ∧
      ∀ i j, i < len → j < n → oneCell (c.getD (o + i * n + j) undef) ∧ R w (Xo X0 E H) E0 (g i j) (c.getD (o + i * n + j) undef)) := by
  have onSl : ∀ {E' : Env}, R w (Xo X0 E H) E' (.sl len n g) v → ∃ a cap, v = .slice a len cap ∧ (len = 0 ∨ ∃ b o c T fr, a = some ⟨b, o, none⟩ ∧ w.heap[b]? = some (.cells c T fr) ∧ o + len * n ≤ c.size ∧
      ∀ i j, i < len → j < n → oneCell (c.getD (o + i * n + j) undef) ∧ R w (Xo X0 E H) E0 (g i j) (c.getD (o + i * n + j) undef)) := by
    intro E' hr
    cases hr with
    | sl0 => exact ⟨_, _, rfl, .inl rfl⟩
    | sl hb hX hc hl ho hr => exact ⟨_, _, rfl, .inr ⟨_, _, _, _, _, rfl, hb, hc, fun i j hi hj => ⟨ho i j hi hj, hr i j hi hj⟩⟩⟩
  cases hx with
  | sl0 =>
    simp only [srcOf, Option.some.injEq, Prod.mk.injEq] at hs
    obtain ⟨rfl, rfl, rfl⟩ := hs
    exact ⟨_, _, rfl, .inl rfl⟩
  | sl hb hX hc hl ho hr =>
    simp only [srcOf, Option.some.injEq, Prod.mk.injEq] at hs
    obtain ⟨rfl, rfl, rfl⟩ := hs
    exact ⟨_, _, rfl, .inr ⟨_, _, _, _, _, rfl, hb, hc, fun i j hi hj => ⟨ho i j hi hj, hr i j hi hj⟩⟩⟩
  | osl he hv =>
    rename_i k ver
    have hok := h.ok k _ he
    simp only [srcOf] at hs
    generalize hk : H.getD k .dead = so at hs hok
    cases so <;> simp only [reduceCtorEq] at hs
    · rename_i ver' len' n' g' T
      obtain ⟨rfl, hs⟩ := ite_some hs
      simp only at hs
      obtain ⟨rfl, rfl, rfl⟩ := hs
      obtain ⟨_, xs, h2, h3⟩ := hok
      rcases h2 with ⟨a, rfl, rfl, rfl⟩ | ⟨b, cap, cur, rfl, c1, c2, c3, c4, c5, c6⟩
      · exact ⟨_, _, rfl, .inl rfl⟩
      · have hle : len * n ≤ (cap + 1) * n := Nat.mul_le_mul_right _ c2
        refine ⟨_, _, rfl, .inr ⟨b, 0, cur, T, _, rfl, c1, by omega, fun i j hi hj => ?_⟩⟩
        have := h3 i j hi hj
        subst c5
        rw [list_getD_cur (mul_lt_of hi hj)] at this
        rwa [Nat.zero_add]
    · rename_i ver' len' n' g'
      obtain ⟨rfl, hs⟩ := ite_some hs
      simp only at hs
      obtain ⟨rfl, rfl, rfl⟩ := hs
      exact onSl hok.2
  | oslOld he hl hv =>
    rename_i k ver ver' v'
    have hok := h.ok k _ he
    simp only [srcOf] at hs
    generalize H.getD k .dead = so at hs hok
    cases so <;> simp only [reduceCtorEq] at hs
    · obtain ⟨rfl, hs⟩ := ite_some hs
      have := hok.1
      omega
    · obtain ⟨rfl, hs⟩ := ite_some hs
      have := hok.1
      omega
  | slN hr =>
    simp only [srcOf, Option.some.injEq, Prod.mk.injEq] at hs
    obtain ⟨rfl, rfl, rfl⟩ := hs
    exact onSl hr
  | win he hl ha h0 =>
    rename_i k ver m lo l a a0 len0 cap0
    have hok := h.ok k _ he
    simp only [srcOf] at hs
    generalize hk : H.getD k .dead = so at hs hok
    cases so <;> simp only [reduceCtorEq] at hs
    rename_i ver' len' n' g' T
    obtain ⟨⟨rfl, rfl⟩, hs⟩ := ite_some hs
    simp only at hs
    obtain ⟨rfl, rfl, rfl⟩ := hs
    by_cases hz : len = 0
    · exact ⟨_, _, rfl, .inl hz⟩
    obtain ⟨_, xs, h2, h3⟩ := hok
    rcases h2 with ⟨a', hv', rfl, rfl⟩ | ⟨b, cap, cur, hv', c1, c2, c3, c4, c5, c6⟩
    · cases hv'; omega
    · cases hv'
      have hadd : a = some ⟨b, 0 + lo * n, none⟩ := by rw [ha hz, Option.map_some]; exact congrArg some (addr_add b 0 _)
      have hle := Nat.mul_le_mul_right n c2
      have hle2 := Nat.mul_le_mul_right n hl
      rw [Nat.add_mul] at hle2
      refine ⟨_, _, rfl, .inr ⟨b, 0 + lo * n, cur, T, _, hadd, c1, by omega, fun i j hi hj => ?_⟩⟩
      have := h3 (lo + i) j (by omega) hj
      subst c5
      rw [list_getD_cur (mul_lt_of (by omega) hj)] at this
      rwa [Nat.zero_add, ← Nat.add_mul]
  | winOld he hl hv =>
    rename_i k ver ver' v' m lo l
    have hok := h.ok k _ he
    simp only [srcOf] at hs
    generalize H.getD k .dead = so at hs hok
    cases so <;> simp only [reduceCtorEq] at hs
    obtain ⟨⟨rfl, rfl⟩, hs⟩ := ite_some hs
    have := hok.1
    omega
  | _ => simp [srcOf] at hs
theorem len_sound {P : Program} {w0 X0 H E w nm} (h : Rep w0 X0 H E w) {t ty : TypeId} (ht : P.underlying t = some (.slice (P.elem t))) {x : SV} {v : Value} (hx : R w (Xo X0 E H) E x v) {n : Nat} (hl : lenOf H x = some n) (hs : ∀ s, x ≠ .str s) :
    ∃ u w', (Builtin.len_ #[t] ty #[v]).run P w = .ok u w' ∧ Goes w0 X0 H E w nm .keep (.int .i64 n) u w' := by
  have go : ∀ {a : Option Addr} {c : Nat}, v = .slice a n c → ∃ u w', (Builtin.len_ #[t] ty #[v]).run P w = .ok u w' ∧ Goes w0 X0 H E w nm .keep (.int .i64 n) u w' := by
    rintro a c rfl
    exact ⟨_, w, run_len_slice w t ty a n c ht, Goes.pure h .int⟩
  have viaSrc : ∀ {len m : Nat} {g : Nat → Nat → SV}, srcOf H x = some (len, m, g) → len = n → ∃ u w', (Builtin.len_ #[t] ty #[v]).run P w = .ok u w' ∧ Goes w0 X0 H E w nm .keep (.int .i64 n) u w' := by
    intro len m g hq hn
    obtain ⟨a, cap, hv, _⟩ := srcOf_sound h hx hq
    exact go (by rw [hv, hn])
  have hsrc : lenOf H x = (srcOf H x).map (·.1) → ∃ u w', (Builtin.len_ #[t] ty #[v]).run P w = .ok u w' ∧ Goes w0 X0 H E w nm .keep (.int .i64 n) u w' := by
    intro hq
    rw [hq] at hl
    cases hc : srcOf H x with
    | none => simp [hc] at hl
    | some q =>
      obtain ⟨len, m, g⟩ := q
      simp only [hc, Option.map_some, Option.some.injEq] at hl
      exact viaSrc hc hl
  cases x with
  | cap0 =>
    cases hx with
    | cap0 =>
      simp only [lenOf, Option.some.injEq] at hl
      subst hl
      exact go rfl
  | str s => exact absurd rfl (hs s)
  | nilsl =>
    cases hx with
    | nilsl =>
      simp only [lenOf, Option.some.injEq] at hl
      subst hl
      exact go rfl
  | win k ver m lo len =>
    simp only [lenOf, Option.some.injEq] at hl
    subst hl
    cases hx with
    | win => exact go rfl
    | winOld _ _ hv => obtain ⟨a, c, hv⟩ := hv; exact go hv
  | _ => exact hsrc rfl
theorem run_append_cap0 {P : Program} (w : World) (t ty e : TypeId) (i : TypeInfo) (ht : P.underlying t = some (.slice e)) (hi : P.info? e = some i) (a a' : Option Addr) (c : Nat) :
    (Builtin.append_ #[t, t] ty #[.slice a 0 0, .slice a' 0 c]).run P w = .ok (.slice a 0 0) w := by
  have hf : (Builtin.firstCells i.size 0 (.slice a' 0 c)).run P w = .ok #[] w := by
    cases a' with
    | none => exact run_firstCells_none w _ _ _ _
    | some b => simp [Builtin.firstCells, loadCells, loadCellsFrom]
  cases a with
  | none => simp [Builtin.append_, run_underlying ht, sizeOf, typeInfo, hi, Builtin.lenOf, hf]
  | some b => simp [Builtin.append_, run_underlying ht, sizeOf, typeInfo, hi, Builtin.lenOf, hf, storeCells]
end Go.Proofs.YtbmgclpgompjmaaDoor.Sx
