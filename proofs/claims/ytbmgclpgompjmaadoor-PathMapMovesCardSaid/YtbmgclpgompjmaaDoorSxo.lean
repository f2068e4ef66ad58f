/- A region whose order is drawn: the evaluation in the text's order tells of every order. -/
import Derived.Test.YtbmgclpgompjmaaDoorSxn
namespace Go.Proofs.YtbmgclpgompjmaaDoor.Sx
open Go.RowKit
/-- It works on values alone. -/
def pureOp (o : Oper) : Bool :=
  match o.op with
  | .move _ | .assign _ | .pick .. | .nilCheck _ | .binOp .. | .unOp .. | .convert .. | .makeFunc .. | .fieldAddr .. | .field .. | .index .. | .extract .. | .build .. => true
  | _ => false
/-- Some of the specifications (of this function) write. -/
def effS (specs : List FSpec) : Option FuncId → Bool
  | some f => specs.any fun s => s.f == f && s.eff
  | none => specs.any (·.eff)
def calleeF : Operand → Option FuncId
  | .func f => some f
  | _ => none
/-- It writes (ef: calls of this function may). -/
def isEff (ef : Option FuncId → Bool) (o : Oper) : Bool :=
  match o.op with
  | .store .. => true
  | .call c => match c.callee with
    | .builtin .append => true
    | .builtin .copy => true
    | .builtin _ => false
    | .value x => ef (calleeF x)
    | _ => true
  | _ => false
theorem pureY_eff {s y} (h : pureY s = some y) : y.eff = .keep := by cases h; rfl
theorem map_eff {o : Option SV} {f : SV → Yd} {y : Yd} (hf : ∀ s, (f s).eff = .keep) (h : o.map f = some y) : y.eff = .keep := by
  cases o with
  | none => cases h
  | some s => cases h; exact hf s
theorem ite_eff {c : Prop} [Decidable c] {a : Yd} {y : Yd} (ha : a.eff = .keep) (h : (if c then some a else none) = some y) : y.eff = .keep := by
  obtain ⟨_, rfl⟩ := ite_some h; exact ha
theorem evNil_eff {s y} (h : evNil s = some y) : y.eff = .keep := by cases s <;> simp only [evNil, reduceCtorEq] at h <;> exact pureY_eff h
theorem binI_eff {op k a b y} (h : binI op k a b = some y) : y.eff = .keep := by cases op <;> simp only [binI, reduceCtorEq] at h <;> first | exact pureY_eff h | (cases h; rfl)
theorem shI_eff {op k a b y} (h : shI op k a b = some y) : y.eff = .keep := by cases op <;> simp only [shI, reduceCtorEq] at h <;> (cases h; rfl)
theorem evEqB_eff {op b y} (h : evEqB op b = some y) : y.eff = .keep := by cases op <;> simp only [evEqB, reduceCtorEq] at h <;> exact pureY_eff h
theorem ev2_eff {op eqs kb kf t x z y} (h : ev2 op eqs kb kf t x z = some y) : y.eff = .keep := by
  unfold ev2 at h
  repeat' (split at h)
  all_goals first | exact shI_eff h | exact binI_eff h | exact evEqB_eff h | (cases h; done)
theorem evNilC_eff {op x y} (h : evNilC op x = some y) : y.eff = .keep := by
  unfold evNilC at h
  repeat' (split at h)
  all_goals first | exact pureY_eff h | (cases h; done)
theorem ev1_eff {op x y} (h : ev1 op x = some y) : y.eff = .keep := by
  unfold ev1 at h
  repeat' (split at h)
  all_goals first | exact pureY_eff h | (cases h; rfl) | (cases h; done)
theorem evConvert_eff {k x y} (h : evConvert k x = some y) : y.eff = .keep := by cases x <;> simp only [evConvert, reduceCtorEq] at h; cases h; rfl
theorem evFieldAddr_eff {fd x y} (h : evFieldAddr fd x = some y) : y.eff = .keep := by
  cases x <;> simp only [evFieldAddr, reduceCtorEq] at h
  all_goals (split at h <;> first | exact pureY_eff h | (cases h; done))
theorem evField_eff {fd x y} (h : evField fd x = some y) : y.eff = .keep := by
  cases x <;> simp only [evField, reduceCtorEq] at h
  exact map_eff (fun _ => rfl) h
theorem evIndex_eff {ai i x y} (h : evIndex ai i x = some y) : y.eff = .keep := by
  unfold evIndex at h
  repeat' (split at h)
  all_goals first | (cases h; rfl) | (cases h; done)
theorem evExtract_eff {i x y} (h : evExtract i x = some y) : y.eff = .keep := by
  cases x <;> simp only [evExtract, reduceCtorEq] at h
  exact ite_eff rfl h
theorem evBuildS_eff {z fl ps y} (h : evBuildS z fl ps = some y) : y.eff = .keep := by
  unfold evBuildS at h
  split at h
  · exact pureY_eff h
  · cases h
theorem evBuildA_eff {z es ps y} (h : evBuildA z es ps = some y) : y.eff = .keep := by
  unfold evBuildA at h
  split at h
  · exact pureY_eff h
  · cases h
theorem pureOp_spec {P specs eqs N τ H nm o y} (hp : pureOp o = true) (h : evOp P specs eqs N τ H nm o = some y) : y.eff = .keep ∧ ∀ H' nm', evOp P specs eqs N τ H' nm' o = some y := by
  refine ⟨?_, fun H' nm' => ?_⟩
  · unfold evOp at h
    unfold pureOp at hp
    split at h <;> (try (rename_i ho; simp only [ho, Bool.false_eq_true] at hp; done))
    all_goals first
      | exact pureY_eff h
      | (split at h <;> (try split at h) <;> first | exact pureY_eff h | (cases h; done))
      | exact evNil_eff h
      | exact ev2_eff h
      | (split at h
         · split at h
           · exact evNilC_eff h
           · cases h
         · exact ev2_eff h)
      | exact ev1_eff h
      | (split at h <;> first | exact pureY_eff h | exact evConvert_eff h | exact evFieldAddr_eff h | exact evField_eff h | exact ite_eff rfl h | (cases h; done))
      | (split at h
         · split at h
           · exact evIndex_eff h
           · cases h
         · cases h)
      | (cases h; done)
      | exact evExtract_eff h
      | exact ite_eff rfl h
      | (split at h
         · split at h
           · exact evBuildS_eff h
           · split at h
             · exact evBuildA_eff h
             · cases h
         · cases h)
  · unfold evOp at h ⊢
    unfold pureOp at hp
    split at h <;> first | exact h | (rename_i ho; simp only [ho, Bool.false_eq_true] at hp)
theorem evLoad_eff {ti H x y} (h : evLoad ti H x = some y) : y.eff = .keep := by
  unfold evLoad at h
  repeat' (split at h)
  all_goals first | exact map_eff (fun _ => rfl) h | (cases h; rfl) | (cases h; done)
theorem evIndexAddrS_eff {es H i x y} (h : evIndexAddrS es H i x = some y) : y.eff = .keep := by
  unfold evIndexAddrS at h
  repeat' (split at h)
  all_goals first | (cases h; rfl) | (cases h; done)
theorem evIndexAddrA_eff {len es i x y} (h : evIndexAddrA len es i x = some y) : y.eff = .keep := by
  unfold evIndexAddrA at h
  repeat' (split at h)
  all_goals first | (cases h; rfl) | (cases h; done)
theorem evSlice_eff {es H lo hi mx x y} (h : evSlice es H lo hi mx x = some y) : y.eff = .keep := by
  unfold evSlice at h
  repeat' (split at h)
  all_goals first | (cases h; rfl) | (cases h; done)
theorem evCut0_eff {x y} (h : evCut0 x = some y) : y.eff = .keep := by
  unfold evCut0 at h
  split at h <;> first | exact pureY_eff h | (cases h; done)
theorem foldI_eff {f k} : ∀ {l a y}, foldI f k a l = some y → y.eff = .keep
  | [], a, y, h => pureY_eff h
  | s :: r, a, y, h => by
    cases s <;> simp only [foldI, reduceCtorEq] at h
    split at h
    · exact foldI_eff h
    · cases h
theorem evMin_eff {f ss y} (h : evMin f ss = some y) : y.eff = .keep := by
  unfold evMin at h
  split at h
  · exact foldI_eff h
  · cases h
/-- What does not write makes at most one new object. -/
def NewOrKeep (y : Yd) : Prop := y.eff = .keep ∨ ∃ so, y.eff = .new so
theorem free_spec {P : Program} {specs eqs N τ H nm o y} (hp : isEff (effS specs) o = false) (h : evOp P specs eqs N τ H nm o = some y) : NewOrKeep y := by
  by_cases hpu : pureOp o = true
  · exact .inl (pureOp_spec hpu h).1
  unfold evOp at h
  unfold isEff at hp
  unfold pureOp at hpu
  split at h <;> (try (rename_i ho; simp only [ho, not_true_eq_false] at hpu; done)) <;> (try (rename_i ho; simp only [ho, Bool.true_eq_false] at hp; done))
  · split at h
    · cases h; exact .inr ⟨_, rfl⟩
    · cases h
  · split at h
    · cases h; exact .inr ⟨_, rfl⟩
    · cases h
  · split at h
    · split at h
      · unfold evBuildSlice at h
        split at h
        · obtain ⟨_, rfl⟩ := ite_some h
          exact .inr ⟨_, rfl⟩
        · cases h
      · cases h
    · cases h
  · split at h
    · exact .inl (evLoad_eff h)
    · cases h
  · repeat' (split at h)
    all_goals first | (cases h; done) | (unfold evMakeSlice at h; obtain ⟨_, rfl⟩ := ite_some h; exact .inr ⟨_, rfl⟩)
  · repeat' (split at h)
    all_goals first | (cases h; done) | exact .inl (evCut0_eff h) | exact .inl (evSlice_eff h)
  · repeat' (split at h)
    all_goals first | (cases h; done) | exact .inl (evIndexAddrS_eff h) | exact .inl (evIndexAddrA_eff h)
  · rename_i c ho
    split at h
    · rename_i b hb
      obtain ⟨cc, ca, ct⟩ := c
      simp only at hb
      subst hb
      rw [ho] at hp
      unfold evBuiltin at h
      split at h
      · simp at hp
      · repeat' (split at h)
        all_goals first | (cases h; done) | exact .inl (pureY_eff h) | (cases h; exact .inl rfl)
      · simp at hp
      · exact .inl (evMin_eff h)
      · exact .inl (evMin_eff h)
      · cases h
    · rename_i x hb
      split at h
      · rename_i F n g hfn
        obtain ⟨s, hmem, hsf, hr, hl⟩ := evCall_spec h
        have hse : s.eff = false := by
          obtain ⟨cc, ca, ct⟩ := c
          simp only at hb
          subst hb
          rw [ho] at hp
          simp only at hp
          cases x with
          | func f =>
            cases hfn
            simp only [calleeF, effS, List.any_eq_false] at hp
            have := hp s hmem
            simpa [hsf] using this
          | _ =>
            simp only [calleeF, effS, List.any_eq_false] at hp
            simpa using hp s hmem
        cases he : y.eff with
        | keep => exact .inl he
        | new so => exact .inr ⟨so, he⟩
        | sets l => rw [hl l he] at hse; cases hse
      · cases h
    · cases h
  · cases h
end Go.Proofs.YtbmgclpgompjmaaDoor.Sx
