/- The reach of a claim's form: how long a slice may be that comes with the call. -/
import Derived.Test.YtbkgncikjhibiaaSxx
import Derived.Test.YtbkgncikjhibiaaFrame
import Derived.SizedLaws
set_option linter.unusedSimpArgs false
set_option linter.unusedVariables false
namespace Go.Proofs.Ytbkgncikjhibiaa.Szd
open Go.ChangeShapes Go.WideShapes Go.ChangeAt Go.RowKit Sx
/-- The slice v, of elements of type e, lies within the reach. -/
def Szd (P : Program) (e : TypeId) (v : Value) : Prop := ∀ a len cap, v = .slice (some a) len cap → len * P.bytesOf e ≤ reachBytes
theorem param_szd {H : Type} {enc : TypeId × Value → H} {P : Program} {w : World} {t e : TypeId} {v : Value} {d : DataW H} {ps : List MemPlace} (hu : P.underlying t = some (.slice e))
    (hd : DataW.Trod enc P w 0 (fun _ => true) true t v d ps) (hs : ∀ el sp, d = .slice el sp → (el.length + sp.length) * P.bytesOf e ≤ reachBytes) : Szd P e v := by
  intro a len cap hv
  obtain ⟨fuel, hf⟩ := hd
  rcases DataW.trod_slice hu hf with ⟨h1, _⟩ | ⟨a', len', cap', elems, rest, n, _, h2, h3, _, _, _, h4, _⟩
  · rw [hv] at h1
    have h1 : [Value.slice (some a) len cap] = [.slice none 0 0] := h1
    cases h1
  · rw [hv] at h2
    have h2 : [Value.slice (some a) len cap] = [.slice (some a') len' cap'] := h2
    cases h2
    have h5 := hs _ _ (congrArg Prod.fst h3)
    rw [List.length_map, List.length_map, h4] at h5
    exact Nat.le_trans (Nat.mul_le_mul_right _ (Nat.le_add_right _ _)) h5
/-- Its length, where it is read as data. -/
theorem szd_len {P : Program} {e : TypeId} {v : Value} (h : Szd P e v) {w : World} {X : Nat → Prop} {E : Env} {len n : Nat} {g : Nat → Nat → SV} (hr : R w X E (.sl len n g) v) : len * P.bytesOf e ≤ reachBytes := by
  obtain ⟨ad, cap, rfl⟩ := R_sl_shape hr
  cases ad with
  | some a => exact h a len cap rfl
  | none =>
    cases hr
    rw [Nat.zero_mul]
    exact Nat.zero_le _
end Go.Proofs.Ytbkgncikjhibiaa.Szd
