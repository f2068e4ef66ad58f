/- Package region: Of; printworkskeep1.near: by the evaluation. -/
import Derived.Test.YtbkgncikjhibiaaRgg
set_option linter.unusedSimpArgs false
set_option linter.unusedVariables false
namespace Go.Proofs.Ytbkgncikjhibiaa.Rgh
open Go.RowKit Sx Num Aff Con Rga Rgl Rgm Rgn Rgb Rgc Rgf Rgg
set_option maxRecDepth 100000
/-! Of. -/
structure PoG where
  n : Nat
  f : Nat → Pt
def poS (g : PoG) : SV := .sl g.n 2 (fun i => lst (ptL (g.f i)))
def poD : SV → Nat → Pt
  | .sl _ _ f => fun i => ⟨Sx.intOf (f i 0), Sx.intOf (f i 1)⟩
  | _ => fun _ => ⟨0, 0⟩
def ptR (p : Pt) : Rn := ⟨p.y, p.x, p.x + 1⟩
def okPt (p : Pt) : Prop := (-8192 ≤ p.x ∧ p.x < 8192) ∧ -8192 ≤ p.y ∧ p.y < 8192
theorem okR_pt {p : Pt} (h : okPt p) : okR (ptR p) := by
  obtain ⟨⟨h1, h2⟩, h3, h4⟩ := h
  refine ⟨⟨⟨h3, h4⟩, ⟨h1, ?_⟩, ?_, ?_⟩, ?_⟩
  · show p.x ≤ 8192; omega
  · show -8192 ≤ p.x + 1; omega
  · show p.x + 1 ≤ 8192; omega
  · show p.x < p.x + 1; omega
def PoG.r (g : PoG) : Rg := ⟨g.n, fun i => ptR (g.f i)⟩
def ofInv (g : PoG) : Inv := ⟨Nat, fun i => i ≤ g.n, fun i => ⟨[(4, .osl 0 0), (10, poS g), (11, .int .i64 g.n), (12, .int .i64 i)], [rowS 0 i g.r.f]⟩, fun i => g.n - i⟩
/-! near. -/
structure NrG where
  g : Rg
  m : Int
def NrG.x (h : NrG) (i : Nat) : Int := cutI (h.g.f i).x0 (-h.m) h.m
def NrG.y (h : NrG) (i : Nat) : Int := cutI (h.g.f i).y (-h.m) h.m
def NrG.w (h : NrG) (i : Nat) : Int := cutI (h.g.f i).x1 1 12
def NrG.pt (h : NrG) (i k : Nat) : Pt := ⟨if h.x i + k < h.m then h.x i + k else h.m, h.y i⟩
def NrG.in' (h : NrG) (i k : Nat) : List Pt := (List.range k).map (h.pt i)
def NrG.L (h : NrG) : Nat → List Pt
  | 0 => []
  | i + 1 => h.L i ++ h.in' i (h.w i).toNat
def pI (L : List Pt) (k : Nat) : Pt := L.getD k ⟨0, 0⟩
def NrG.ok (h : NrG) : Prop := (1 ≤ h.m ∧ h.m ≤ 1000) ∧ h.g.n ≤ 9223372036854775807
def NrG.o (h : NrG) : PoG := ⟨(h.L (min h.g.n 30)).length, pI (h.L (min h.g.n 30))⟩
def poR (L : List Pt) : SO := .row 0 L.length 2 (fun k => lst (ptL (pI L k))) 24
theorem cutI_b (x : Int) {lo hi : Int} (h : lo ≤ hi) : lo ≤ cutI x lo hi ∧ cutI x lo hi ≤ hi := cutI_range x lo hi h
theorem pI_app (L : List Pt) (p : Pt) (i : Nat) (h : i < L.length + 1) : pI (L ++ [p]) i = if i < L.length then pI L i else p := by
  unfold pI
  by_cases hi : i < L.length
  · rw [if_pos hi, List.getD_eq_getElem?_getD, List.getElem?_append_left hi, List.getD_eq_getElem?_getD]
  · rw [if_neg hi, show i = L.length by omega]
    simp
theorem pI_mem {L : List Pt} {i : Nat} (h : i < L.length) : pI L i ∈ L := by
  unfold pI
  rw [List.getD_eq_getElem?_getD, List.getElem?_eq_getElem h]
  exact List.getElem_mem _
theorem NrG.in_zero (h : NrG) (i : Nat) : h.in' i 0 = [] := rfl
theorem NrG.in_succ (h : NrG) (i k : Nat) : h.in' i (k + 1) = h.in' i k ++ [h.pt i k] := by
  unfold NrG.in'
  rw [List.range_succ, List.map_append]
  rfl
theorem NrG.in_len (h : NrG) (i k : Nat) : (h.in' i k).length = k := by simp [NrG.in']
theorem NrG.L_len (h : NrG) : ∀ i : Nat, (h.L i).length ≤ 12 * i
  | 0 => Nat.le_refl _
  | i + 1 => by
    have h1 := h.L_len i
    have h2 : 1 ≤ h.w i ∧ h.w i ≤ 12 := cutI_b (h.g.f i).x1 (by decide)
    show (h.L i ++ h.in' i (h.w i).toNat).length ≤ _
    rw [List.length_append, h.in_len]
    omega
theorem NrG.L_ok (h : NrG) (hm : 1 ≤ h.m) : ∀ i : Nat, ∀ p ∈ h.L i, (-h.m ≤ p.x ∧ p.x ≤ h.m) ∧ -h.m ≤ p.y ∧ p.y ≤ h.m
  | 0, p, hp => (List.not_mem_nil hp).elim
  | i + 1, p, hp => by
    rcases List.mem_append.1 (show p ∈ h.L i ++ h.in' i (h.w i).toNat from hp) with hp | hp
    · exact h.L_ok hm i p hp
    · obtain ⟨k, _, rfl⟩ := List.mem_map.1 hp
      have hx : -h.m ≤ h.x i ∧ h.x i ≤ h.m := cutI_b (h.g.f i).x0 (by omega)
      have hy : -h.m ≤ h.y i ∧ h.y i ≤ h.m := cutI_b (h.g.f i).y (by omega)
      refine ⟨?_, hy⟩
      show -h.m ≤ (if h.x i + k < h.m then h.x i + k else h.m) ∧ (if h.x i + k < h.m then h.x i + k else h.m) ≤ h.m
      split <;> omega
def nrT (h : NrG) (i : Nat) : List (Nat × SV) := [(0, rgS h.g), (1, .int .i64 h.m), (5, .osl 0 0), (6, .int .i64 i)]
def nrOut (h : NrG) : Inv := ⟨Nat, fun i => i ≤ 30 ∧ i ≤ h.g.n, fun i => ⟨nrT h i, [poR (h.L i)]⟩, fun i => 30 - i⟩
def nrIn (h : NrG) (i : Nat) : Inv := ⟨Nat, fun k => k ≤ (h.w i).toNat, fun k => ⟨[(7, .int .i64 (h.x i)), (8, .int .i64 (h.y i)), (45, .int .i64 (h.w i)), (46, .int .i64 k)] ++ nrT h i, [poR (h.L i ++ h.in' i k)]⟩, fun k => (h.w i).toNat - k⟩
end Go.Proofs.Ytbkgncikjhibiaa.Rgh
