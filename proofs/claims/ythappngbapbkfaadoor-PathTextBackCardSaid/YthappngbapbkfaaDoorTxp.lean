/- A path's text: its words, how long it is: plain Lean. -/
import Derived.Test.YthappngbapbkfaaDoorPth
import Derived.Test.YthappngbapbkfaaDoorShelf
set_option linter.unusedSimpArgs false
set_option linter.unusedVariables false
namespace Go.Proofs.YthappngbapbkfaaDoor.Txp
open Go.RowKit Sx Num Aff Con Cop Coh Pth
set_option maxRecDepth 100000
def itb (x : Int) : ByteArray := ⟨(Lib.itoa x).toArray⟩
/-- The words of a segment. -/
def segW (s : Seg) : List ByteArray :=
  if s.k = 1 then [⟨#[109]⟩, itb s.x, itb s.y] else if s.k = 2 then [⟨#[108]⟩, itb s.x, itb s.y]
  else if s.k = 3 then [⟨#[113]⟩, itb s.u, itb s.v, itb s.x, itb s.y, itb s.w] else if s.k = 4 then [⟨#[104]⟩] else []
/-- The words of the first k segments. -/
def wl (p : Pth) : Nat → List ByteArray
  | 0 => []
  | k + 1 => wl p k ++ segW (p.f k)
def wg (p : Pth) (k i : Nat) : ByteArray := (wl p k).getD i ⟨#[]⟩
def txt (p : Pth) : ByteArray := ⟨(Lib.join ((wl p p.n).map (·.data.toList)) [32]).toArray⟩
theorem segW_len (s : Seg) : (segW s).length ≤ 6 := by
  unfold segW
  repeat' split
  all_goals simp
theorem wl_len (p : Pth) : ∀ k, (wl p k).length ≤ 6 * k
  | 0 => Nat.le_refl _
  | k + 1 => by
    show (wl p k ++ segW (p.f k)).length ≤ _
    have := wl_len p k
    have := segW_len (p.f k)
    rw [List.length_append]
    omega
theorem seg_in {p : Pth} (h : p.chk = 0) {i : Nat} (hi : i < p.n) : inC (p.f i).x ∧ inC (p.f i).y ∧ inC (p.f i).u ∧ inC (p.f i).v ∧ ((p.f i).k = 3 → 16 ≤ (p.f i).w ∧ (p.f i).w ≤ 4096) ∧ ((p.f i).k = 1 ∨ (p.f i).k = 2 → (p.f i).u = 0 ∧ (p.f i).v = 0 ∧ (p.f i).w = 0) ∧ ((p.f i).k = 4 → (p.f i).x = 0 ∧ (p.f i).y = 0 ∧ (p.f i).u = 0 ∧ (p.f i).v = 0 ∧ (p.f i).w = 0) := by
  obtain ⟨h1, _, h2⟩ := seg_ok h hi
  generalize p.f i = s at h1 h2
  have hB : s.inB = 0 → inC s.x ∧ inC s.y ∧ inC s.u ∧ inC s.v := fun hb => by
    unfold Seg.inB at hb
    split at hb
    · assumption
    · cases hb
  unfold segE at h2
  split at h2
  · rename_i hk
    split at h2
    · rename_i hz
      obtain ⟨a, b, c, d⟩ := hB h2
      exact ⟨a, b, c, d, fun hc => by omega, fun _ => hz, fun hc => by omega⟩
    · cases h2
  · split at h2
    · rename_i hk
      split at h2
      · rename_i hz
        obtain ⟨a, b, c, d⟩ := hB h2
        exact ⟨a, b, c, d, fun hc => by omega, fun hc => by omega, fun _ => hz⟩
      · cases h2
    · split at h2
      · split at h2
        · cases h2
        · obtain ⟨a, b, c, d⟩ := hB h2
          exact ⟨a, b, c, d, fun _ => by omega, fun hc => by omega, fun hc => by omega⟩
      · cases h2
theorem range_getD {α : Type} (L : List α) (d : α) : (List.range L.length).map (fun i => L.getD i d) = L := by
  apply List.ext_getElem
  · simp
  · intro i h1 h2
    simp [List.getD_eq_getElem?_getD, h2]
/-! How long it is. -/
theorem nd_le : ∀ k u, u < 10 ^ (k + 1) → Lib.nDigits u ≤ k + 1
  | 0, u, h => by rw [Lib.nDigits_small (by simpa using h)]; exact Nat.le_refl _
  | k + 1, u, h => by
    by_cases hu : u < 10
    · rw [Lib.nDigits_small hu]; omega
    · rw [Lib.nDigits_big hu]
      have := nd_le k (u / 10) (by rw [Nat.pow_succ] at h; omega)
      omega
theorem itoa_len {x : Int} {k : Nat} (h : x.natAbs < 10 ^ (k + 1)) : (Lib.itoa x).length ≤ k + 2 ∧ (0 ≤ x → (Lib.itoa x).length ≤ k + 1) := by
  unfold Lib.itoa
  split
  · rw [List.length_cons, Lib.decDigits_length]
    have := nd_le k _ h
    omega
  · rw [Lib.decDigits_length]
    have := nd_le k x.toNat (by omega)
    omega
theorem itb_size (x : Int) : (itb x).size = (Lib.itoa x).length := by
  show (Lib.itoa x).toArray.size = _
  simp
/-- The lengths, a blank behind each word. -/
def tot : List ByteArray → Nat
  | [] => 0
  | w :: r => w.size + 1 + tot r
theorem tot_app : ∀ L M : List ByteArray, tot (L ++ M) = tot L + tot M
  | [], M => (Nat.zero_add _).symm
  | w :: L, M => by show w.size + 1 + tot (L ++ M) = _; rw [tot_app L M]; show _ = w.size + 1 + tot L + tot M; omega
theorem itb5 {x : Int} (h : inC x) : (itb x).size ≤ 6 := by
  unfold inC at h
  rw [itb_size]
  exact (itoa_len (k := 4) (by omega)).1
theorem itb4 {x : Int} (h : 16 ≤ x ∧ x ≤ 4096) : (itb x).size ≤ 4 := by
  rw [itb_size]
  exact (itoa_len (k := 3) (by omega)).2 (by omega)
theorem tot_seg {p : Pth} (h : p.chk = 0) {i : Nat} (hi : i < p.n) : tot (segW (p.f i)) ≤ 35 ∧ ((p.f i).k = 1 → tot (segW (p.f i)) ≤ 16) := by
  obtain ⟨bx, by', bu, bv, bw, _⟩ := seg_in h hi
  have hx := itb5 bx
  have hy := itb5 by'
  have hu := itb5 bu
  have hv := itb5 bv
  have e1 : ∀ b : UInt8, (⟨#[b]⟩ : ByteArray).size = 1 := fun _ => rfl
  unfold segW
  split
  · simp only [tot, e1]; omega
  · split
    · simp only [tot, e1]; omega
    · split
      · rename_i h3
        have := itb4 (bw h3)
        simp only [tot, e1]; omega
      · split
        · simp only [tot, e1]; omega
        · simp only [tot]; omega
theorem tot_wl {p : Pth} (h : p.chk = 0) : ∀ k, k ≤ p.n → tot (wl p k) ≤ 35 * k - 19
  | 0, _ => Nat.zero_le _
  | k + 1, hk => by
    show tot (wl p k ++ segW (p.f k)) ≤ _
    rw [tot_app]
    have h1 := tot_wl h k (by omega)
    have h2 := tot_seg h (i := k) (by omega)
    by_cases h0 : k = 0
    · subst h0
      have := h2.2 ((seg_ok h (by omega)).2.1 (.inl rfl))
      have e : tot (wl p 0) = 0 := rfl
      omega
    · omega
theorem lens_tot : ∀ L : List ByteArray, Lib.lens (L.map (·.data.toList)) + L.length = tot L
  | [] => rfl
  | w :: L => by
    have := lens_tot L
    have e : w.data.toList.length = w.size := by rw [Array.length_toList]; rfl
    simp only [List.map_cons, Lib.lens, List.map, List.sum_cons, List.length_cons, tot, e] at this ⊢
    omega
theorem join_tot {L : List ByteArray} (h : L ≠ []) : (Lib.join (L.map (·.data.toList)) [32]).length + 1 = tot L := by
  cases L with
  | nil => exact absurd rfl h
  | cons w L =>
    rw [List.map_cons, Lib.join_length, ← lens_tot]
    simp only [List.length_cons, List.length_nil, List.length_map, List.map_cons]
    omega
theorem txt_len {p : Pth} (h : p.chk = 0) : (Lib.join ((wl p p.n).map (·.data.toList)) [32]).length ≤ 34980 := by
  have hn := (chk_0.1 h).1
  have ht := tot_wl h p.n (Nat.le_refl _)
  by_cases h0 : wl p p.n = []
  · rw [h0]; exact Nat.zero_le _
  · have := join_tot h0
    omega
end Go.Proofs.YthappngbapbkfaaDoor.Txp
