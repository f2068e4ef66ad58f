/- A law's function, called with the values of its parameters. -/
import Derived.Test.YtbmgclpgompjmaaDoorSxw
namespace Go.Proofs.YtbmgclpgompjmaaDoor.Sx
open Go.RowKit
/-- A value that stands for nothing of the call's own. -/
def noOwn : SV → Prop
  | .fn _ _ g => ∀ i, noOwn (g i)
  | .agg _ g => ∀ i, noOwn (g i)
  | .tup _ g => ∀ i, noOwn (g i)
  | .sl _ _ g => ∀ i j, noOwn (g i j)
  | .slN .. => False
  | .ref _ g => ∀ i, noOwn (g i)
  | .own .. => False
  | .osl .. => False
  | .ownAt .. => False
  | .win .. => False
  | _ => True
theorem allN_of {p : Nat → Prop} (h : ∀ i, p i) : ∀ n, allN n p
  | 0 => trivial
  | n + 1 => ⟨allN_of h n, h n⟩
theorem SVle.refl : ∀ {s : SV} (H H' : List SO), noOwn s → SVle H H' s s := by
  intro s
  induction s with
  | any => intro H H' _; exact trivial
  | int k n => intro H H' _; exact ⟨⟨rfl⟩, ⟨rfl⟩⟩
  | bool b => intro H H' _; exact ⟨rfl⟩
  | lit b => intro H H' _; exact ⟨rfl⟩
  | str b => intro H H' _; exact ⟨rfl⟩
  | nilfn => intro H H' _; exact trivial
  | cap0 => intro H H' _; exact trivial
  | fn f n g ih => intro H H' h; simp only [SVle, if_true]; exact ⟨⟨trivial⟩, allN_of (fun i => ih i H H' (h i)) n⟩
  | agg n g ih => intro H H' h; simp only [SVle, if_true]; exact allN_of (fun i => ih i H H' (h i)) n
  | tup n g ih => intro H H' h; simp only [SVle, if_true]; exact allN_of (fun i => ih i H H' (h i)) n
  | sl len n g ih => intro H H' h; simp only [SVle, if_true]; exact ⟨⟨trivial⟩, fun i _ => allN_of (fun j => ih i j [] [] (h i j)) n⟩
  | ref n g ih => intro H H' h; simp only [SVle, Nat.le_refl, if_true]; exact allN_of (fun i => ih i [] [] (h i)) n
  | own k off => intro H H' h; exact h.elim
  | osl k ver => intro H H' h; exact h.elim
  | ownAt k ver i n off => intro H H' h; exact h.elim
  | win k ver n lo len => intro H H' h; exact h.elim
  | nilsl => intro H H' _; exact trivial
  | slN => intro H H' h; exact h.elim
def noOwns : List SV → Prop
  | [] => True
  | s :: l => noOwn s ∧ noOwns l
theorem leArgs_refl : ∀ {l : List SV}, noOwns l → mkSpec.leArgs l l
  | [], _ => trivial
  | _ :: _, h => ⟨SVle.refl [] [] h.1, leArgs_refl h.2⟩
theorem noOwn_lst : ∀ {l : List SV}, noOwns l → ∀ i, noOwn (lst l i)
  | [], _, _ => trivial
  | _ :: _, h, 0 => h.1
  | _ :: _, h, i + 1 => noOwn_lst h.2 i
/-- Values one by one. -/
def RL (w : World) (X : Nat → Prop) : List SV → List Value → Prop
  | [], [] => True
  | s :: l, v :: r => R w X E0 s v ∧ RL w X l r
  | _, _ => False
theorem RL.len {w X} : ∀ {l : List SV} {r : List Value}, RL w X l r → r.length = l.length
  | [], [], _ => rfl
  | _ :: _, _ :: _, h => congrArg Nat.succ (RL.len h.2)
  | [], _ :: _, h => h.elim
  | _ :: _, [], h => h.elim
theorem RL.get {w X} : ∀ {l : List SV} {r : List Value}, RL w X l r → ∀ i, i < l.length → R w X E0 (l.getD i .any) (r.getD i undef)
  | [], [], _, _, hi => absurd hi (Nat.not_lt_zero _)
  | _ :: _, _ :: _, h, 0, _ => h.1
  | _ :: _, _ :: _, h, i + 1, hi => RL.get h.2 i (Nat.lt_of_succ_lt_succ hi)
  | [], _ :: _, h, _, _ => h.elim
  | _ :: _, [], h, _, _ => h.elim
/-- An aggregate whose cells are integers and the like. -/
theorem R_agg {w X} {l : List SV} {r : List Value} {n : Nat} (h : RL w X l r) (hn : r.length = n) (ho : ∀ v ∈ r, oneCell v) : R w X E0 (.agg n (lst l)) (.agg r.toArray) := by
  have hl := h.len
  subst hn
  refine .agg (by simp) (fun i hi => ?_) (fun i hi => ?_)
  · rw [Array.getD_eq_getD_getElem?, List.getElem?_toArray, List.getElem?_eq_getElem hi]
    exact ho _ (List.getElem_mem hi)
  · have := h.get i (by omega)
    rw [Array.getD_eq_getD_getElem?, List.getElem?_toArray, ← List.getD_eq_getElem?_getD]
    exact this
/-- A law's function returns true, at all that its parameters' types allow. -/
theorem law_ok {P : Program} {f : FuncId} {γ : Type} {dec : List SV → Option γ} {args : γ → List SV} {pre : γ → Prop} (h : SpecOK P (mkSpec f dec args pre fun _ => .bool true)) (g : γ) (hd : dec (args g) = some g) (hn : noOwns (args g)) (hp : pre g)
    {vals : List Value} {w : World} (hR : RL w (fun _ => False) (args g) vals) (hpu : (args g).all (isPure 6) = true := by rfl) : Calls P f vals.toArray w fun e w' => e = .returned (.bool true) ∧ Below w.heap.size w w' := by
  have hrep : Rep w (Fr.of fun _ => False) [] E0 w := ⟨Bel.refl _ _, fun b hb => hb.elim, fun k e he => (nomatch he), fun k e he => (nomatch he), fun k e he => (nomatch he), fun k e b he => (nomatch he), fun k k' e e' b he => (nomatch he)⟩
  refine (h.2.2 (args g) [] 0 ⟨mkSpec.leArgs (args g) (args g) ∧ Ask (pre g), .bool true, .keep⟩ ?_ ⟨leArgs_refl hn, ⟨hp⟩⟩ w (Fr.of fun _ => False) E0 w hrep (fun so hso => by cases hso) vals.toArray ?_).mono ?_
  · simp only [mkSpec]
    rw [hd, hpu]
  · refine ⟨by rw [← hR.len]; simp, fun i hi => ?_⟩
    have := (hR.get i hi).mono (X' := Xo (Fr.of fun _ => False) E0 []) (fun _ _ _ => rfl) (fun b _ hb => hb.elim id fun ⟨k, e, he, _⟩ => (nomatch he)) (Env.le_refl _)
    rw [Array.getD_eq_getD_getElem?, List.getElem?_toArray, ← List.getD_eq_getElem?_getD]
    exact this
  · rintro e w' ⟨v, rfl, E', _, _, _, hr, hv, _⟩
    rw [bool_inv hv]
    exact ⟨rfl, hr.below.all⟩
/-- A row of integers. -/
def nums (xs : List Int) (j : Nat) : Int := xs.getD j 0
theorem R_ints {w X} {k : IntKind} (xs : List Int) : R w X E0 (.agg xs.length (fun j => .int k (nums xs j))) (.agg (xs.map (Value.int k)).toArray) := by
  have key : ∀ i, i < xs.length → (xs.map (Value.int k)).toArray.getD i undef = .int k (nums xs i) := fun i hi => by
    rw [Array.getD_eq_getD_getElem?, List.getElem?_toArray, List.getElem?_map, List.getElem?_eq_getElem hi, nums, List.getD_eq_getElem?_getD, List.getElem?_eq_getElem hi]
    rfl
  refine .agg (by simp) (fun i hi => ?_) fun i hi => ?_
  · rw [key i hi]; rfl
  · rw [key i hi]; exact .int
theorem nums_range {lo hi : Int} (h0 : lo ≤ 0 ∧ 0 ≤ hi) : ∀ {xs : List Int}, (∀ x ∈ xs, lo ≤ x ∧ x ≤ hi) → ∀ j, lo ≤ nums xs j ∧ nums xs j ≤ hi
  | [], _, j => by simpa [nums] using h0
  | x :: xs, h, 0 => h x (by simp)
  | x :: xs, h, j + 1 => nums_range h0 (fun y hy => h y (by simp [hy])) j
theorem wf_u8 {x : Int} (h : (Lit.int .u8 x).wf = true) : 0 ≤ x ∧ x ≤ 255 := by
  have := h
  simp [Lit.wf, IntKind.min, IntKind.max, IntKind.signed, IntKind.bits] at this
  omega
theorem wf_i64 {x : Int} (h : (Lit.int .i64 x).wf = true) : -9223372036854775808 ≤ x ∧ x ≤ 9223372036854775807 := by
  have := h
  simp [Lit.wf, IntKind.min, IntKind.max, IntKind.signed, IntKind.bits] at this
  omega
/-- All of a list. -/
def AllP (p : Int → Prop) : List Int → Prop
  | [] => True
  | x :: r => p x ∧ AllP p r
theorem AllP.mem {p : Int → Prop} : ∀ {l : List Int}, AllP p l → ∀ x ∈ l, p x
  | [], _, x, hx => (List.not_mem_nil hx).elim
  | y :: r, h, x, hx => by
    rcases List.mem_cons.1 hx with rfl | hx
    · exact h.1
    · exact h.2.mem x hx
/-- A slice whose elements are cells of one kind. -/
theorem R_row {w X} {k : IntKind} {a : Option Addr} {cap : Nat} (xs : List Int) (hc : xs.length ≤ cap)
    (h : xs = [] ∨ ∃ b off, a = some ⟨b, off, none⟩ ∧ ¬ X b ∧ ∀ i (hi : i < xs.length), w.cell? ⟨b, off + i, none⟩ = some (.int k xs[i])) : R w X E0 (.sl xs.length 1 (fun i _ => .int k (nums xs i))) (.slice a xs.length cap) := by
  by_cases h0 : xs = []
  · subst h0; exact .sl0
  rcases h with h | ⟨b, off, rfl, hX, hcell⟩
  · exact absurd h h0
  have hpos : 0 < xs.length := List.length_pos_iff.2 h0
  have hcell0 := hcell 0 hpos
  cases hb : w.heap[b]? with
  | none => simp [World.cell?, hb] at hcell0
  | some o =>
    cases o <;> simp only [World.cell?, hb, reduceCtorEq] at hcell0 <;> try (simp at hcell0; done)
    rename_i c T fr
    have hget : ∀ i, i < xs.length → off + i < c.size ∧ c.getD (off + i) undef = .int k (nums xs i) := by
      intro i hi
      have h1 := hcell i hi
      simp only [World.cell?, hb, Option.isSome_none, Bool.false_eq_true, if_false] at h1
      have hlt : off + i < c.size := by
        refine Classical.byContradiction fun hc => ?_
        rw [Array.getElem?_eq_none (Nat.not_lt.1 hc)] at h1
        cases h1
      refine ⟨hlt, ?_⟩
      rw [Array.getD_eq_getD_getElem?, h1, nums, List.getD_eq_getElem?_getD, List.getElem?_eq_getElem hi]
      rfl
    have hlast := (hget (xs.length - 1) (by omega)).1
    refine .sl hb hX (by omega) hc (fun i j hi hj => ?_) fun i j hi hj => ?_
    · obtain rfl : j = 0 := by omega
      rw [Nat.mul_one, Nat.add_zero, (hget i hi).2]; rfl
    · obtain rfl : j = 0 := by omega
      rw [Nat.mul_one, Nat.add_zero, (hget i hi).2]; exact .int
/-- A slice's length; cell j of its elements. -/
def slLen : SV → Nat
  | .sl n _ _ => n
  | .slN n _ _ => n
  | _ => 0
def slCell (j : Nat) : SV → Nat → Int
  | .sl _ _ g => fun i => intOf (g i j)
  | .slN _ _ g => fun i => intOf (g i j)
  | _ => fun _ => 0
end Go.Proofs.YtbmgclpgompjmaaDoor.Sx
