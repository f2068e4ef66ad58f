/- Symbolic values: what a Go value is, as plain data, and how a value of the model stands for it in a memory. -/
import Derived.WalkKit
import Derived.WalkSpells
import Derived.WalkLawsBesides
import Derived.Handy
import Derived.Lib.Hide
namespace Go.Proofs.YtbmgclpgompjmaaDoor.Sx
open Go.RowKit
/-- A value as data. 'sl': a slice of len elements of n cells each; 'ref': a pointer to n cells that nobody writes any more; 'own', 'osl', 'ownAt', 'win': references to what the call itself has made (win: len elements of a slice, from the element lo on). 'nilsl': a slice that is nil; 'slN': one that is not. -/
inductive SV : Type
  | any
  | int (k : IntKind) (n : Int)
  | bool (b : Bool)
  | lit (b : Bool)
  | str (s : ByteArray)
  | nilfn
  | cap0
  | fn (f : FuncId) (n : Nat) (g : Nat → SV)
  | agg (n : Nat) (g : Nat → SV)
  | tup (n : Nat) (g : Nat → SV)
  | sl (len n : Nat) (g : Nat → Nat → SV)
  | ref (n : Nat) (g : Nat → SV)
  | own (k off : Nat)
  | osl (k ver : Nat)
  | ownAt (k ver i n off : Nat)
  | win (k ver n lo len : Nat)
  | nilsl
  | slN (len n : Nat) (g : Nat → Nat → SV)
instance : Inhabited SV := ⟨.any⟩
/-- Where an object of the call's own lies: a block, or (version, slice value). -/
inductive EI : Type
  | blk (b : Nat)
  | slc (ver : Nat) (v : Value)
abbrev Env := Nat → Option EI
def E0 : Env := fun _ => .none
/-- A cell's value: no aggregate. -/
def oneCell (v : Value) : Prop := v.oneCell' = true
inductive R (w : World) (X : Nat → Prop) : Env → SV → Value → Prop
  | any {E v} : R w X E .any v
  | int {E k n} : R w X E (.int k n) (.int k n)
  | bool {E b} : R w X E (.bool b) (.bool b)
  | lit {E b} : R w X E (.lit b) (.bool b)
  | str {E s} : R w X E (.str s) (.string s)
  | nilfn {E} : R w X E .nilfn .nilFunc
  | cap0 {E a} : R w X E .cap0 (.slice a 0 0)
  | fn {E f n g vs} (hs : vs.size = n) (h : ∀ i, i < n → R w X E (g i) (vs.getD i undef)) : R w X E (.fn f n g) (.func (.func f) #[] vs)
  | agg {E n g vs} (hs : vs.size = n) (ho : ∀ i, i < n → oneCell (vs.getD i undef)) (h : ∀ i, i < n → R w X E (g i) (vs.getD i undef)) : R w X E (.agg n g) (.agg vs)
  | tup {E n g vs} (hs : vs.size = n) (h : ∀ i, i < n → R w X E (g i) (vs.getD i undef)) : R w X E (.tup n g) (.tuple vs)
  | sl0 {E n g a cap} : R w X E (.sl 0 n g) (.slice a 0 cap)
  | sl {E len n g b o cap c T fr} (hb : w.heap[b]? = some (.cells c T fr)) (hX : ¬ X b) (hc : o + len * n ≤ c.size) (hl : len ≤ cap)
      (ho : ∀ i j, i < len → j < n → oneCell (c.getD (o + i * n + j) undef))
      (h : ∀ i j, i < len → j < n → R w X E0 (g i j) (c.getD (o + i * n + j) undef)) : R w X E (.sl len n g) (.slice (some ⟨b, o, none⟩) len cap)
  | ref {E n g b o c T fr} (hb : w.heap[b]? = some (.cells c T fr)) (hX : ¬ X b) (hc : o + n ≤ c.size)
      (ho : ∀ j, j < n → oneCell (c.getD (o + j) undef))
      (h : ∀ j, j < n → R w X E0 (g j) (c.getD (o + j) undef)) : R w X E (.ref n g) (.pointer (some ⟨b, o, none⟩))
  | own {E k off b} (h : E k = some (.blk b)) : R w X E (.own k off) (.pointer (some ⟨b, off, none⟩))
  | osl {E k ver v} (h : E k = some (.slc ver v)) (hv : ∃ a n c, v = .slice a n c) : R w X E (.osl k ver) v
  | oslOld {E k ver ver' v v'} (h : E k = some (.slc ver' v')) (hl : ver < ver') (hv : ∃ a n c, v = .slice a n c) : R w X E (.osl k ver) v
  | ownAt {E k ver i n off b len cap} (h : E k = some (.slc ver (.slice (some ⟨b, 0, none⟩) len cap))) : R w X E (.ownAt k ver i n off) (.pointer (some ⟨b, i * n + off, none⟩))
  | ownAtOld {E k ver ver' v v' i n off} (h : E k = some (.slc ver' v')) (hl : ver < ver') (hv : ∃ b o, v = .pointer (some ⟨b, o, none⟩)) : R w X E (.ownAt k ver i n off) v
  | win {E k ver n lo len a a0 len0 cap0} (h : E k = some (.slc ver (.slice a0 len0 cap0))) (hl : lo + len ≤ len0) (ha : len ≠ 0 → a = a0.map (·.add (lo * n))) (h0 : lo = 0 → a = a0) :
      R w X E (.win k ver n lo len) (.slice a len (cap0 - lo))
  | nilsl {E c} : R w X E .nilsl (.slice none 0 c)
  | slN {E len n g a cap} (h : R w X E (.sl len n g) (.slice (some a) len cap)) : R w X E (.slN len n g) (.slice (some a) len cap)
  | winOld {E k ver ver' v v' n lo len} (h : E k = some (.slc ver' v')) (hl : ver < ver') (hv : ∃ a c, v = .slice a len c) : R w X E (.win k ver n lo len) v
/-- E' knows what E knows; a slice may have come to a later version. -/
def Env.le (E E' : Env) : Prop := (∀ k b, E k = some (.blk b) → E' k = some (.blk b)) ∧
  ∀ k ver v, E k = some (.slc ver v) → ∃ ver' v', E' k = some (.slc ver' v') ∧ ver ≤ ver' ∧ (ver = ver' → v = v')
theorem Env.le_refl (E : Env) : E.le E := ⟨fun _ _ h => h, fun _ _ _ h => ⟨_, _, h, Nat.le_refl _, fun _ => rfl⟩⟩
theorem Env.E0_le (E : Env) : E0.le E := ⟨fun _ _ h => (nomatch h), fun _ _ _ h => (nomatch h)⟩
theorem Env.le_trans {E E' E'' : Env} (h : E.le E') (h' : E'.le E'') : E.le E'' := by
  refine ⟨fun k b e => h'.1 k b (h.1 k b e), fun k ver v e => ?_⟩
  obtain ⟨v1, x1, e1, l1, q1⟩ := h.2 k ver v e
  obtain ⟨v2, x2, e2, l2, q2⟩ := h'.2 k v1 x1 e1
  exact ⟨v2, x2, e2, Nat.le_trans l1 l2, fun e => by subst e; have := Nat.le_antisymm l2 l1; subst this; exact (q1 rfl).trans (q2 rfl)⟩
/-- Blocks outside X read in w' as in w. -/
def Keeps (X : Nat → Prop) (w w' : World) : Prop := ∀ b, b < w.heap.size → ¬ X b → w'.heap[b]? = w.heap[b]?
/-- X' excludes no more of the old blocks than X. -/
def Within (X X' : Nat → Prop) (w : World) : Prop := ∀ b, b < w.heap.size → X' b → X b
theorem lt_of_block {w : World} {b : Nat} {o : Obj} (h : w.heap[b]? = some o) : b < w.heap.size := (Array.getElem?_eq_some_iff.1 h).1
theorem R.mono {w w' : World} {X X' : Nat → Prop} (hk : Keeps X w w') (hx : Within X X' w) {E : Env} {sv : SV} {v : Value} (h : R w X E sv v) :
    ∀ {E' : Env}, E.le E' → R w' X' E' sv v := by
  induction h with
  | any => intro E' _; exact .any
  | int => intro E' _; exact .int
  | bool => intro E' _; exact .bool
  | lit => intro E' _; exact .lit
  | str => intro E' _; exact .str
  | nilfn => intro E' _; exact .nilfn
  | cap0 => intro E' _; exact .cap0
  | fn hs _ ih => intro E' le; exact .fn hs fun i hi => ih i hi le
  | agg hs ho _ ih => intro E' le; exact .agg hs ho fun i hi => ih i hi le
  | tup hs _ ih => intro E' le; exact .tup hs fun i hi => ih i hi le
  | sl0 => intro E' _; exact .sl0
  | sl hb hX hc hl ho _ ih =>
    intro E' _
    have hlt := lt_of_block hb
    exact .sl ((hk _ hlt hX).trans hb) (fun hx' => hX (hx _ hlt hx')) hc hl ho fun i j hi hj => ih i j hi hj (Env.le_refl _)
  | ref hb hX hc ho _ ih =>
    intro E' _
    have hlt := lt_of_block hb
    exact .ref ((hk _ hlt hX).trans hb) (fun hx' => hX (hx _ hlt hx')) hc ho fun j hj => ih j hj (Env.le_refl _)
  | own h => intro E' le; exact .own (le.1 _ _ h)
  | osl h hv =>
    intro E' le
    obtain ⟨ver', v', e, l, q⟩ := le.2 _ _ _ h
    rcases Nat.lt_or_ge _ ver' with hlt | hge
    · exact .oslOld e hlt hv
    · have := Nat.le_antisymm l hge
      subst this
      rw [← q rfl] at e
      exact .osl e hv
  | oslOld h hl hv =>
    intro E' le
    obtain ⟨ver', v', e, l, q⟩ := le.2 _ _ _ h
    exact .oslOld e (Nat.lt_of_lt_of_le hl l) hv
  | ownAt h =>
    intro E' le
    obtain ⟨ver', v', e, l, q⟩ := le.2 _ _ _ h
    rcases Nat.lt_or_ge _ ver' with hlt | hge
    · exact .ownAtOld e hlt ⟨_, _, rfl⟩
    · have := Nat.le_antisymm l hge
      subst this
      rw [← q rfl] at e
      exact .ownAt e
  | ownAtOld h hl hv =>
    intro E' le
    obtain ⟨ver', v', e, l, q⟩ := le.2 _ _ _ h
    exact .ownAtOld e (Nat.lt_of_lt_of_le hl l) hv
  | win h hl ha h0 =>
    intro E' le
    obtain ⟨ver', v', e, l, q⟩ := le.2 _ _ _ h
    rcases Nat.lt_or_ge _ ver' with hlt | hge
    · exact .winOld e hlt ⟨_, _, rfl⟩
    · have := Nat.le_antisymm l hge
      subst this
      rw [← q rfl] at e
      exact .win e hl ha h0
  | nilsl => intro E' _; exact .nilsl
  | slN _ ih => intro E' le; exact .slN (ih le)
  | winOld h hl hv =>
    intro E' le
    obtain ⟨ver', v', e, l, q⟩ := le.2 _ _ _ h
    exact .winOld e (Nat.lt_of_lt_of_le hl l) hv
end Go.Proofs.YtbmgclpgompjmaaDoor.Sx
