import Derived.WalkKit
import Derived.WalkSpells
import Derived.WalkLawsBesides
import Derived.Handy
import Derived.Lib.Hide
/- Symbolic values: what a Go value is, as plain data, and how a value of the model stands for it in a memory. -/
namespace Go.Proofs.YthappngbapbkfaaDoor.Sx
open Go.RowKit
/-- A value as data. 'sl': a slice of len elements of n cells each; 'ref': a pointer to n cells that nobody writes any more; 'own', 'osl', 'ownAt', 'win': references to what the call itself has made (win: len elements of a slice, from the element lo on). 'nilsl': a slice that is nil; 'slN': one that is not. -/
inductive SV : Type
  | any
  | int (k : IntKind) (n : Int)
  | bool (b : Bool)
  | lit (b : Bool)
  | str (s : ByteArray)
  | nilfn
  | cap0
  | fn (f : FuncId) (n : Nat) (g : Nat → SV)
  | agg (n : Nat) (g : Nat → SV)
  | tup (n : Nat) (g : Nat → SV)
  | sl (len n : Nat) (g : Nat → Nat → SV)
  | ref (n : Nat) (g : Nat → SV)
  | own (k off : Nat)
  | osl (k ver : Nat)
  | ownAt (k ver i n off : Nat)
  | win (k ver n lo len : Nat)
  | nilsl
  | slN (len n : Nat) (g : Nat → Nat → SV)
  | con (v : Value)
  | omap (k : Nat)
  | slP (n : Nat) (g : Nat → SV)
  | refP (g : Nat → SV)
  | ifc (T : TypeId) (g : Nat → SV)
instance : Inhabited SV := ⟨.any⟩
/-- Where an object of the call's own lies: a block, or (version, slice value, the blocks of the slices that its elements begin with). -/
inductive EI : Type
  | blk (b : Nat)
  | slc (ver : Nat) (v : Value) (us : Nat → Option Nat)
abbrev Env := Nat → Option EI
def E0 : Env := fun _ => .none
/-- A cell's value: no aggregate. -/
def oneCell (v : Value) : Prop := v.oneCell' = true
inductive R (w : World) (X : Nat → Prop) : Env → SV → Value → Prop
  | any {E v} : R w X E .any v
  | int {E k n} : R w X E (.int k n) (.int k n)
  | bool {E b} : R w X E (.bool b) (.bool b)
  | lit {E b} : R w X E (.lit b) (.bool b)
  | str {E s} : R w X E (.str s) (.string s)
  | nilfn {E} : R w X E .nilfn .nilFunc
  | cap0 {E a} : R w X E .cap0 (.slice a 0 0)
  | fn {E f n g vs} (hs : vs.size = n) (h : ∀ i, i < n → R w X E (g i) (vs.getD i undef)) : R w X E (.fn f n g) (.func (.func f) #[] vs)
  | agg {E n g vs} (hs : vs.size = n) (ho : ∀ i, i < n → oneCell (vs.getD i undef)) (h : ∀ i, i < n → R w X E (g i) (vs.getD i undef)) : R w X E (.agg n g) (.agg vs)
  | tup {E n g vs} (hs : vs.size = n) (h : ∀ i, i < n → R w X E (g i) (vs.getD i undef)) : R w X E (.tup n g) (.tuple vs)
  | sl0 {E n g a cap} : R w X E (.sl 0 n g) (.slice a 0 cap)
  | sl {E len n g b o cap c T fr} (hb : w.heap[b]? = some (.cells c T fr)) (hX : ¬ X b) (hc : o + len * n ≤ c.size) (hl : len ≤ cap)
      (ho : ∀ i j, i < len → j < n → oneCell (c.getD (o + i * n + j) undef))
      (h : ∀ i j, i < len → j < n → R w X E0 (g i j) (c.getD (o + i * n + j) undef)) : R w X E (.sl len n g) (.slice (some ⟨b, o, none⟩) len cap)
  | ref {E n g b o c T fr} (hb : w.heap[b]? = some (.cells c T fr)) (hX : ¬ X b) (hc : o + n ≤ c.size)
      (ho : ∀ j, j < n → oneCell (c.getD (o + j) undef))
      (h : ∀ j, j < n → R w X E0 (g j) (c.getD (o + j) undef)) : R w X E (.ref n g) (.pointer (some ⟨b, o, none⟩))
  | own {E k off b} (h : E k = some (.blk b)) : R w X E (.own k off) (.pointer (some ⟨b, off, none⟩))
  | osl {E k ver v us} (h : E k = some (.slc ver v us)) (hv : ∃ a n c, v = .slice a n c) : R w X E (.osl k ver) v
  | oslOld {E k ver ver' v v' us} (h : E k = some (.slc ver' v' us)) (hl : ver < ver') (hv : ∃ a n c, v = .slice a n c) : R w X E (.osl k ver) v
  | ownAt {E k ver i n off b len cap us} (h : E k = some (.slc ver (.slice (some ⟨b, 0, none⟩) len cap) us)) : R w X E (.ownAt k ver i n off) (.pointer (some ⟨b, i * n + off, none⟩))
  | ownAtOld {E k ver ver' v v' i n off us} (h : E k = some (.slc ver' v' us)) (hl : ver < ver') (hv : ∃ b o, v = .pointer (some ⟨b, o, none⟩)) : R w X E (.ownAt k ver i n off) v
  | win {E k ver n lo len a a0 len0 cap0 us} (h : E k = some (.slc ver (.slice a0 len0 cap0) us)) (hl : lo + len ≤ len0) (ha : len ≠ 0 → a = a0.map (·.add (lo * n))) (h0 : lo = 0 → a = a0) :
      R w X E (.win k ver n lo len) (.slice a len (cap0 - lo))
  | nilsl {E c} : R w X E .nilsl (.slice none 0 c)
  | slN {E len n g a cap} (h : R w X E (.sl len n g) (.slice (some a) len cap)) : R w X E (.slN len n g) (.slice (some a) len cap)
  | con {E v} : R w X E (.con v) v
  | omap {E k b us} (h : E k = some (.slc 0 (.map (some b)) us)) : R w X E (.omap k) (.map (some b))
  | omapOld {E k ver v' us b} (h : E k = some (.slc ver v' us)) (hl : 0 < ver) : R w X E (.omap k) (.map (some b))
  | winOld {E k ver ver' v v' n lo len us} (h : E k = some (.slc ver' v' us)) (hl : ver < ver') (hv : ∃ a c, v = .slice a len c) : R w X E (.win k ver n lo len) v
  | slP {E n g b o cap c T fr} (hb : w.heap[b]? = some (.cells c T fr)) (hX : ¬ X b) (hc : o + n ≤ c.size) (hl : n ≤ cap) (ho : ∀ i, i < n → oneCell (c.getD (o + i) undef))
      (h : ∀ i, i < n → R w X E (g i) (c.getD (o + i) undef)) : R w X E (.slP n g) (.slice (some ⟨b, o, none⟩) n cap)
  | refP {E g b o c T fr} (hb : w.heap[b]? = some (.cells c T fr)) (hX : ¬ X b) (hc : o < c.size) (ho : oneCell (c.getD o undef)) (h : R w X E (g 0) (c.getD o undef)) : R w X E (.refP g) (.pointer (some ⟨b, o, none⟩))
  | ifc {E T g v} (ho : oneCell v) (h : R w X E (g 0) v) : R w X E (.ifc T g) (.iface T v)
/-- E' knows what E knows; a slice may have come to a later version. -/
def Env.le (E E' : Env) : Prop := (∀ k b, E k = some (.blk b) → E' k = some (.blk b)) ∧
  ∀ k ver v us, E k = some (.slc ver v us) → ∃ ver' v' us', E' k = some (.slc ver' v' us') ∧ ver ≤ ver' ∧ (ver = ver' → v = v')
theorem Env.le_refl (E : Env) : E.le E := ⟨fun _ _ h => h, fun _ _ _ _ h => ⟨_, _, _, h, Nat.le_refl _, fun _ => rfl⟩⟩
theorem Env.E0_le (E : Env) : E0.le E := ⟨fun _ _ h => (nomatch h), fun _ _ _ _ h => (nomatch h)⟩
theorem Env.le_trans {E E' E'' : Env} (h : E.le E') (h' : E'.le E'') : E.le E'' := by
  refine ⟨fun k b e => h'.1 k b (h.1 k b e), fun k ver v us e => ?_⟩
  obtain ⟨v1, x1, u1, e1, l1, q1⟩ := h.2 k ver v us e
  obtain ⟨v2, x2, u2, e2, l2, q2⟩ := h'.2 k v1 x1 u1 e1
  exact ⟨v2, x2, u2, e2, Nat.le_trans l1 l2, fun e => by subst e; have := Nat.le_antisymm l2 l1; subst this; exact (q1 rfl).trans (q2 rfl)⟩
/-- Blocks outside X read in w' as in w. -/
def Keeps (X : Nat → Prop) (w w' : World) : Prop := ∀ b, b < w.heap.size → ¬ X b → w'.heap[b]? = w.heap[b]?
/-- X' excludes no more of the old blocks than X. -/
def Within (X X' : Nat → Prop) (w : World) : Prop := ∀ b, b < w.heap.size → X' b → X b
theorem lt_of_block {w : World} {b : Nat} {o : Obj} (h : w.heap[b]? = some o) : b < w.heap.size := (Array.getElem?_eq_some_iff.1 h).1
theorem R.mono {w w' : World} {X X' : Nat → Prop} (hk : Keeps X w w') (hx : Within X X' w) {E : Env} {sv : SV} {v : Value} (h : R w X E sv v) :
    ∀ {E' : Env}, E.le E' → R w' X' E' sv v := by
  induction h with
  | any => intro E' _; exact .any
  | int => intro E' _; exact .int
  | bool => intro E' _; exact .bool
  | lit => intro E' _; exact .lit
  | str => intro E' _; exact .str
  | nilfn => intro E' _; exact .nilfn
  | cap0 => intro E' _; exact .cap0
  | fn hs _ ih => intro E' le; exact .fn hs fun i hi => ih i hi le
  | agg hs ho _ ih => intro E' le; exact .agg hs ho fun i hi => ih i hi le
  | tup hs _ ih => intro E' le; exact .tup hs fun i hi => ih i hi le
  | sl0 => intro E' _; exact .sl0
  | sl hb hX hc hl ho _ ih =>
    intro E' _
    have hlt := lt_of_block hb
    exact .sl ((hk _ hlt hX).trans hb) (fun hx' => hX (hx _ hlt hx')) hc hl ho fun i j hi hj => ih i j hi hj (Env.le_refl _)
  | ref hb hX hc ho _ ih =>
    intro E' _
    have hlt := lt_of_block hb
    exact .ref ((hk _ hlt hX).trans hb) (fun hx' => hX (hx _ hlt hx')) hc ho fun j hj => ih j hj (Env.le_refl _)
  | own h => intro E' le; exact .own (le.1 _ _ h)
  | osl h hv =>
    intro E' le
    obtain ⟨ver', v', us', e, l, q⟩ := le.2 _ _ _ _ h
    rcases Nat.lt_or_ge _ ver' with hlt | hge
    · exact .oslOld e hlt hv
    · have := Nat.le_antisymm l hge
      subst this
      rw [← q rfl] at e
      exact .osl e hv
  | oslOld h hl hv =>
    intro E' le
    obtain ⟨ver', v', us', e, l, q⟩ := le.2 _ _ _ _ h
    exact .oslOld e (Nat.lt_of_lt_of_le hl l) hv
  | ownAt h =>
    intro E' le
    obtain ⟨ver', v', us', e, l, q⟩ := le.2 _ _ _ _ h
    rcases Nat.lt_or_ge _ ver' with hlt | hge
    · exact .ownAtOld e hlt ⟨_, _, rfl⟩
    · have := Nat.le_antisymm l hge
      subst this
      rw [← q rfl] at e
      exact .ownAt e
  | ownAtOld h hl hv =>
    intro E' le
    obtain ⟨ver', v', us', e, l, q⟩ := le.2 _ _ _ _ h
    exact .ownAtOld e (Nat.lt_of_lt_of_le hl l) hv
  | win h hl ha h0 =>
    intro E' le
    obtain ⟨ver', v', us', e, l, q⟩ := le.2 _ _ _ _ h
    rcases Nat.lt_or_ge _ ver' with hlt | hge
    · exact .winOld e hlt ⟨_, _, rfl⟩
    · have := Nat.le_antisymm l hge
      subst this
      rw [← q rfl] at e
      exact .win e hl ha h0
  | nilsl => intro E' _; exact .nilsl
  | slN _ ih => intro E' le; exact .slN (ih le)
  | con => intro E' _; exact .con
  | slP hb hX hc hl ho _ ih =>
    intro E' le
    have hlt := lt_of_block hb
    exact .slP ((hk _ hlt hX).trans hb) (fun hx' => hX (hx _ hlt hx')) hc hl ho fun i hi => ih i hi le
  | refP hb hX hc ho _ ih =>
    intro E' le
    have hlt := lt_of_block hb
    exact .refP ((hk _ hlt hX).trans hb) (fun hx' => hX (hx _ hlt hx')) hc ho (ih le)
  | ifc ho _ ih => intro E' le; exact .ifc ho (ih le)
  | omap h =>
    intro E' le
    obtain ⟨ver', v', us', e, l, q⟩ := le.2 _ _ _ _ h
    cases ver' with
    | zero => rw [← q rfl] at e; exact .omap e
    | succ n => exact .omapOld e (Nat.succ_pos n)
  | omapOld h hl =>
    intro E' le
    obtain ⟨ver', v', us', e, l, q⟩ := le.2 _ _ _ _ h
    exact .omapOld e (Nat.lt_of_lt_of_le hl l)
  | winOld h hl hv =>
    intro E' le
    obtain ⟨ver', v', us', e, l, q⟩ := le.2 _ _ _ _ h
    exact .winOld e (Nat.lt_of_lt_of_le hl l) hv
end Go.Proofs.YthappngbapbkfaaDoor.Sx
/- The objects that a call has made, as data, and what it means that a memory holds them; steps of the memory that keep it. -/
namespace Go.Proofs.YthappngbapbkfaaDoor.Sx
open Go.RowKit
/-- The kinds of keys: an integer, an array of integers. -/
inductive KK : Type
  | one (k : IntKind)
  | arr (n : Nat) (k : IntKind)
deriving DecidableEq
def KK.len : KK → Nat
  | .one _ => 1
  | .arr n _ => n
/-- The key that a list of numbers stands for. -/
def keyV : KK → List Int → Value
  | .one k, l => .int k (l.getD 0 0)
  | .arr _ k, l => .agg (l.map (Value.int k)).toArray
theorem keyV_inj {kk : KK} {l l' : List Int} (h : l.length = kk.len) (h' : l'.length = kk.len) (he : keyV kk l = keyV kk l') : l = l' := by
  cases kk with
  | one k =>
    simp only [KK.len] at h h'
    match l, l', h, h' with
    | [a], [b], _, _ => simp only [keyV, List.getD_cons_zero, Value.int.injEq, true_and] at he; rw [he]
  | arr n k =>
    simp only [keyV, Value.agg.injEq, Array.mk.injEq] at he
    have inj : ∀ (l l' : List Int), l.map (Value.int k) = l'.map (Value.int k) → l = l' := by
      intro l
      induction l with
      | nil => intro l' h; cases l' with
        | nil => rfl
        | cons => simp at h
      | cons a l ih => intro l' h; cases l' with
        | nil => simp at h
        | cons b l' =>
          simp only [List.map_cons, List.cons.injEq, Value.int.injEq, true_and] at h
          rw [h.1, ih l' h.2]
    exact inj l l' he
def encI : Int → Nat
  | .ofNat n => 2 * n
  | .negSucc n => 2 * n + 1
theorem encI_inj {a b : Int} (h : encI a = encI b) : a = b := by
  cases a <;> cases b <;> simp only [encI] at h <;> first | (congr 1; omega) | omega
/-- These entries have these keys, each once. -/
structure MapOK (kk : KK) (es : Array MapEntry) (has : List Int → Bool) : Prop where
  keys : ∀ e ∈ es.toList, ∃ l, l.length = kk.len ∧ e.key = keyV kk l
  once : es.toList.Pairwise (fun e e' => e.key ≠ e'.key)
  iff : ∀ l, l.length = kk.len → (has l = true ↔ ∃ e ∈ es.toList, e.key = keyV kk l)
def mblk : Value → Option Nat
  | .map (some b) => some b
  | _ => none
/-- What lies at the key that has been taken out. -/
def hoI (ho : Option (Int × SV × Bool)) (y : Int) : Option SV := match ho with
  | some q => if q.1 = y then some q.2.1 else none
  | none => none
def hoIMap (f : SV → SV) (ho : Option (Int × SV × Bool)) : Option (Int × SV × Bool) := match ho with
  | some q => some (q.1, f q.2.1, q.2.2)
  | none => none
theorem hoI_map (f : SV → SV) (ho : Option (Int × SV × Bool)) (y : Int) : hoI (hoIMap f ho) y = (hoI ho y).map f := by
  cases ho with
  | none => rfl
  | some q =>
    simp only [hoIMap, hoI]
    split <;> rfl
theorem hoI_map_none (f : SV → SV) (ho : Option (Int × SV × Bool)) (y : Int) : (hoI (hoIMap f ho) y = none) = (hoI ho y = none) := by
  rw [hoI_map]
  cases hoI ho y <;> simp
/-- cells: a block of the call's own; row: a slice of the call's own; scells, srow: the same, given away for reading. deep: a slice of the call's own whose elements begin with slices of the call's own (m i elements of c cells, p i;the element's other cells: g i), but for the element that has been taken out (ho: its number, and what lies in its first cell). -/
inductive SO : Type
  | dead
  | cells (n : Nat) (g : Nat → SV) (T : TypeId)
  | scells (n : Nat) (g : Nat → SV)
  | row (ver len n : Nat) (g : Nat → Nat → SV) (T : TypeId)
  | srow (ver len n : Nat) (g : Nat → Nat → SV)
  | deep (ver len n c : Nat) (m : Nat → Nat) (p : Nat → Nat → Nat → SV) (g : Nat → Nat → SV) (T T' : TypeId) (ho : Option (Nat × SV))
  | mpi (kk : KK) (tot : Bool) (has : List Int → Bool) (val : List Int → SV)
  | mps (kd : IntKind) (has : Int → Bool) (c : Nat) (m : Int → Nat) (p : Int → Nat → Nat → SV) (T' : TypeId) (ho : Option (Int × SV × Bool))
instance : Inhabited SO := ⟨.dead⟩
/-- The slice value v is the call's own: empty without room, or at the head of a block. -/
def OwnsR (w : World) (T : TypeId) (n : Nat) (v : Value) (len : Nat) (xs : List Value) : Prop :=
  (∃ a, v = .slice a 0 0 ∧ len = 0 ∧ xs = []) ∨
  ∃ b cap cur, v = .slice (some ⟨b, 0, none⟩) len (cap + 1) ∧ w.heap[b]? = some (.cells cur T (0, 0)) ∧ len ≤ cap + 1 ∧ cap + 1 ≤ maxLen ∧ cur.size = (cap + 1) * n ∧ cur.toList.take (len * n) = xs ∧ xs.length = len * n
/-- The block of a slice with room. -/
def blkOf : Value → Option Nat
  | .slice (some a) _ (_ + 1) => some a.block
  | _ => none
/-- What lies in the first cell of the element that has been taken out. -/
def hoAt (ho : Option (Nat × SV)) (i : Nat) : Option SV := match ho with
  | some (h, sv) => if h = i then some sv else none
  | none => none
def hoMap (f : SV → SV) (ho : Option (Nat × SV)) : Option (Nat × SV) := match ho with
  | some q => some (q.1, f q.2)
  | none => none
theorem hoAt_map (f : SV → SV) (ho : Option (Nat × SV)) (i : Nat) : hoAt (hoMap f ho) i = (hoAt ho i).map f := by
  cases ho with
  | none => rfl
  | some q =>
    simp only [hoMap, hoAt]
    split <;> rfl
theorem hoAt_map_none (f : SV → SV) (ho : Option (Nat × SV)) (i : Nat) : (hoAt (hoMap f ho) i = none) = (hoAt ho i = none) := by
  rw [hoAt_map]
  cases hoAt ho i <;> simp
/-- u is a slice of the call's own, with this content. -/
def InnerOK (w : World) (X : Nat → Prop) (c : Nat) (T' : TypeId) (u : Value) (m : Nat) (p : Nat → Nat → SV) : Prop :=
  ∃ ys, OwnsR w T' c u m ys ∧ ∀ i j, i < m → j < c → oneCell (ys.getD (i * c + j) undef) ∧ R w X E0 (p i j) (ys.getD (i * c + j) undef)
structure DeepOK (w : World) (X : Nat → Prop) (E : Env) (v : Value) (us : Nat → Option Nat) (len n c : Nat) (m : Nat → Nat) (p : Nat → Nat → Nat → SV) (g : Nat → Nat → SV) (T T' : TypeId) (ho : Option (Nat × SV)) (xs : List Value) : Prop where
  pos : 0 < n
  own : OwnsR w T n v len xs
  rest : ∀ i j, i < len → 0 < j → j < n → oneCell (xs.getD (i * n + j) undef) ∧ R w X E0 (g i j) (xs.getD (i * n + j) undef)
  out : ∀ i sv, i < len → hoAt ho i = some sv → oneCell (xs.getD (i * n) undef) ∧ R w X E sv (xs.getD (i * n) undef)
  inn : ∀ i, i < len → hoAt ho i = none → blkOf (xs.getD (i * n) undef) = us i ∧ InnerOK w X c T' (xs.getD (i * n) undef) (m i) (p i)
  apart : ∀ i b, i < len → hoAt ho i = none → us i = some b → blkOf v ≠ some b
  inj : ∀ i i' b, i < len → i' < len → hoAt ho i = none → hoAt ho i' = none → us i = some b → us i' = some b → i = i'
/-- A deep slice, said over other names. -/
theorem DeepOK.map {w X X' E E' v us len n c m p g T T' ho ho' xs} (d : DeepOK w X E v us len n c m p g T T' ho xs) (hx : ∀ b, X' b → X b) (hho : ∀ i, hoAt ho' i = none → hoAt ho i = none)
    (hout : ∀ i sv', hoAt ho' i = some sv' → ∃ sv, hoAt ho i = some sv ∧ ∀ u, R w X E sv u → R w X' E' sv' u) : DeepOK w X' E' v us len n c m p g T T' ho' xs := by
  have weak : ∀ {s : SV} {v : Value}, R w X E0 s v → R w X' E0 s v := fun h => h.mono (fun _ _ _ => rfl) (fun b _ hb => hx b hb) (Env.le_refl _)
  refine ⟨d.pos, d.own, fun i j hi h0 hj => ⟨(d.rest i j hi h0 hj).1, weak (d.rest i j hi h0 hj).2⟩, fun i sv hi hh => ?_, fun i hi hh => ?_, fun i b hi hh => d.apart i b hi (hho i hh), fun i i' b hi hi' h1 h2 => d.inj i i' b hi hi' (hho i h1) (hho i' h2)⟩
  · obtain ⟨s0, h1, h2⟩ := hout i sv hh
    exact ⟨(d.out i s0 hi h1).1, h2 _ (d.out i s0 hi h1).2⟩
  · obtain ⟨q1, ys, q2, q3⟩ := d.inn i hi (hho i hh)
    exact ⟨q1, ys, q2, fun i' j hi' hj => ⟨(q3 i' j hi' hj).1, weak (q3 i' j hi' hj).2⟩⟩
/-- A map whose values are slices of the call's own (of keys that are not there: empty). -/
structure MpsOK (w : World) (X : Nat → Prop) (E : Env) (us : Nat → Option Nat) (kd : IntKind) (has : Int → Bool) (c : Nat) (m : Int → Nat) (p : Int → Nat → Nat → SV) (T' : TypeId) (ho : Option (Int × SV × Bool)) (es : Array MapEntry) : Prop where
  map : MapOK (.one kd) es (fun l => has (l.getD 0 0))
  inn : ∀ y e, e ∈ es.toList → e.key = .int kd y → hoI ho y = none → blkOf e.val = us (encI y) ∧ InnerOK w X c T' e.val (m y) (p y)
  gone : ∀ y, has y = false → m y = 0 ∧ us (encI y) = none
  out : ∀ h sv fl, ho = some (h, sv, fl) → (fl = true → has h = true) ∧ (∀ e, e ∈ es.toList → e.key = .int kd h → R w X E sv e.val) ∧ (has h = false → R w X E sv (.slice none 0 0))
  inj : ∀ y y' b, hoI ho y = none → hoI ho y' = none → us (encI y) = some b → us (encI y') = some b → y = y'
def MpiOK (w : World) (X : Nat → Prop) (kk : KK) (tot : Bool) (has : List Int → Bool) (val : List Int → SV) (es : Array MapEntry) : Prop :=
  MapOK kk es has ∧ (∀ l e, l.length = kk.len → e ∈ es.toList → e.key = keyV kk l → R w X E0 (val l) e.val) ∧ (tot = true → ∀ l, l.length = kk.len → has l = false → R w X E0 (val l) (.slice none 0 0))
def EIok (w : World) (X : Nat → Prop) (E : Env) : EI → SO → Prop
  | _, .dead => True
  | .blk b, .cells n g T => ∃ vs, w.heap[b]? = some (.cells vs T (0, 0)) ∧ vs.size = n ∧ ∀ i, i < n → oneCell (vs.getD i undef) ∧ R w X E (g i) (vs.getD i undef)
  | .blk b, .scells n g => ∃ vs T fr, w.heap[b]? = some (.cells vs T fr) ∧ ¬ X b ∧ vs.size = n ∧ ∀ i, i < n → oneCell (vs.getD i undef) ∧ R w X E0 (g i) (vs.getD i undef)
  | .slc ver v _, .row ver' len n g T => ver = ver' ∧ ∃ xs, OwnsR w T n v len xs ∧ ∀ i j, i < len → j < n → oneCell (xs.getD (i * n + j) undef) ∧ R w X E0 (g i j) (xs.getD (i * n + j) undef)
  | .slc ver v _, .srow ver' len n g => ver = ver' ∧ R w X E0 (.sl len n g) v
  | .slc ver v us, .deep ver' len n c m p g T T' ho => ver = ver' ∧ ∃ xs, DeepOK w X E v us len n c m p g T T' ho xs
  | .slc ver v _, .mpi kk tot has val => ver = 0 ∧ ∃ b es clock, v = .map (some b) ∧ w.heap[b]? = some (.map es clock) ∧ MpiOK w X kk tot has val es
  | .slc ver v us, .mps kd has c m p T' ho => ver = 0 ∧ ∃ b es clock, v = .map (some b) ∧ w.heap[b]? = some (.map es clock) ∧ MpsOK w X E us kd has c m p T' ho es
  | _, _ => False
/-- The blocks that an object keeps for the call alone. -/
def holds : EI → SO → Nat → Prop
  | .blk b, .cells .., x => b = x
  | .slc _ v _, .row .., x => blkOf v = some x
  | .slc _ v us, .deep _ len _ _ _ _ _ _ _ ho, x => blkOf v = some x ∨ ∃ i, i < len ∧ hoAt ho i = none ∧ us i = some x
  | .slc _ v _, .mpi .., x => mblk v = some x
  | .slc _ v us, .mps _ _ _ _ _ _ ho, x => mblk v = some x ∨ ∃ y, hoI ho y = none ∧ us (encI y) = some x
  | _, _, _ => False
/-- Where a call began: the blocks not to be looked at, those of the caller's that may turn, and the names that came with it. -/
structure Fr : Type where
  x : Nat → Prop
  d : Nat → Prop
  nm : Env
  marks : Bool
def Fr.of (X : Nat → Prop) : Fr := ⟨X, fun _ => False, E0, true⟩
/-- From where on marks of loops over functions lie; none: there are none (within a round, in an iterator). -/
def Fr.n0 (X : Fr) (w0 : World) : Option Nat := match X.marks with
  | true => some w0.heap.size
  | false => none
/-- What was there is as it was, but for the blocks that may turn. -/
structure Bel (D : Nat → Prop) (w w' : World) : Prop where
  os : w'.os = w.os
  tape : w'.tape = w.tape
  output : w'.output = w.output
  size : w.heap.size ≤ w'.heap.size
  block : ∀ k, k < w.heap.size → ¬ D k → w'.heap[k]? = w.heap[k]?
theorem Bel.refl (D : Nat → Prop) (w : World) : Bel D w w := ⟨rfl, rfl, rfl, Nat.le_refl _, fun _ _ _ => rfl⟩
theorem Bel.below {D : Nat → Prop} {a b c : World} (h : Bel D a b) (k : Below b.heap.size b c) : Bel D a c :=
  ⟨k.os.trans h.os, k.tape.trans h.tape, k.output.trans h.output, Nat.le_trans h.size k.size, fun i hi hd => (k.block i (Nat.lt_of_lt_of_le hi h.size)).trans (h.block i hi hd)⟩
theorem Bel.all {w w' : World} (h : Bel (fun _ => False) w w') : Below w.heap.size w w' := ⟨h.os, h.tape, h.output, h.size, fun k hk => h.block k hk id⟩
/-- A name that came with the call: the same block; a slice that is as it was while its version is 0. -/
def NmOK : EI → Option EI → Prop
  | .blk b, e => e = some (.blk b)
  | .slc _ v _, e => ∃ ver v' us', e = some (.slc ver v' us') ∧ (ver = 0 → v' = v)
theorem NmOK.le {E E' : Env} (le : E.le E') {e : EI} {k : Nat} (h : NmOK e (E k)) : NmOK e (E' k) := by
  cases e with
  | blk b => exact le.1 _ _ h
  | slc ver v us =>
    obtain ⟨ver1, v1, u1, h1, h2⟩ := h
    obtain ⟨ver2, v2, u2, h3, h4, h5⟩ := le.2 _ _ _ _ h1
    refine ⟨ver2, v2, u2, h3, fun hz => ?_⟩
    have : ver1 = 0 := by omega
    rw [← h2 this]
    exact (h5 (by omega)).symm
def Xo (X0 : Fr) (E : Env) (H : List SO) (b : Nat) : Prop := X0.x b ∨ ∃ k e, E k = some e ∧ holds e (H.getD k .dead) b
structure Rep (w0 : World) (X0 : Fr) (H : List SO) (E : Env) (w : World) : Prop where
  below : Bel X0.d w0 w
  x0 : ∀ b, X0.x b → b < w0.heap.size ∧ ¬ X0.d b
  nm : ∀ k e, X0.nm k = some e → NmOK e (E k)
  dom : ∀ k e, E k = some e → k < H.length
  ok : ∀ k e, E k = some e → EIok w (Xo X0 E H) E e (H.getD k .dead)
  low : ∀ k e b, E k = some e → holds e (H.getD k .dead) b → w0.heap.size ≤ b ∨ X0.d b
  inj : ∀ k k' e e' b, E k = some e → E k' = some e' → holds e (H.getD k .dead) b → holds e' (H.getD k' .dead) b → k = k'
theorem OwnsR.mono {w w' : World} {T n v len xs} (h : OwnsR w T n v len xs) (hb : ∀ b, (∃ a m c, v = .slice (some a) m (c + 1) ∧ a.block = b) → w'.heap[b]? = w.heap[b]?) : OwnsR w' T n v len xs := by
  rcases h with h | ⟨b, cap, cur, rfl, h1, h2⟩
  · exact .inl h
  · exact .inr ⟨b, cap, cur, rfl, (hb b ⟨_, _, _, rfl, rfl⟩).trans h1, h2⟩
theorem EIok.mono {w w' : World} {X X' : Nat → Prop} {E E' : Env} (hk : Keeps X w w') (hx : Within X X' w) (le : E.le E') {e : EI} {so : SO} (h : EIok w X E e so)
    (hb : ∀ b, holds e so b → w'.heap[b]? = w.heap[b]?) : EIok w' X' E' e so := by
  cases so with
  | dead => cases e <;> trivial
  | cells n g T =>
    cases e with
    | slc => exact h
    | blk b =>
      obtain ⟨vs, h1, h2, h3⟩ := h
      exact ⟨vs, (hb b rfl).trans h1, h2, fun i hi => ⟨(h3 i hi).1, (h3 i hi).2.mono hk hx le⟩⟩
  | scells n g =>
    cases e with
    | slc => exact h
    | blk b =>
      obtain ⟨vs, T, fr, h1, h2, h3, h4⟩ := h
      have hlt := lt_of_block h1
      exact ⟨vs, T, fr, (hk b hlt h2).trans h1, fun hx' => h2 (hx _ hlt hx'), h3, fun i hi => ⟨(h4 i hi).1, (h4 i hi).2.mono hk hx (Env.le_refl _)⟩⟩
  | row ver len n g T =>
    cases e with
    | blk => exact h
    | slc ver' v =>
      obtain ⟨h1, xs, h2, h3⟩ := h
      refine ⟨h1, xs, h2.mono fun b ⟨a, m, c, e1, e2⟩ => ?_, fun i j hi hj => ⟨(h3 i j hi hj).1, (h3 i j hi hj).2.mono hk hx (Env.le_refl _)⟩⟩
      subst e1; subst e2
      exact hb _ rfl
  | srow ver len n g =>
    cases e with
    | blk => exact h
    | slc ver' v => exact ⟨h.1, h.2.mono hk hx (Env.le_refl _)⟩
  | deep ver len n c m p g T T' ho =>
    cases e with
    | blk => exact h
    | slc ver' v us =>
      obtain ⟨h1, xs, d⟩ := h
      refine ⟨h1, xs, d.pos, d.own.mono fun b ⟨a, m, c, e1, e2⟩ => ?_, fun i j hi h0 hj => ⟨(d.rest i j hi h0 hj).1, (d.rest i j hi h0 hj).2.mono hk hx (Env.le_refl _)⟩, fun i sv hi hh => ⟨(d.out i sv hi hh).1, (d.out i sv hi hh).2.mono hk hx le⟩, fun i hi hh => ?_, d.apart, d.inj⟩
      · subst e1; subst e2
        exact hb _ (.inl rfl)
      · obtain ⟨g1, ys, g2, g3⟩ := d.inn i hi hh
        refine ⟨g1, ys, g2.mono fun b ⟨a, m, c, e1, e2⟩ => ?_, fun i' j hi' hj => ⟨(g3 i' j hi' hj).1, (g3 i' j hi' hj).2.mono hk hx (Env.le_refl _)⟩⟩
        rw [e1] at g1
        subst e2
        exact hb _ (.inr ⟨i, hi, hh, g1.symm⟩)
  | mpi kk tot has val =>
    cases e with
    | blk => exact h
    | slc ver' v us =>
      obtain ⟨h1, b, es, clock, rfl, h2, h3, h4, h5⟩ := h
      exact ⟨h1, b, es, clock, rfl, (hb b rfl).trans h2, h3, fun l e hl he hk' => (h4 l e hl he hk').mono hk hx (Env.le_refl _), fun ht l hl hh => (h5 ht l hl hh).mono hk hx (Env.le_refl _)⟩
  | mps kd has c m p T' ho =>
    cases e with
    | blk => exact h
    | slc ver' v us =>
      obtain ⟨h1, b, es, clock, rfl, h2, d⟩ := h
      refine ⟨h1, b, es, clock, rfl, (hb b (.inl rfl)).trans h2, d.map, fun y e he hk' hh => ?_, d.gone, fun hy sv fl hho => ?_, d.inj⟩
      · obtain ⟨g1, ys, g2, g3⟩ := d.inn y e he hk' hh
        refine ⟨g1, ys, g2.mono fun b' ⟨a, m', c', e1, e2⟩ => ?_, fun i' j hi' hj => ⟨(g3 i' j hi' hj).1, (g3 i' j hi' hj).2.mono hk hx (Env.le_refl _)⟩⟩
        rw [e1] at g1
        subst e2
        exact hb _ (.inr ⟨y, hh, g1.symm⟩)
      · obtain ⟨g1, g2, g3⟩ := d.out hy sv fl hho
        exact ⟨g1, fun e he hk' => (g2 e he hk').mono hk hx le, fun hz => (g3 hz).mono hk hx le⟩
theorem OwnsR.lt {w : World} {T n v len xs} (h : OwnsR w T n v len xs) {b : Nat} (hb : blkOf v = some b) : b < w.heap.size := by
  rcases h with ⟨a, rfl, _⟩ | ⟨b', cap, cur, rfl, h4, _⟩
  · cases a <;> simp [blkOf] at hb
  · simp only [blkOf, Option.some.injEq] at hb
    subst hb
    exact lt_of_block h4
theorem holds_lt {w : World} {X : Nat → Prop} {E : Env} {e : EI} {so : SO} (h : EIok w X E e so) {b : Nat} (hb : holds e so b) : b < w.heap.size := by
  cases so with
  | dead => cases e <;> simp [holds] at hb
  | cells n g T =>
    cases e with
    | slc => exact h.elim
    | blk b' =>
      simp only [holds] at hb
      subst hb
      obtain ⟨vs, h1, _⟩ := h
      exact lt_of_block h1
  | scells n g => cases e <;> simp [holds] at hb
  | row ver len n g T =>
    cases e with
    | blk => exact h.elim
    | slc ver' v =>
      obtain ⟨h1, xs, h2, h3⟩ := h
      exact h2.lt hb
  | srow ver len n g => cases e <;> simp [holds] at hb
  | deep ver len n c m p g T T' ho =>
    cases e with
    | blk => exact h.elim
    | slc ver' v us =>
      obtain ⟨h1, xs, d⟩ := h
      rcases hb with hb | ⟨i, hi, hh, hu⟩
      · exact d.own.lt hb
      · obtain ⟨g1, ys, g2, g3⟩ := d.inn i hi hh
        exact g2.lt (g1.trans hu)
  | mpi kk tot has val =>
    cases e with
    | blk => exact h.elim
    | slc ver' v us =>
      obtain ⟨h1, b', es, clock, rfl, h2, _⟩ := h
      simp only [holds, mblk, Option.some.injEq] at hb
      subst hb
      exact lt_of_block h2
  | mps kd has c m p T' ho =>
    cases e with
    | blk => exact h.elim
    | slc ver' v us =>
      obtain ⟨h1, b', es, clock, rfl, h2, d⟩ := h
      rcases hb with hb | ⟨y, hh, hu⟩
      · simp only [mblk, Option.some.injEq] at hb
        subst hb
        exact lt_of_block h2
      · cases hy : has y with
        | false => rw [(d.gone y hy).2] at hu; cases hu
        | true =>
          obtain ⟨e, he, hke⟩ := (d.map.iff [y] rfl).1 hy
          obtain ⟨g1, ys, g2, g3⟩ := d.inn y e he hke hh
          exact g2.lt (g1.trans hu)
theorem Rep.xlt {w0 X0 H E w} (h : Rep w0 X0 H E w) : ∀ b, Xo X0 E H b → b < w.heap.size := by
  rintro b (hb | ⟨k, e, he, hh⟩)
  · exact Nat.lt_of_lt_of_le (h.x0 b hb).1 h.below.size
  · exact holds_lt (h.ok k e he) hh
/-- The same heap of data, a world in which all that was there is there still. -/
theorem Rep.world {w0 X0 H E w w'} (h : Rep w0 X0 H E w) (hb : Below w.heap.size w w') : Rep w0 X0 H E w' := by
  refine ⟨h.below.below hb, h.x0, h.nm, h.dom, fun k e he => ?_, h.low, h.inj⟩
  exact (h.ok k e he).mono (fun b hlt _ => hb.block b hlt) (fun b _ hx => hx) (Env.le_refl _) fun b hh => hb.block b (holds_lt (h.ok k e he) hh)
theorem Rep.keeps {X : Nat → Prop} {w w' : World} (hb : Below w.heap.size w w') : Keeps X w w' := fun b hlt _ => hb.block b hlt
theorem Within.refl (X : Nat → Prop) (w : World) : Within X X w := fun _ _ h => h
theorem getD_append_left {α : Type} {l m : List α} {k : Nat} {d : α} (h : k < l.length) : (l ++ m).getD k d = l.getD k d := by
  simp only [List.getD_eq_getElem?_getD]
  rw [List.getElem?_append_left h]
theorem Xo_ext {X0 E} {H H' : List SO} (h : ∀ k e, E k = some e → H'.getD k .dead = H.getD k .dead) : Xo X0 E H' = Xo X0 E H := by
  funext b
  apply propext
  unfold Xo
  refine or_congr Iff.rfl ⟨fun ⟨k, e, he, hh⟩ => ⟨k, e, he, by rw [← h k e he]; exact hh⟩, fun ⟨k, e, he, hh⟩ => ⟨k, e, he, by rw [h k e he]; exact hh⟩⟩
/-- Objects that nobody knows yet. -/
theorem Rep.ext {w0 X0 H H' E w} (h : Rep w0 X0 H E w) (hl : H.length ≤ H'.length) (hh : ∀ k, k < H.length → H'.getD k .dead = H.getD k .dead) : Rep w0 X0 H' E w := by
  have hh' : ∀ k e, E k = some e → H'.getD k .dead = H.getD k .dead := fun k e he => hh k (h.dom k e he)
  refine ⟨h.below, h.x0, h.nm, fun k e he => Nat.lt_of_lt_of_le (h.dom k e he) hl, fun k e he => ?_, fun k e b he hb => ?_, fun k k' e e' b he he' hb hb' => ?_⟩
  · rw [Xo_ext hh', hh' k e he]; exact h.ok k e he
  · rw [hh' k e he] at hb; exact h.low k e b he hb
  · rw [hh' k e he] at hb; rw [hh' k' e' he'] at hb'; exact h.inj k k' e e' b he he' hb hb'
/-- E with one more name. -/
def Env.put (E : Env) (k : Nat) (e : EI) : Env := fun j => if j = k then some e else E j
theorem Env.put_same (E : Env) (k : Nat) (e : EI) : E.put k e k = some e := by simp [Env.put]
theorem Env.put_ne {E : Env} {k j : Nat} {e : EI} (h : j ≠ k) : E.put k e j = E j := by simp [Env.put, h]
theorem Env.le_put {E : Env} {k : Nat} {e : EI} (h : E k = none) : E.le (E.put k e) := by
  refine ⟨fun j b hj => ?_, fun j ver v us hj => ?_⟩
  · rw [Env.put_ne (fun e => by subst e; rw [h] at hj; cases hj)]; exact hj
  · exact ⟨ver, v, us, by rw [Env.put_ne (fun e => by subst e; rw [h] at hj; cases hj)]; exact hj, Nat.le_refl _, fun _ => rfl⟩
theorem heap_new' (w : World) (o : Obj) : (w.alloc o).heap[w.heap.size]? = some o := heap_alloc_new w o
theorem Below.allocs (w : World) (o : Obj) : Below w.heap.size w (w.alloc o) := (Below.refl _ _).alloc (Nat.le_refl _) o
/-- A new object takes its place: its name k was known to nobody. -/
theorem Rep.new {w0 X0 H E w w'} (h : Rep w0 X0 H E w) {k : Nat} {e : EI} (hk : E k = none) (hkl : k < H.length) (hb : Below w.heap.size w w')
    (hh : ∀ b, holds e (H.getD k .dead) b → w.heap.size ≤ b)
    (hok : EIok w' (Xo X0 (E.put k e) H) (E.put k e) e (H.getD k .dead)) :
    Rep w0 X0 H (E.put k e) w' ∧ Within (Xo X0 E H) (Xo X0 (E.put k e) H) w := by
  have hle : E.le (E.put k e) := Env.le_put hk
  have hw : Within (Xo X0 E H) (Xo X0 (E.put k e) H) w := by
    rintro b hlt (hx | ⟨j, e', hj, hh'⟩)
    · exact .inl hx
    · by_cases hjk : j = k
      · subst hjk
        rw [Env.put_same] at hj
        cases hj
        have := hh b hh'
        omega
      · rw [Env.put_ne hjk] at hj
        exact .inr ⟨j, e', hj, hh'⟩
  refine ⟨⟨h.below.below hb, h.x0, fun j e' hj => (h.nm j e' hj).le hle, fun j e' hj => ?_, fun j e' hj => ?_, fun j e' b hj hh' => ?_, fun j j' e1 e2 b hj hj' h1 h2 => ?_⟩, hw⟩
  · by_cases hjk : j = k
    · subst hjk; exact hkl
    · rw [Env.put_ne hjk] at hj; exact h.dom j e' hj
  · by_cases hjk : j = k
    · subst hjk
      rw [Env.put_same] at hj
      cases hj
      exact hok
    · rw [Env.put_ne hjk] at hj
      exact (h.ok j e' hj).mono (Rep.keeps hb) hw hle fun b hh' => hb.block b (holds_lt (h.ok j e' hj) hh')
  · by_cases hjk : j = k
    · subst hjk
      rw [Env.put_same] at hj
      cases hj
      have := hh b hh'
      have := h.below.size
      exact .inl (by omega)
    · rw [Env.put_ne hjk] at hj
      exact h.low j e' b hj hh'
  · by_cases hjk : j = k
    · by_cases hjk' : j' = k
      · omega
      · subst hjk
        rw [Env.put_same] at hj
        cases hj
        rw [Env.put_ne hjk'] at hj'
        have := hh b h1
        have := holds_lt (h.ok j' e2 hj') h2
        omega
    · by_cases hjk' : j' = k
      · subst hjk'
        rw [Env.put_same] at hj'
        cases hj'
        rw [Env.put_ne hjk] at hj
        have := hh b h2
        have := holds_lt (h.ok j e1 hj) h1
        omega
      · rw [Env.put_ne hjk] at hj
        rw [Env.put_ne hjk'] at hj'
        exact h.inj j j' e1 e2 b hj hj' h1 h2
end Go.Proofs.YthappngbapbkfaaDoor.Sx
/- An object of the call's own takes another content; objects are given away for reading; values as pure data. -/
namespace Go.Proofs.YthappngbapbkfaaDoor.Sx
open Go.RowKit
theorem getD_set_eq {α : Type} {l : List α} {k : Nat} {x d : α} (h : k < l.length) : (l.set k x).getD k d = x := by
  simp [List.getD_eq_getElem?_getD, h]
theorem getD_set_ne' {α : Type} {l : List α} {k j : Nat} {x d : α} (h : j ≠ k) : (l.set k x).getD j d = l.getD j d := by
  simp [List.getD_eq_getElem?_getD, Ne.symm h]
/-- What a step may do: of the blocks that were there, only the one that object k keeps for the call may turn. -/
theorem Rep.upd {w0 X0 H E w w'} (h : Rep w0 X0 H E w) {k : Nat} {e e' : EI} {so' : SO} (hk : E k = some e) (le : E.le (E.put k e'))
    (hb : ∀ b, b < w.heap.size → ¬ holds e (H.getD k .dead) b → w'.heap[b]? = w.heap[b]?)
    (hos : w'.os = w.os) (htape : w'.tape = w.tape) (hout : w'.output = w.output) (hsz : w.heap.size ≤ w'.heap.size)
    (hh : ∀ b, holds e' so' b → holds e (H.getD k .dead) b ∨ (w.heap.size ≤ b))
    (hok : Keeps (Xo X0 E H) w w' → Within (Xo X0 E H) (Xo X0 (E.put k e') (H.set k so')) w →
      (∀ b, holds e (H.getD k .dead) b → ¬ holds e' so' b → ¬ Xo X0 (E.put k e') (H.set k so') b) → EIok w' (Xo X0 (E.put k e') (H.set k so')) (E.put k e') e' so') :
    Rep w0 X0 (H.set k so') (E.put k e') w' ∧ Keeps (Xo X0 E H) w w' ∧ Within (Xo X0 E H) (Xo X0 (E.put k e') (H.set k so')) w := by
  have hkl : k < H.length := h.dom k e hk
  have ge : ∀ {j e1}, (E.put k e') j = some e1 → j ≠ k → E j = some e1 := fun hj hne => by rwa [Env.put_ne hne] at hj
  have hke : Keeps (Xo X0 E H) w w' := fun b hlt hX => hb b hlt fun hc => hX (.inr ⟨k, e, hk, hc⟩)
  have hwi : Within (Xo X0 E H) (Xo X0 (E.put k e') (H.set k so')) w := by
    rintro b hlt (hx | ⟨j, e1, hj, hj2⟩)
    · exact .inl hx
    · by_cases hjk : j = k
      · subst hjk
        rw [Env.put_same] at hj
        cases hj
        rw [getD_set_eq hkl] at hj2
        rcases hh b hj2 with h1 | h1
        · exact .inr ⟨j, e, hk, h1⟩
        · omega
      · rw [getD_set_ne' hjk] at hj2
        exact .inr ⟨j, e1, ge hj hjk, hj2⟩
  have hoth : ∀ j e1 b, j ≠ k → E j = some e1 → holds e1 (H.getD j .dead) b → w'.heap[b]? = w.heap[b]? := fun j e1 b hjk hj hj2 =>
    hb b (holds_lt (h.ok j e1 hj) hj2) fun hc => hjk (h.inj j k e1 e b hj hk hj2 hc)
  have hfree : ∀ b, holds e (H.getD k .dead) b → ¬ holds e' so' b → ¬ Xo X0 (E.put k e') (H.set k so') b := by
    rintro b h1 h2 (hx | ⟨j, e1, hj, hj2⟩)
    · have h3 := h.x0 b hx
      rcases h.low k e b hk h1 with h4 | h4
      · omega
      · exact h3.2 h4
    · by_cases hjk : j = k
      · subst hjk
        rw [Env.put_same] at hj
        cases hj
        rw [getD_set_eq hkl] at hj2
        exact h2 hj2
      · rw [getD_set_ne' hjk] at hj2
        exact hjk (h.inj j k e1 e b (ge hj hjk) hk hj2 h1)
  refine ⟨⟨⟨hos.trans h.below.os, htape.trans h.below.tape, hout.trans h.below.output, Nat.le_trans h.below.size hsz, fun b hlt hd => (hb b (Nat.lt_of_lt_of_le hlt h.below.size) fun hc => ?_).trans (h.below.block b hlt hd)⟩, h.x0, fun j e1 hj => (h.nm j e1 hj).le le, fun j e1 hj => ?_, fun j e1 hj => ?_, fun j e1 b hj hj2 => ?_, fun j j' e1 e2 b hj hj' h1 h2 => ?_⟩, hke, hwi⟩
  · rcases h.low k e b hk hc with h4 | h4
    · omega
    · exact hd h4
  · rw [List.length_set]
    by_cases hjk : j = k
    · subst hjk; exact hkl
    · exact h.dom j e1 (ge hj hjk)
  · by_cases hjk : j = k
    · subst hjk
      rw [Env.put_same] at hj
      cases hj
      rw [getD_set_eq hkl]
      exact hok hke hwi hfree
    · rw [getD_set_ne' hjk]
      exact (h.ok j e1 (ge hj hjk)).mono hke hwi le fun b hj2 => hoth j e1 b hjk (ge hj hjk) hj2
  · by_cases hjk : j = k
    · subst hjk
      rw [Env.put_same] at hj
      cases hj
      rw [getD_set_eq hkl] at hj2
      rcases hh b hj2 with h1 | h1
      · exact h.low j e b hk h1
      · exact .inl (Nat.le_trans h.below.size h1)
    · rw [getD_set_ne' hjk] at hj2
      exact h.low j e1 b (ge hj hjk) hj2
  · have key : ∀ j e1, j ≠ k → E j = some e1 → holds e1 (H.getD j .dead) b → holds e' so' b → False := fun j e1 hjk hj hj2 h2 => by
      rcases hh b h2 with h1 | h1
      · exact hjk (h.inj j k e1 e b hj hk hj2 h1)
      · have := holds_lt (h.ok j e1 hj) hj2
        omega
    by_cases hjk : j = k
    · by_cases hjk' : j' = k
      · omega
      · subst hjk
        rw [Env.put_same] at hj
        cases hj
        rw [getD_set_eq hkl] at h1
        rw [getD_set_ne' hjk'] at h2
        exact (key j' e2 hjk' (ge hj' hjk') h2 h1).elim
    · by_cases hjk' : j' = k
      · subst hjk'
        rw [Env.put_same] at hj'
        cases hj'
        rw [getD_set_eq hkl] at h2
        rw [getD_set_ne' hjk] at h1
        exact (key j e1 hjk (ge hj hjk) h1 h2).elim
      · rw [getD_set_ne' hjk] at h1
        rw [getD_set_ne' hjk'] at h2
        exact h.inj j j' e1 e2 b (ge hj hjk) (ge hj' hjk') h1 h2
theorem Env.put_self {E : Env} {k : Nat} {e : EI} (h : E k = some e) : E.put k e = E := by
  funext j
  by_cases hj : j = k
  · subst hj; rw [Env.put_same, h]
  · rw [Env.put_ne hj]
/-- As data that names nothing of the call's own. -/
def pur (H : List SO) : Nat → SV → Option SV
  | 0, _ => none
  | f + 1, sv => match sv with
    | .any => none
    | .own k off => match H.getD k .dead with
      | .scells n g => if off ≤ n then some (.ref (n - off) (fun j => g (off + j))) else none
      | _ => none
    | .osl k ver => match H.getD k .dead with
      | .srow ver' len n g => if ver = ver' then some (.sl len n g) else none
      | _ => none
    | .ownAt .. => none
    | .omap _ => none
    | .win k ver n lo len => match H.getD k .dead with
      | .srow ver' _ n' g => if ver = ver' ∧ n = n' then some (.sl len n (fun i j => g (lo + i) j)) else none
      | _ => none
    | .agg n g => if (List.range n).all (fun i => (pur H f (g i)).isSome) then some (.agg n (fun i => (pur H f (g i)).getD .any)) else none
    | .tup n g => if (List.range n).all (fun i => (pur H f (g i)).isSome) then some (.tup n (fun i => (pur H f (g i)).getD .any)) else none
    | .fn F n g => if (List.range n).all (fun i => (pur H f (g i)).isSome) then some (.fn F n (fun i => (pur H f (g i)).getD .any)) else none
    | .slP .. => none
    | .refP _ => none
    | .ifc T g => if (pur H f (g 0)).isSome = true then some (.ifc T (fun _ => (pur H f (g 0)).getD .any)) else none
    | s => some s
theorem ite_some {α : Type} {c : Prop} [Decidable c] {a b : α} (h : (if c then some a else none) = some b) : c ∧ a = b := by
  by_cases hc : c <;> simp [hc] at h
  exact ⟨hc, h⟩
theorem all_range {n : Nat} {p : Nat → Bool} (h : (List.range n).all p = true) {i : Nat} (hi : i < n) : p i = true :=
  List.all_eq_true.1 h i (List.mem_range.2 hi)
theorem isSome_getD {α : Type} {o : Option α} {d : α} (h : o.isSome = true) : o = some (o.getD d) := by cases o <;> simp_all
theorem pur_sound {w0 X0 H E w} (h : Rep w0 X0 H E w) : ∀ (f : Nat) (sv sv' : SV) (v : Value), pur H f sv = some sv' → R w (Xo X0 E H) E sv v → R w (Xo X0 E H) E0 sv' v := by
  intro f
  induction f with
  | zero => intro sv sv' v hp; simp [pur] at hp
  | succ f ih =>
    intro sv sv' v hp hr
    cases hr with
    | any => simp [pur] at hp
    | int => simp [pur] at hp; subst hp; exact .int
    | bool => simp [pur] at hp; subst hp; exact .bool
    | lit => simp [pur] at hp; subst hp; exact .lit
    | str => simp [pur] at hp; subst hp; exact .str
    | nilfn => simp [pur] at hp; subst hp; exact .nilfn
    | cap0 => simp [pur] at hp; subst hp; exact .cap0
    | con => simp [pur] at hp; subst hp; exact .con
    | slP => simp [pur] at hp
    | refP => simp [pur] at hp
    | ifc ho hr =>
      simp only [pur] at hp
      obtain ⟨ha, rfl⟩ := ite_some hp
      exact .ifc ho (ih _ _ _ (isSome_getD ha) hr)
    | omap => simp [pur] at hp
    | omapOld => simp [pur] at hp
    | fn hs hr =>
      simp only [pur] at hp
      obtain ⟨ha, rfl⟩ := ite_some hp
      exact .fn hs fun i hi => ih _ _ _ (isSome_getD (all_range ha hi)) (hr i hi)
    | agg hs ho hr =>
      simp only [pur] at hp
      obtain ⟨ha, rfl⟩ := ite_some hp
      exact .agg hs ho fun i hi => ih _ _ _ (isSome_getD (all_range ha hi)) (hr i hi)
    | tup hs hr =>
      simp only [pur] at hp
      obtain ⟨ha, rfl⟩ := ite_some hp
      exact .tup hs fun i hi => ih _ _ _ (isSome_getD (all_range ha hi)) (hr i hi)
    | sl0 => simp [pur] at hp; subst hp; exact .sl0
    | sl hb hX hc hl ho hr => simp [pur] at hp; subst hp; exact .sl hb hX hc hl ho hr
    | ref hb hX hc ho hr => simp [pur] at hp; subst hp; exact .ref hb hX hc ho hr
    | own he =>
      rename_i k off b
      simp only [pur] at hp
      have hok := h.ok k _ he
      generalize H.getD k .dead = so at hp hok
      cases so <;> simp only [reduceCtorEq] at hp
      rename_i n g
      obtain ⟨ha, rfl⟩ := ite_some hp
      obtain ⟨vs, T, fr, h1, h2, h3, h4⟩ := hok
      exact .ref h1 h2 (by omega) (fun j hj => (h4 (off + j) (by omega)).1) fun j hj => (h4 (off + j) (by omega)).2
    | osl he hv =>
      rename_i k ver us
      simp only [pur] at hp
      have hok := h.ok k _ he
      generalize H.getD k .dead = so at hp hok
      cases so <;> simp only [reduceCtorEq] at hp
      rename_i ver' len n g
      obtain ⟨ha, rfl⟩ := ite_some hp
      exact hok.2
    | oslOld he hlt hv =>
      rename_i k ver ver' v' us
      simp only [pur] at hp
      have hok := h.ok k _ he
      generalize H.getD k .dead = so at hp hok
      cases so <;> simp only [reduceCtorEq] at hp
      rename_i ver'' len n g
      obtain ⟨ha, rfl⟩ := ite_some hp
      have := hok.1
      omega
    | ownAt => simp [pur] at hp
    | ownAtOld => simp [pur] at hp
    | win he hl ha h0 =>
      rename_i k ver n lo len a a0 len0 cap0 us
      simp only [pur] at hp
      have hok := h.ok k _ he
      generalize H.getD k .dead = so at hp hok
      cases so <;> simp only [reduceCtorEq] at hp
      rename_i ver' len' n' g
      obtain ⟨⟨rfl, rfl⟩, rfl⟩ := ite_some hp
      by_cases hz : len = 0
      · subst hz; exact .sl0
      · have hr2 := hok.2
        cases hr2 with
        | sl0 => omega
        | sl hb hX hc hlc ho hr =>
          rename_i b o c T fr
          rw [ha hz]
          have hle := Nat.mul_le_mul_right n hl
          rw [Nat.add_mul] at hle
          have hadd : (some (⟨b, o, none⟩ : Addr)).map (·.add (lo * n)) = some ⟨b, o + lo * n, none⟩ := by rw [Option.map_some]; exact congrArg some (Addr.add_lit b o _)
          rw [hadd]
          have e1 : ∀ i j, o + lo * n + i * n + j = o + (lo + i) * n + j := fun i j => by rw [Nat.add_mul]; omega
          refine .sl hb hX (by omega) (by omega) (fun i j hi hj => ?_) fun i j hi hj => ?_
          · rw [e1]; exact ho _ _ (by omega) hj
          · rw [e1]; exact hr _ _ (by omega) hj
    | nilsl => simp [pur] at hp; subst hp; exact .nilsl
    | slN hr =>
      simp [pur] at hp
      subst hp
      refine .slN ?_
      cases hr with
      | sl0 => exact .sl0
      | sl hb hX hc hl ho hr => exact .sl hb hX hc hl ho hr
    | winOld he hlt hv =>
      rename_i k ver ver' v' n lo len us
      simp only [pur] at hp
      have hok := h.ok k _ he
      generalize H.getD k .dead = so at hp hok
      cases so <;> simp only [reduceCtorEq] at hp
      rename_i ver'' len' n' g
      obtain ⟨⟨rfl, rfl⟩, rfl⟩ := ite_some hp
      have := hok.1
      omega
theorem holds_srow (e : EI) (ver len n : Nat) (g : Nat → Nat → SV) : ∀ b, ¬ holds e (.srow ver len n g) b := fun b h => by
  cases e <;> exact h
theorem holds_row (v : Value) (us us' : Nat → Option Nat) (a b l n a' b' l' n' : Nat) (g g' : Nat → Nat → SV) (T T' : TypeId) : holds (.slc a v us) (.row b l n g T) = holds (.slc a' v us') (.row b' l' n' g' T') := rfl
/-- The content of a deep slice, as data. -/
def deepG (c : Nat) (m : Nat → Nat) (p : Nat → Nat → Nat → SV) (g : Nat → Nat → SV) (i j : Nat) : SV := match j with
  | 0 => .sl (m i) c (p i)
  | j + 1 => g i (j + 1)
/-- An object given away for reading. -/
def frz (H : List SO) (k : Nat) : Option (List SO) :=
  match H.getD k .dead with
  | .cells n g _ => if (List.range n).all (fun i => (pur H 6 (g i)).isSome) then some (H.set k (.scells n (fun i => (pur H 6 (g i)).getD .any))) else none
  | .row ver len n g _ => some (H.set k (.srow ver len n g))
  | .scells .. => some H
  | .srow .. => some H
  | .deep ver len n c m p g _ _ ho => match ho with
    | none => some (H.set k (.srow ver len n (deepG c m p g)))
    | some _ => none
  | .mpi .. => none
  | .mps .. => none
  | .dead => none
theorem OwnsR.toSl {w : World} {X : Nat → Prop} {E : Env} {T n v len xs g} (h : OwnsR w T n v len xs)
    (hX : ∀ b, blkOf v = some b → ¬ X b)
    (hr : ∀ i j, i < len → j < n → oneCell (xs.getD (i * n + j) undef) ∧ R w X E0 (g i j) (xs.getD (i * n + j) undef)) : R w X E (.sl len n g) v := by
  rcases h with ⟨a, rfl, rfl, rfl⟩ | ⟨b, cap, cur, rfl, h1, h2, h3, h4, h5, h6⟩
  · exact .sl0
  · have hle : len * n ≤ (cap + 1) * n := Nat.mul_le_mul_right _ h2
    have key : ∀ i j, i < len → j < n → cur.getD (0 + i * n + j) undef = xs.getD (i * n + j) undef := by
      intro i j hi hj
      have hlt : i * n + j < len * n := by
        have : (i + 1) * n ≤ len * n := Nat.mul_le_mul_right _ hi
        rw [Nat.add_mul] at this
        omega
      subst h5
      rw [Nat.zero_add, Array.getD_eq_getD_getElem?, List.getD_eq_getElem?_getD, List.getElem?_take, if_pos hlt, Array.getElem?_toList]
    refine .sl h1 (hX b rfl) (by omega) h2 (fun i j hi hj => ?_) fun i j hi hj => ?_
    · rw [key i j hi hj]; exact (hr i j hi hj).1
    · rw [key i j hi hj]; exact (hr i j hi hj).2
theorem Rep.frz {w0 X0 H E w} (h : Rep w0 X0 H E w) {k : Nat} {H' : List SO} (hf : frz H k = some H') {e : EI} (hk : E k = some e) :
    Rep w0 X0 H' E w ∧ Within (Xo X0 E H) (Xo X0 E H') w := by
  have hok := h.ok k e hk
  unfold Sx.frz at hf
  have go : ∀ so', (∀ b, ¬ holds e so' b) → H' = H.set k so' →
      (Keeps (Xo X0 E H) w w → Within (Xo X0 E H) (Xo X0 E (H.set k so')) w → (∀ b, holds e (H.getD k .dead) b → ¬ Xo X0 E (H.set k so') b) → EIok w (Xo X0 E (H.set k so')) E e so') →
      Rep w0 X0 H' E w ∧ Within (Xo X0 E H) (Xo X0 E H') w := by
    intro so' hn he hgo
    subst he
    have hu := h.upd (w' := w) (e' := e) (so' := so') hk (by rw [Env.put_self hk]; exact Env.le_refl _) (fun _ _ _ => rfl) rfl rfl rfl (Nat.le_refl _)
      (fun b hb => (hn b hb).elim) (fun a b c => by rw [Env.put_self hk] at *; exact hgo a b fun b' hb' => c b' hb' (hn b'))
    rw [Env.put_self hk] at hu
    exact ⟨hu.1, hu.2.2⟩
  generalize hs : H.getD k .dead = so at hf hok
  cases so with
  | dead => simp at hf
  | mpi => simp at hf
  | mps => simp at hf
  | scells n g => simp at hf; subst hf; exact ⟨h, Within.refl _ _⟩
  | srow => simp at hf; subst hf; exact ⟨h, Within.refl _ _⟩
  | cells n g T =>
    simp only at hf
    obtain ⟨ha, rfl⟩ := ite_some hf
    cases e with
    | slc => exact hok.elim
    | blk b =>
      obtain ⟨vs, h1, h2, h3⟩ := hok
      have hno : ∀ b', ¬ holds (.blk b) (.scells n (fun i => (pur H 6 (g i)).getD .any)) b' := fun _ hb => hb
      refine go _ hno rfl fun hke hwi hfree => ⟨vs, T, _, h1, hfree b (by rw [hs]; rfl), h2, fun i hi => ⟨(h3 i hi).1, ?_⟩⟩
      exact (pur_sound h 6 _ _ _ (isSome_getD (all_range ha hi)) (h3 i hi).2).mono hke hwi (Env.le_refl _)
  | row ver len n g T =>
    simp only at hf
    cases hf
    cases e with
    | blk => exact hok.elim
    | slc ver' v =>
      obtain ⟨h1, xs, h2, h3⟩ := hok
      refine go _ (holds_srow _ _ _ _ _) rfl fun hke hwi hfree => ⟨h1, h2.toSl (T := T) (fun b hb => hfree b ?_) fun i j hi hj => ⟨(h3 i j hi hj).1, (h3 i j hi hj).2.mono hke hwi (Env.le_refl _)⟩⟩
      rw [hs]
      exact hb
  | deep ver len n c m p g T T' ho =>
    simp only at hf
    split at hf
    case h_2 => cases hf
    cases hf
    cases e with
    | blk => exact hok.elim
    | slc ver' v us =>
      obtain ⟨h1, xs, d⟩ := hok
      refine go _ (holds_srow _ _ _ _ _) rfl fun hke hwi hfree => ⟨h1, d.own.toSl (T := T) (fun b hb => hfree b ?_) fun i j hi hj => ?_⟩
      · rw [hs]; exact .inl hb
      · cases j with
        | succ j =>
          have := d.rest i (j + 1) hi (Nat.succ_pos _) hj
          exact ⟨this.1, this.2.mono hke hwi (Env.le_refl _)⟩
        | zero =>
          obtain ⟨g1, ys, g2, g3⟩ := d.inn i hi rfl
          rw [Nat.add_zero]
          refine ⟨?_, g2.toSl (T := T') (fun b hb => hfree b ?_) fun i' j' hi' hj' => ⟨(g3 i' j' hi' hj').1, (g3 i' j' hi' hj').2.mono hke hwi (Env.le_refl _)⟩⟩
          · rcases g2 with ⟨a, e1, _⟩ | ⟨b', cap, cur, e1, _⟩ <;> rw [e1] <;> rfl
          · rw [hs]; exact .inr ⟨i, hi, rfl, g1 ▸ hb⟩
end Go.Proofs.YthappngbapbkfaaDoor.Sx
