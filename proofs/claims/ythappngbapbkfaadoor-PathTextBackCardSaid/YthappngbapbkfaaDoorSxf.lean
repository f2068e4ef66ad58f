import Derived.Test.YthappngbapbkfaaDoorSxc
/- What each operation yields, as data: the evaluation of an operation over symbolic values. -/
namespace Go.Proofs.YthappngbapbkfaaDoor.Sx
open Go.RowKit
universe u
/-- Something asked: it stops the kernel's reckoning. -/
structure Ask (p : Prop) : Prop where
  out : p
theorem ask_iff {p : Prop} : Ask p ↔ p := ⟨Ask.out, Ask.mk⟩
/-- p 0 and .. and p (n - 1). -/
def allN : Nat → (Nat → Prop) → Prop
  | 0, _ => True
  | n + 1, p => allN n p ∧ p n
theorem allN_get {p : Nat → Prop} : ∀ {n : Nat}, allN n p → ∀ i, i < n → p i
  | 0, _, i, hi => absurd hi (Nat.not_lt_zero _)
  | n + 1, h, i, hi => by
    by_cases hc : i = n
    · subst hc; exact h.2
    · exact allN_get h.1 i (by omega)
/-- The value's head is reckoned before one goes on. -/
def force {α : Sort u} (s : SV) (k : SV → α) : α :=
  match s with
  | .any => k .any
  | .int a n => k (.int a n)
  | .bool b => k (.bool b)
  | .lit b => k (.lit b)
  | .str x => k (.str x)
  | .nilfn => k .nilfn
  | .cap0 => k .cap0
  | .fn f n g => k (.fn f n g)
  | .agg n g => k (.agg n g)
  | .tup n g => k (.tup n g)
  | .sl len n g => k (.sl len n g)
  | .ref n g => k (.ref n g)
  | .own a o => k (.own a o)
  | .osl a v => k (.osl a v)
  | .ownAt a v i n o => k (.ownAt a v i n o)
  | .win a v n l m => k (.win a v n l m)
  | .nilsl => k .nilsl
  | .slN len n g => k (.slN len n g)
  | .con v => k (.con v)
  | .omap a => k (.omap a)
  | .slP n g => k (.slP n g)
  | .refP g => k (.refP g)
  | .ifc T g => k (.ifc T g)
theorem force_eq {α : Sort u} (s : SV) (k : SV → α) : force s k = k s := by cases s <;> rfl
def forceO {α : Sort u} (s : SO) (k : SO → α) : α :=
  match s with
  | .dead => k .dead
  | .cells n g T => k (.cells n g T)
  | .scells n g => k (.scells n g)
  | .row v l n g T => k (.row v l n g T)
  | .srow v l n g => k (.srow v l n g)
  | .deep v l n c m p g T T' ho => k (.deep v l n c m p g T T' ho)
  | .mpi kk t h v => k (.mpi kk t h v)
  | .mps kd h c m p T' ho => k (.mps kd h c m p T' ho)
theorem forceO_eq {α : Sort u} (s : SO) (k : SO → α) : forceO s k = k s := by cases s <;> rfl
def forceH {α : Sort u} (H : List SO) (k : List SO → α) : α :=
  match H with
  | [] => k []
  | s :: r => forceO s fun s => forceH r fun r => k (s :: r)
theorem forceH_eq {α : Sort u} : ∀ (H : List SO) (k : List SO → α), forceH H k = k H
  | [], k => rfl
  | s :: r, k => by simp only [forceH, forceO_eq]; exact forceH_eq r _
/-! Types: what the evaluation asks of the program's table. -/
/-- Cells, and whether it is an aggregate. -/
def tinf (P : Program) (t : TypeId) : Option (Nat × Bool) :=
  match P.info? t, P.underlying t with
  | some i, some d => some (i.size, match d with | .struct _ | .array _ _ => true | _ => false)
  | _, _ => none
/-- Field f: offset, size, aggregate. -/
def tfld (P : Program) (t : TypeId) (f : Nat) : Option (Nat × Nat × Bool) :=
  match P.underlying t with
  | some (.struct fs) => match fs[f]? with
    | some fd => match tinf P fd.type with
      | some (s, a) => some (fd.offset, s, a)
      | none => none
    | none => none
  | _ => none
/-- All fields' offsets and sizes. -/
def tflds (P : Program) (t : TypeId) : Option (List (Nat × Nat)) :=
  match P.underlying t with
  | some (.struct fs) => fs.toList.mapM (fun f => (P.info? f.type).map fun i => (f.offset, i.size))
  | _ => none
/-- An array: its length, an element's size, aggregate. -/
def tarr (P : Program) (t : TypeId) : Option (Nat × Nat × Bool) :=
  match P.underlying t with
  | some (.array len e) => match tinf P e with
    | some (s, a) => some (len, s, a)
    | none => none
  | _ => none
/-- The zero value's cells. -/
def tzero (P : Program) (t : TypeId) : Option (List Value) :=
  match P.info? t with
  | some i => match i.zero with
    | some z => if z.cells.size = i.size ∧ z.cells.toList.all (·.oneCell') = true then some z.cells.toList else none
    | none => none
  | none => none
/-- A slice: the element's type, its cells, its bytes. -/
def tsl (P : Program) (t : TypeId) : Option (TypeId × Nat × Nat) :=
  match P.underlying t with
  | some (.slice e) => match P.info? e with
    | some i => some (e, i.size, i.bytes)
    | none => none
  | _ => none
def tint (P : Program) (t : TypeId) : Option IntKind :=
  match P.underlying t with
  | some (.int k) => some k
  | _ => none
/-- It names nothing of the call's own. -/
def isPure : Nat → SV → Bool
  | 0, _ => false
  | f + 1, sv => match sv with
    | .own .. => false
    | .osl .. => false
    | .ownAt .. => false
    | .win .. => false
    | .omap _ => false
    | .agg n g => (List.range n).all fun i => isPure f (g i)
    | .tup n g => (List.range n).all fun i => isPure f (g i)
    | .fn _ n g => (List.range n).all fun i => isPure f (g i)
    | .slP .. => false
    | .refP _ => false
    | .ifc _ g => isPure f (g 0)
    | _ => true
def ofV : Value → SV
  | .int k n => .int k n
  | .bool b => .lit b
  | .string s => .str s
  | .slice none 0 0 => .cap0
  | .nilFunc => .nilfn
  | _ => .any
abbrev Tmps := List (Nat × SV)
def lookT : Tmps → Nat → SV
  | [], _ => .any
  | (k, s) :: r, t => if k = t then s else lookT r t
def evO (N : Nat) (τ : Tmps) : Operand → SV
  | .tmp t => if t < N then lookT τ t else .any
  | .const v => ofV v
  | .func f => .fn f 0 (fun _ => .any)
  | .global _ => .any
/-- The cells of a value (as Value.cells). -/
def cellsOf : SV → Option (Nat × (Nat → SV))
  | .agg n g => some (n, g)
  | .any => none
  | .con _ => none
  | .tup .. => none
  | s => some (1, fun _ => s)
def i64ok (n : Int) : Prop := -9223372036854775808 ≤ n ∧ n ≤ 9223372036854775807
/-- int is asked to hold the number; the other kinds wrap. -/
def inK (k : IntKind) (n : Int) : Prop := match k with | .i64 => i64ok n | _ => True
def fitK (k : IntKind) (n : Int) : Int := match k with | .i64 => n | k => k.wrap n
inductive Eff : Type
  | keep
  | new (so : SO)
  | sets (l : List (Nat × SO))
/-- What an operation yields: what is asked, the value, what becomes of the objects. -/
structure Yd : Type where
  ask : Prop
  val : SV
  eff : Eff
def pureY (s : SV) : Option Yd := some ⟨True, s, .keep⟩
def binI (op : BinOp) (k : IntKind) (x y : Int) : Option Yd :=
  match op with
  | .add => some ⟨Ask (inK k (x + y)), .int k (fitK k (x + y)), .keep⟩
  | .sub => some ⟨Ask (inK k (x - y)), .int k (fitK k (x - y)), .keep⟩
  | .mul => some ⟨Ask (inK k (x * y)), .int k (fitK k (x * y)), .keep⟩
  | .quo => some ⟨Ask (y ≠ 0 ∧ inK k (x.tdiv y)), .int k (fitK k (x.tdiv y)), .keep⟩
  | .rem => some ⟨Ask (y ≠ 0), .int k (x.tmod y), .keep⟩
  | .and => pureY (.int k (bits .and k x y))
  | .or => pureY (.int k (bits .or k x y))
  | .xor => pureY (.int k (bits .xor k x y))
  | .andNot => pureY (.int k (bits .andNot k x y))
  | .eql => pureY (.bool (decide (x = y)))
  | .neq => pureY (.bool (decide (x ≠ y)))
  | .lss => pureY (.bool (decide (x < y)))
  | .leq => pureY (.bool (decide (x ≤ y)))
  | .gtr => pureY (.bool (decide (y < x)))
  | .geq => pureY (.bool (decide (y ≤ x)))
  | _ => none
def shI (op : BinOp) (k : IntKind) (x y : Int) : Option Yd :=
  match op with
  | .shl => some ⟨Ask ((0 ≤ y ∧ y ≤ k.bits) ∧ inK k (x * 2 ^ y.toNat)), .int k (fitK k (x * 2 ^ y.toNat)), .keep⟩
  | .shr => some ⟨Ask (0 ≤ y ∧ y ≤ k.bits), .int k (x / 2 ^ y.toNat), .keep⟩
  | _ => none
/-- A Bool, known or not. -/
def asB : SV → Option Bool
  | .bool b => some b
  | .lit b => some b
  | _ => none
/-- The kind of a plain cell. -/
inductive CK : Type
  | int
  | bool
  | str
def eqC (k : CK) (s r : SV) : Option Bool :=
  match k with
  | .int => match s, r with
    | .int k a, .int k' b => if k = k' then some (decide (a = b)) else none
    | _, _ => none
  | .bool => match asB s, asB r with
    | some a, some b => some (a == b)
    | _, _ => none
  | .str => match s, r with
    | .str a, .str b => some (a.toList == b.toList)
    | _, _ => none
/-- Two rows of plain cells, one by one. -/
def eqCells (g h : Nat → SV) : List CK → Nat → Option Bool
  | [], _ => some true
  | k :: ks, i => match eqC k (g i) (h i), eqCells g h ks (i + 1) with
    | some c, some t => some (c && t)
    | _, _ => none
def findE : List (TypeId × List CK) → TypeId → Option (List CK)
  | [], _ => none
  | (t, ks) :: r, u => if t = u then some ks else findE r u
def isSh : BinOp → Bool
  | .shl => true
  | .shr => true
  | _ => false
def tbool (P : Program) (t : TypeId) : Bool := match P.underlying t with | some .bool => true | _ => false
def tfunc (P : Program) (t : TypeId) : Bool := match P.underlying t with | some (.func ..) => true | _ => false
def evEqB (op : BinOp) (b : Bool) : Option Yd :=
  match op with
  | .eql => pureY (.bool b)
  | .neq => pureY (.bool !b)
  | _ => none
/-- k: the operands' type compares as a bool, as a function; eqs: the aggregates that compare cell by cell. -/
def ev2 (op : BinOp) (eqs : List (TypeId × List CK)) (kb kf : Bool) (t : TypeId) (x y : SV) : Option Yd :=
  match x, y with
  | .int k a, .int k' b => if isSh op = true then shI op k a b else if k = k' then binI op k a b else none
  | .str a, .str b => evEqB op (a.toList == b.toList)
  | .fn .., .nilfn => if kf = true then evEqB op false else none
  | .nilfn, .nilfn => if kf = true then evEqB op true else none
  | .agg n g, .agg m h => match findE eqs t with
    | some ks => if n = ks.length ∧ m = n then match eqCells g h ks 0 with
        | some b => evEqB op b
        | none => none
      else none
    | none => none
  | x, y => match asB x, asB y with
    | some a, some b => if kb = true then evEqB op (a == b) else none
    | _, _ => none
/-- A slice held against nil. -/
def evNilC (op : BinOp) (x : SV) : Option Yd :=
  match x with
  | .nilsl => match op with
    | .eql => pureY (.lit true)
    | .neq => pureY (.lit false)
    | _ => none
  | .slN .. => match op with
    | .eql => pureY (.lit false)
    | .neq => pureY (.lit true)
    | _ => none
  | _ => none
def isNilO : Operand → Bool
  | .const v => match v with
    | .slice a _ _ => a.isNone
    | _ => false
  | _ => false
def ev1 (op : UnOp) (x : SV) : Option Yd :=
  match op, x with
  | .not, .bool b => pureY (.bool !b)
  | .not, .lit b => pureY (.lit !b)
  | .neg, .int k n => some ⟨Ask (inK k (0 - n)), .int k (fitK k (0 - n)), .keep⟩
  | _, _ => none
def ld (ti : Nat × Bool) (n : Nat) (g : Nat → SV) (off : Nat) : Option SV :=
  if ti.2 = true then (if off + ti.1 ≤ n then some (.agg ti.1 (fun j => g (off + j))) else none)
  else if off < n then some (g off) else none
/-- A bound; without unknowns it is reckoned out. -/
def Fit (a b : Nat) : Prop := match decide (a ≤ b) with
  | true => True
  | false => False
theorem Fit.le {a b : Nat} (h : Fit a b) : a ≤ b := by
  unfold Fit at h
  cases hd : decide (a ≤ b) with
  | true => exact of_decide_eq_true hd
  | false => rw [hd] at h; exact h.elim
def ldn (ti : Nat × Bool) : Nat := match ti.2 with
  | true => ti.1
  | false => 1
def ldv (ti : Nat × Bool) (g : Nat → SV) (off : Nat) : SV := match ti.2 with
  | true => .agg ti.1 (fun j => g (off + j))
  | false => g off
theorem ld_of {ti : Nat × Bool} {n : Nat} {g : Nat → SV} {off : Nat} (h : off + ldn ti ≤ n) : ld ti n g off = some (ldv ti g off) := by
  obtain ⟨m, a⟩ := ti
  cases a with
  | true => simp only [ld, ldv, ldn, if_true] at h ⊢; rw [if_pos h]
  | false => simp only [ld, ldv, ldn, Bool.false_eq_true, if_false] at h ⊢; rw [if_pos (by omega)]
/-- The cells of an element whose first cell has been taken out. -/
def hcell (sv : SV) (f : Nat → SV) (j : Nat) : SV := match j with
  | 0 => sv
  | j + 1 => f (j + 1)
def evLoad (ti : Nat × Bool) (H : List SO) : SV → Option Yd
  | .own k off => match H.getD k .dead with
    | .cells n g _ => some ⟨Fit (off + ldn ti) n, ldv ti g off, .keep⟩
    | .scells n g => some ⟨Fit (off + ldn ti) n, ldv ti g off, .keep⟩
    | _ => none
  | .ref n g => some ⟨Fit (0 + ldn ti) n, ldv ti g 0, .keep⟩
  | .refP g => (ld ti 1 (fun _ => g 0) 0).map fun s => ⟨True, s, .keep⟩
  | .ownAt k ver i m off => match H.getD k .dead with
    | .row ver' len n g _ => if ver = ver' ∧ m = n then (ld ti n (g i) off).map fun s => ⟨Ask (i < len), s, .keep⟩ else none
    | .srow ver' len n g => if ver = ver' ∧ m = n then (ld ti n (g i) off).map fun s => ⟨Ask (i < len), s, .keep⟩ else none
    | .deep ver' len n _ _ _ g _ _ ho => if ver = ver' ∧ m = n then (match off with
      | 0 => match ho with
        | some (h, sv) => (ld ti n (hcell sv (g i)) 0).map fun s => ⟨Ask (i < len ∧ h = i), s, .keep⟩
        | none => none
      | o + 1 => (ld ti (n - 1) (fun j => g i (j + 1)) o).map fun s => ⟨Ask (i < len), s, .keep⟩) else none
    | _ => none
  | _ => none
/-- One of two symbols; of two integers, or two bools, the choice is made within. -/
def selS (c : Bool) (a b : SV) : SV := match a, b with
  | .int k x, .int k' y => if k = k' then .int k (cond c x y) else cond c (.int k x) (.int k' y)
  | .bool x, .bool y => .bool (cond c x y)
  | .str x, .str y => .str (cond c x y)
  | .lit x, .lit y => match x, y with
    | true, true => .lit true
    | false, false => .lit false
    | x, y => cond c (.lit x) (.lit y)
  | .sl l n g, .sl m n' h => if n = n' then .sl (cond c l m) n (fun i j => selS c (g i j) (h i j)) else cond c (.sl l n g) (.sl m n' h)
  | a, b => cond c a b
theorem selS_eq {c : Bool} : ∀ {a b : SV}, selS c a b = cond c a b := by
  intro a
  induction a with
  | sl l n g ih =>
    intro b
    cases b <;> first | (simp only [selS]; done) | skip
    rename_i m n' h
    simp only [selS]
    split
    · rename_i hn
      subst hn
      cases c with
      | true => simp only [cond_true]; congr; funext i j; exact ih i j
      | false => simp only [cond_false]; congr; funext i j; exact ih i j
    · rfl
  | int k x =>
    intro b
    cases b <;> first | (simp only [selS]; done) | skip
    simp only [selS]
    split
    · rename_i h; subst h; cases c <;> rfl
    · rfl
  | bool x => intro b; cases b <;> first | (simp only [selS]; done) | (cases c <;> rfl)
  | str x => intro b; cases b <;> first | (simp only [selS]; done) | (cases c <;> rfl)
  | lit x =>
    intro b
    cases b <;> first | (simp only [selS]; done) | skip
    rename_i y
    cases x <;> cases y <;> cases c <;> rfl
  | _ => intro b; simp only [selS]
def updF (g : Nat → SV) (off m : Nat) (f : Nat → SV) (j : Nat) : SV := selS (decide (off ≤ j ∧ j < off + m)) (f (j - off)) (g j)
def updR (g : Nat → Nat → SV) (i off m : Nat) (f : Nat → SV) (i' j : Nat) : SV := selS (decide (i' = i ∧ off ≤ j ∧ j < off + m)) (f (j - off)) (g i' j)
def evStore (ti : Nat × Bool) (H : List SO) (addr val : SV) : Option Yd :=
  match cellsOf val with
  | some (m, f) => if m = ti.1 then match addr with
    | .own k off => match H.getD k .dead with
      | .cells n g T => match Nat.beq m n with
        | true => some ⟨Fit (off + m) n, .any, .sets [(k, .cells n f T)]⟩ -- a write of the whole
        | false => some ⟨Fit (off + m) n, .any, .sets [(k, .cells n (updF g off m f) T)]⟩
      | _ => none
    | .ownAt k ver i m' off => match H.getD k .dead with
      | .row ver' len n g T => if (ver = ver' ∧ m' = n ∧ off + m ≤ n) ∧ (List.range m).all (fun j => isPure 6 (f j)) = true then
          some ⟨Ask (i < len), .any, .sets [(k, .row ver len n (updR g i off m f) T)]⟩ else none
      | .deep ver' len n c mm p g T T' ho => match ho with
        | some q => if ver = ver' ∧ m' = n ∧ off = 0 ∧ m = 1 then
            some ⟨Ask (i < len ∧ q.1 = i), .any, .sets [(k, .deep ver len n c mm p g T T' (some (q.1, f 0)))]⟩ else none
        | none => none
      | _ => none
    | _ => none
    else none
  | none => none
def evFieldAddr (fd : Nat × Nat × Bool) : SV → Option Yd
  | .own k o => if fd.2.1 = 0 then none else pureY (.own k (o + fd.1))
  | .ref n g => if fd.2.1 = 0 ∨ n < fd.1 then none else pureY (.ref (n - fd.1) (fun j => g (fd.1 + j)))
  | .ownAt k ver i n o => if fd.2.1 = 0 then none else pureY (.ownAt k ver i n (o + fd.1))
  | _ => none
def part (ti : Nat × Bool) (n : Nat) (g : Nat → SV) (off : Nat) : Option SV := ld ti n g off
def inLen (i : Int) (len : Nat) : Prop := 0 ≤ i ∧ i < len
def evIndexAddrS (es : Nat) (H : List SO) (i : Int) : SV → Option Yd
  | .sl len n g => if n = es then some ⟨Ask (inLen i len), .ref n (g i.toNat), .keep⟩ else none
  | .osl k ver => match H.getD k .dead with
    | .row ver' len n _ _ => if ver = ver' ∧ n = es then some ⟨Ask (inLen i len), .ownAt k ver i.toNat n 0, .keep⟩ else none
    | .srow ver' len n g => if ver = ver' ∧ n = es then some ⟨Ask (inLen i len), .ref n (g i.toNat), .keep⟩ else none
    | .deep ver' len n _ _ _ _ _ _ _ => if ver = ver' ∧ n = es then some ⟨Ask (inLen i len), .ownAt k ver i.toNat n 0, .keep⟩ else none
    | _ => none
  | .slP n g => if es = 1 then some ⟨Ask (inLen i n), .refP (fun _ => g i.toNat), .keep⟩ else none
  | .win k ver m lo l => match H.getD k .dead with
    | .row ver' _ n _ _ => if (ver = ver' ∧ m = n) ∧ n = es then some ⟨Ask (inLen i l), .ownAt k ver (lo + i.toNat) n 0, .keep⟩ else none
    | _ => none
  | _ => none
def evIndexAddrA (len es : Nat) (i : Int) : SV → Option Yd
  | .own k o => some ⟨Ask (inLen i len), .own k (o + i.toNat * es), .keep⟩
  | .ref n g => if len * es ≤ n then some ⟨Ask (inLen i len), .ref (n - i.toNat * es) (fun j => g (i.toNat * es + j)), .keep⟩ else none
  | .ownAt k ver x n o => some ⟨Ask (inLen i len), .ownAt k ver x n (o + i.toNat * es), .keep⟩
  | _ => none
def slAsk (len : Nat) (lo hi mx : Option Int) : Prop := 0 ≤ lo.getD 0 ∧ lo.getD 0 ≤ hi.getD len ∧ hi.getD len ≤ mx.getD len ∧ mx.getD len ≤ len
def evSlice (es : Nat) (H : List SO) (lo hi mx : Option Int) : SV → Option Yd
  | .sl len n g => if n = es ∧ (mx.isSome = true → hi.isSome = true) then some ⟨Ask (slAsk len lo hi mx), .sl (hi.getD len - lo.getD 0).toNat n (fun i j => g ((lo.getD 0).toNat + i) j), .keep⟩ else none
  | .osl k ver => match H.getD k .dead with
    | .srow ver' len n g => if ver = ver' ∧ n = es ∧ (mx.isSome = true → hi.isSome = true) then some ⟨Ask (slAsk len lo hi mx), .sl (hi.getD len - lo.getD 0).toNat n (fun i j => g ((lo.getD 0).toNat + i) j), .keep⟩ else none
    | .row ver' len n _ _ => if ver = ver' ∧ n = es ∧ mx.isSome = false then some ⟨Ask (slAsk len lo hi none), .win k ver n (lo.getD 0).toNat (hi.getD len - lo.getD 0).toNat, .keep⟩ else none
    | .deep ver' len n _ _ _ _ _ _ _ => if ver = ver' ∧ n = es ∧ mx.isSome = false then some ⟨Ask (slAsk len lo hi none), .win k ver n (lo.getD 0).toNat (hi.getD len - lo.getD 0).toNat, .keep⟩ else none
    | _ => none
  | .win k ver m lo0 len => match H.getD k .dead with
    | .row ver' _ n _ _ => if (ver = ver' ∧ m = n) ∧ n = es ∧ mx.isSome = false then some ⟨Ask (slAsk len lo hi none), .win k ver n (lo0 + (lo.getD 0).toNat) (hi.getD len - lo.getD 0).toNat, .keep⟩ else none
    | _ => none
  | _ => none
/-- 's[:0:0]'. -/
def evCut0 : SV → Option Yd
  | .sl .. => pureY .cap0
  | .cap0 => pureY .cap0
  | _ => none
/-- A source of append: length, cells of an element, content. -/
def srcOf (H : List SO) : SV → Option (Nat × Nat × (Nat → Nat → SV))
  | .sl len n g => some (len, n, g)
  | .slN len n g => some (len, n, g)
  | .osl k ver => match H.getD k .dead with
    | .row ver' len n g _ => if ver = ver' then some (len, n, g) else none
    | .srow ver' len n g => if ver = ver' then some (len, n, g) else none
    | _ => none
  | .win k ver m lo len => match H.getD k .dead with
    | .row ver' _ n g _ => if ver = ver' ∧ m = n then some (len, n, fun i j => g (lo + i) j) else none
    | _ => none
  | _ => none
def lenOf (H : List SO) : SV → Option Nat
  | .cap0 => some 0
  | .nilsl => some 0
  | .win _ _ _ _ len => some len
  | .str s => some s.size
  | .slP n _ => some n
  | .osl k ver => match H.getD k .dead with
    | .deep ver' len _ _ _ _ _ _ _ _ => if ver = ver' then some len else none
    | _ => (srcOf H (.osl k ver)).map (·.1)
  | s => (srcOf H s).map (·.1)
def appG (len : Nat) (g h : Nat → Nat → SV) (i j : Nat) : SV := selS (decide (i < len)) (g i j) (h (i - len) j)
/-- A slice's room: 2^47 bytes. -/
def room (n b : Nat) : Prop := n ≤ 9223372036854775807 ∧ n * b ≤ 140737488355328
def notRef (k : Nat) : SV → Bool
  | .osl k2 _ => k2 != k
  | .win k2 _ _ _ _ => k2 != k
  | _ => true
def foldI (f : Int → Int → Int) (k : IntKind) : Int → List SV → Option Yd
  | a, [] => pureY (.int k a)
  | a, .int k' b :: r => if k = k' then foldI f k (f a b) r else none
  | _, _ :: _ => none
def evMin (f : Int → Int → Int) : List SV → Option Yd
  | .int k a :: r => foldI f k a r
  | _ => none
def evConvert (k : IntKind) : SV → Option Yd
  | .int _ n => some ⟨Ask (inK k n), .int k (fitK k n), .keep⟩
  | _ => none
def evIndex (ai : Nat × Nat × Bool) (i : Int) : SV → Option Yd
  | .agg n g => if n = ai.1 * ai.2.1 then
      (if ai.2.2 = true then some ⟨Ask (inLen i ai.1), .agg ai.2.1 (fun j => g (i.toNat * ai.2.1 + j)), .keep⟩
       else if ai.2.1 = 1 then some ⟨Ask (inLen i ai.1), g i.toNat, .keep⟩ else none) else none
  | _ => none
/-- The type of strings. -/
def tstr (P : Program) (t : TypeId) : Bool := match P.underlying t with
  | some .string => true
  | _ => false
/-- A byte of a string. -/
def _root_.Go.Proofs.YthappngbapbkfaaDoor.byteAt (s : ByteArray) (i : Nat) : Int := ((s.data.getD i 0).toNat : Int)
def evIndexB (i : Int) : SV → Option Yd
  | .str s => some ⟨Ask (inLen i s.size), .int .u8 (byteAt s i.toNat), .keep⟩
  | _ => none
def evLenB : SV → Option Yd
  | .str s => pureY (.int .i64 (s.size : Int))
  | _ => none
def evField (fd : Nat × Nat × Bool) : SV → Option Yd
  | .agg n g => (ld (fd.2.1, fd.2.2) n g fd.1).map fun s => ⟨True, s, .keep⟩
  | _ => none
def evExtract (i : Nat) : SV → Option Yd
  | .tup n g => if i < n then pureY (g i) else none
  | _ => none
def evNil (s : SV) : Option Yd :=
  match s with
  | .own .. => pureY s
  | .ref .. => pureY s
  | .ownAt .. => pureY s
  | .fn .. => pureY s
  | _ => none
/-- An element is added to a deep slice: out of a slice of one, whose first cell has been taken out. -/
def evAppendD (te : TypeId × Nat × Nat) (H : List SO) (s x : SV) : Option Yd :=
  match s with
  | .osl k ver => match x with
    | .osl k2 ver2 => match H.getD k .dead with
      | .deep ver' len n c m p g T T' ho => match H.getD k2 .dead with
        | .deep ver2' len2 n2 _ _ _ g2 _ _ ho2 => match ho with
          | none => match ho2 with
            | some (h2, sv) => if ((ver = ver' ∧ ver2 = ver2') ∧ n = n2 ∧ n = te.2.1 ∧ T = te.1) ∧ (len2 = 1 ∧ h2 = 0) then
                some ⟨Ask (room (len + 1) te.2.2), .osl k (ver + 1), .sets [(k, .deep (ver + 1) (len + 1) n c m p (appG len g g2) T T' (some (len, sv)))]⟩ else none
            | none => none
          | some _ => none
        | _ => none
      | _ => none
    | _ => none
  | _ => none
def evAppend (te : TypeId × Nat × Nat) (H : List SO) (nm : Nat) (s x : SV) : Option Yd :=
  match srcOf H x with
  | some (len2, n2, h) => if n2 = te.2.1 ∧ 0 < n2 then match s with
    | .osl k ver => match H.getD k .dead with
      | .row ver' len n g T => if (ver = ver' ∧ n = n2 ∧ T = te.1) ∧ notRef k x = true then
          some ⟨Ask (room (len + len2) te.2.2), .osl k (ver + 1), .sets [(k, .row (ver + 1) (len + len2) n (appG len g h) T)]⟩ else none
      | .deep ver' len n c m p g T T' ho => match ho with
        | none => if ((ver = ver' ∧ n = n2 ∧ T = te.1) ∧ len2 = 1) ∧ isPure 6 (h 0 0) = true then
            some ⟨Ask (room (len + 1) te.2.2), .osl k (ver + 1), .sets [(k, .deep (ver + 1) (len + 1) n c m p (appG len g h) T T' (some (len, h 0 0)))]⟩ else none
        | some _ => none
      | _ => none
    | .cap0 => some ⟨Ask (room len2 te.2.2), .osl nm 0, .new (.row 0 len2 n2 h te.1)⟩
    | _ => none
    else none
  | none => evAppendD te H s x
/-- The content of a slice behind a copy of m elements to the place lo. -/
def cpyG (lo m : Nat) (g h : Nat → Nat → SV) (i j : Nat) : SV := selS (decide (lo ≤ i ∧ i < lo + m)) (h (i - lo) j) (g i j)
def evCopy (te : TypeId × Nat × Nat) (H : List SO) (d x : SV) : Option Yd :=
  match srcOf H x with
  | some (len2, n2, h) => match d with
    | .osl k ver => match H.getD k .dead with
      | .row ver' len n g T => if ((ver = ver' ∧ n = n2) ∧ n2 = te.2.1 ∧ 0 < n2) ∧ notRef k x = true then
          some ⟨True, .int .i64 (Nat.min len2 len : Nat), .sets [(k, .row ver len n (cpyG 0 (Nat.min len2 len) g h) T)]⟩ else none
      | _ => none
    | .win k ver m lo wl => match H.getD k .dead with
      | .row ver' len n g T => if ((ver = ver' ∧ n = n2 ∧ m = n) ∧ n2 = te.2.1 ∧ 0 < n2) ∧ notRef k x = true then
          some ⟨True, .int .i64 (Nat.min len2 wl : Nat), .sets [(k, .row ver len n (cpyG lo (Nat.min len2 wl) g h) T)]⟩ else none
      | _ => none
    | _ => none
  | none => none
/-- The element that is zero. -/
def zeroR (z : List Value) (_ j : Nat) : SV := ofV (z.getD j undef)
/-- 'clear' of a part of an own slice. -/
def evClear (te : TypeId × Nat × Nat) (z : List Value) (H : List SO) : SV → Option Yd
  | .win k ver m lo wl => match H.getD k .dead with
    | .row ver' len n g T => if (ver = ver' ∧ m = n) ∧ (n = te.2.1 ∧ 0 < n) ∧ z.length = n then
        some ⟨True, .tup 0 (fun _ => .any), .sets [(k, .row ver len n (cpyG lo wl g (zeroR z)) T)]⟩ else none
    | _ => none
  | _ => none
/-- Parts laid into n cells. -/
def fillS (place : Nat → Option (Nat × Nat)) (n : Nat) : (Nat → SV) → List (Nat × SV) → Option (Nat → SV)
  | g, [] => some g
  | g, (i, s) :: r => match place i, cellsOf s with
    | some (off, sz), some (m, f) => if m = sz ∧ off + m ≤ n then fillS place n (updF g off m f) r else none
    | _, _ => none
def zeroF (z : List Value) (i : Nat) : SV := ofV (z.getD i undef)
def evBuildS (z : List Value) (fl : List (Nat × Nat)) (parts : List (Nat × SV)) : Option Yd :=
  match fillS (fun i => fl[i]?) z.length (zeroF z) parts with
  | some g => pureY (.agg z.length g)
  | none => none
def evBuildA (z : List Value) (es : Nat) (parts : List (Nat × SV)) : Option Yd :=
  match fillS (fun i => some (i * es, es)) z.length (zeroF z) parts with
  | some g => pureY (.agg z.length g)
  | none => none
/-- Element i of a slice that is written out: a choice among its elements. -/
def pickG (n : Nat) (g : Nat → SV) : Nat → Nat → Nat → SV
  | 0, _, _ => .any
  | m + 1, i, j => match m with
    | 0 => g j
    | _ => selS (decide (i = m)) (g (m * n + j)) (pickG n g m i j)
/-- A slice of one element that begins with something of the call's own. -/
def evBuildD (te : TypeId × Nat × Nat) (z : List Value) (nm len : Nat) (g : Nat → SV) : Option Yd := match len with
  | 1 => if z.length = te.2.1 ∧ 0 < te.2.1 ∧ te.2.1 ≤ 16777216 ∧ (List.range te.2.1).all (fun k => Nat.beq k 0 || isPure 6 (g k)) = true then
      some ⟨True, .osl nm 0, .new (.deep 0 1 te.2.1 0 (fun _ => 0) (fun _ _ _ => .any) (fun _ => g) te.1 te.1 (some (0, g 0)))⟩ else none
  | _ => none
/-- A slice of two or more values of one cell, some of which refer to what is the call's own. -/
def evBuildP (te : TypeId × Nat × Nat) (z : List Value) (len : Nat) (g : Nat → SV) : Option Yd :=
  if z.length = te.2.1 ∧ te.2.1 = 1 ∧ 1 < len ∧ len ≤ 1024 then some ⟨True, .slP len g, .keep⟩ else none
/-- A slice written out: every element given, none of them refers to what is the call's own. One of two elements or more is given away at once. -/
def evBuildSlice (te : TypeId × Nat × Nat) (z : List Value) (nm len : Nat) (parts : List (Nat × SV)) : Option Yd :=
  match fillS (fun i => some (i * te.2.1, te.2.1)) (len * te.2.1) (fun k => zeroF z (k % z.length)) parts with
  | some g => if z.length = te.2.1 ∧ 0 < te.2.1 ∧ len ≤ 1024 ∧ len * te.2.1 ≤ 16777216 ∧ (List.range (len * te.2.1)).all (fun k => isPure 6 (g k)) = true then
      some (match Nat.blt 1 len with
        | true => ⟨True, .sl len te.2.1 (pickG te.2.1 g len), .keep⟩
        | false => ⟨True, .osl nm 0, .new (.row 0 len te.2.1 (pickG te.2.1 g len) te.1)⟩) else (match Nat.blt 1 len with
        | true => evBuildP te z len g
        | false => evBuildD te z nm len g)
  | none => none
def evMakeSlice (te : TypeId × Nat × Nat) (z : List Value) (nm : Nat) (l c : Int) : Option Yd :=
  if z.length = te.2.1 ∧ 0 < te.2.1 then some ⟨Ask (0 ≤ l ∧ l ≤ c ∧ (te.2.2 : Int) * c ≤ 140737488355328 ∧ c ≤ 9223372036854775807), .osl nm 0, .new (.row 0 l.toNat te.2.1 (zeroR z) te.1)⟩ else none
/-! Maps. -/
def tmap (P : Program) (t : TypeId) : Option (TypeId × TypeId) := match P.underlying t with
  | some (.map k e) => some (k, e)
  | _ => none
/-- A type's zero value. -/
def tzv (P : Program) (t : TypeId) : Option Value := match P.info? t with
  | some i => i.zero
  | none => none
/-- The kind of a key's type. -/
def kkOf (P : Program) (k : TypeId) : Option KK := match P.underlying k with
  | some (.int q) => some (.one q)
  | some (.array n e) => match P.underlying e with
    | some (.int q) => match P.info? e with
      | some i => if i.size = 1 then some (.arr n q) else none
      | none => none
    | _ => none
  | _ => none
def keyL (q : IntKind) (g : Nat → SV) : List Nat → Option (List Int)
  | [] => some []
  | i :: r => match g i with
    | .int q' x => if q' = q then match keyL q g r with
        | some l => some (x :: l)
        | none => none
      else none
    | _ => none
/-- The numbers of a key. -/
def keyS (kk : KK) (s : SV) : Option (List Int) := match kk with
  | .one q => match s with
    | .int q' x => if q' = q then some [x] else none
    | _ => none
  | .arr n q => match s with
    | .agg m g => if m = n then keyL q g (List.range n) else none
    | _ => none
def putH (has : List Int → Bool) (l : List Int) (x : List Int) : Bool := decide (x = l) || has x
def putV (val : List Int → SV) (l : List Int) (v : SV) (x : List Int) : SV := selS (decide (x = l)) v (val x)
def putI (has : Int → Bool) (y : Int) (x : Int) : Bool := decide (x = y) || has x
def evMakeMap (P : Program) (t : TypeId) (nm : Nat) : Option Yd := match tmap P t with
  | some (k, e) => match kkOf P k with
    | some kk => match tsl P e with
      | some te => match kk with
        | .one q => some ⟨True, .omap nm, .new (.mps q (fun _ => false) te.2.1 (fun _ => 0) (fun _ _ _ => .any) te.1 none)⟩
        | _ => none
      | none => some ⟨True, .omap nm, .new (.mpi kk false (fun _ => false) (fun _ => .any))⟩
    | none => none
  | none => none
/-- Two values: the element, and whether it was there. -/
def okPair (v : SV) (b : Bool) (i : Nat) : SV := match i with
  | 0 => v
  | _ => .bool b
def evLookup (kk : KK) (z : SV) (H : List SO) (x idx : SV) (ok : Bool) : Option Yd := match x with
  | .omap k => match H.getD k .dead with
    | .mpi kk' tot has val => if kk' = kk then match keyS kk idx with
        | some l => match tot with
          | true => match ok with
            | true => none
            | false => match z with
              | .cap0 => some ⟨True, val l, .keep⟩
              | _ => none
          | false => match ok with
            | true => some ⟨True, .tup 2 (okPair (selS (has l) (val l) z) (has l)), .keep⟩
            | false => some ⟨True, selS (has l) (val l) z, .keep⟩
        | none => none
      else none
    | .mps kd has c m p T' ho => match ok with
      | true => none
      | false => match ho with
        | some q => match keyS kk idx with
          | some l => match z with
            | .cap0 => if kk = .one kd then some ⟨Ask (q.1 = l.getD 0 0), q.2.1, .keep⟩ else none
            | _ => none
          | none => none
        | none => none
    | _ => none
  | _ => none
def evMapUpd (kk : KK) (H : List SO) (x idx v : SV) : Option Yd := match x with
  | .omap k => match H.getD k .dead with
    | .mpi kk' tot has val => if kk' = kk then match keyS kk idx with
        | some l => if isPure 6 v = true then some ⟨True, .any, .sets [(k, .mpi kk tot (putH has l) (putV val l v))]⟩ else none
        | none => none
      else none
    | .mps kd has c m p T' ho => match ho with
      | some q => match keyS kk idx with
        | some l => if kk = .one kd then some ⟨Ask (q.1 = l.getD 0 0), .any, .sets [(k, .mps kd (putI has q.1) c m p T' (some (q.1, v, true)))]⟩ else none
        | none => none
      | none => none
    | _ => none
  | _ => none
/-- A specification of a function: of its arguments' data and the objects, what is asked, what it answers and what becomes of the objects (eff: of those that were there). The number: the name of a new object. -/
structure FSpec : Type where
  f : FuncId
  eff : Bool
  run : List SV → List SO → Nat → Option Yd
def findS (specs : List FSpec) (f : FuncId) : Option FSpec :=
  match specs with
  | [] => none
  | s :: r => if s.f = f then some s else findS r f
/-- What has to be given away for a value to become pure. -/
def needs (H : List SO) : Nat → SV → List Nat
  | 0, _ => []
  | f + 1, sv => match sv with
    | .own k _ => match H.getD k .dead with
      | .cells n g _ => ((List.range n).flatMap fun i => needs H f (g i)) ++ [k]
      | _ => []
    | .osl k _ => match H.getD k .dead with
      | .row .. => [k]
      | .deep .. => [k]
      | _ => []
    | .win k _ _ _ _ => match H.getD k .dead with
      | .row .. => [k]
      | .deep .. => [k]
      | _ => []
    | .agg n g => (List.range n).flatMap fun i => needs H f (g i)
    | .tup n g => (List.range n).flatMap fun i => needs H f (g i)
    | .fn _ n g => (List.range n).flatMap fun i => needs H f (g i)
    | .ifc _ g => needs H f (g 0)
    | _ => []
/-- The object as it is when given away. -/
def frzO (H : List SO) (k : Nat) : Option SO :=
  match H.getD k .dead with
  | .cells n g _ => if (List.range n).all (fun i => (pur H 6 (g i)).isSome) then some (.scells n (fun i => (pur H 6 (g i)).getD .any)) else none
  | .row ver len n g _ => some (.srow ver len n g)
  | .deep ver len n c m p g _ _ ho => match ho with
    | none => some (.srow ver len n (deepG c m p g))
    | some _ => none
  | _ => none
def frzAll : List SO → List Nat → Option (List (Nat × SO))
  | _, [] => some []
  | H, k :: r => match frzO H k with
    | some so => (frzAll (H.set k so) r).map fun l => (k, so) :: l
    | none => frzAll H r
def applyS (H : List SO) (l : List (Nat × SO)) : List SO := l.foldl (fun H p => H.set p.1 p.2) H
def evCall (specs : List FSpec) (f : FuncId) (H : List SO) (nm : Nat) (args : List SV) : Option Yd :=
  match findS specs f with
  | some s => match s.run args H nm with
    | some y => match y.eff with
      | .sets _ => match s.eff with
        | true => some y
        | false => none
      | _ => some y
    | none => none
  | none => none
end Go.Proofs.YthappngbapbkfaaDoor.Sx
/- The evaluation tells the truth: values, loads, addresses. -/
namespace Go.Proofs.YthappngbapbkfaaDoor.Sx
open Go.RowKit
def appE (H : List SO) : Eff → List SO
  | .keep => H
  | .new _ => H
  | .sets l => applyS H l
/-- Behind an operation: a value that sv stands for, in a memory that holds the objects as the effect says. -/
def Goes (w0 : World) (X0 : Fr) (H : List SO) (E : Env) (w : World) (nm : Nat) (eff : Eff) (sv : SV) (v : Value) (w' : World) : Prop :=
  ∃ E' : Env, E.le E' ∧ Keeps (Xo X0 E H) w w' ∧ Within (Xo X0 E H) (Xo X0 E' (appE H eff)) w ∧ Rep w0 X0 (appE H eff) E' w' ∧ R w' (Xo X0 E' (appE H eff)) E' sv v ∧
    ∀ k, E' k ≠ none → E k ≠ none ∨ (k = nm ∧ ∃ so, eff = .new so)
/-- What is asked of the place of a new object. -/
def Free (H : List SO) (E : Env) (nm : Nat) (eff : Eff) : Prop := ∀ so, eff = .new so → E nm = none ∧ nm < H.length ∧ H.getD nm .dead = so
theorem Goes.pure {w0 X0 H E w nm sv v} (h : Rep w0 X0 H E w) (hr : R w (Xo X0 E H) E sv v) : Goes w0 X0 H E w nm .keep sv v w :=
  ⟨E, Env.le_refl _, fun _ _ _ => rfl, Within.refl _ _, h, hr, fun _ hk => .inl hk⟩
theorem Goes.world {w0 X0 H E w w' nm sv v} (h : Rep w0 X0 H E w) (hb : Below w.heap.size w w') (hr : R w' (Xo X0 E H) E sv v) : Goes w0 X0 H E w nm .keep sv v w' :=
  ⟨E, Env.le_refl _, Rep.keeps hb, Within.refl _ _, h.world hb, hr, fun _ hk => .inl hk⟩
theorem isPure_sound {w X E} : ∀ (f : Nat) (sv : SV) (v : Value), isPure f sv = true → R w X E sv v → R w X E0 sv v := by
  intro f
  induction f with
  | zero => intro sv v hp; simp [isPure] at hp
  | succ f ih =>
    intro sv v hp hr
    cases hr with
    | any => exact .any
    | int => exact .int
    | bool => exact .bool
    | lit => exact .lit
    | str => exact .str
    | nilfn => exact .nilfn
    | cap0 => exact .cap0
    | fn hs hr => exact .fn hs fun i hi => ih _ _ (all_range hp hi) (hr i hi)
    | agg hs ho hr => exact .agg hs ho fun i hi => ih _ _ (all_range hp hi) (hr i hi)
    | tup hs hr => exact .tup hs fun i hi => ih _ _ (all_range hp hi) (hr i hi)
    | sl0 => exact .sl0
    | sl hb hX hc hl ho hr => exact .sl hb hX hc hl ho hr
    | ref hb hX hc ho hr => exact .ref hb hX hc ho hr
    | own => simp [isPure] at hp
    | osl => simp [isPure] at hp
    | oslOld => simp [isPure] at hp
    | ownAt => simp [isPure] at hp
    | ownAtOld => simp [isPure] at hp
    | win => simp [isPure] at hp
    | winOld => simp [isPure] at hp
    | con => exact .con
    | slP => simp [isPure] at hp
    | refP => simp [isPure] at hp
    | ifc ho hr => exact .ifc ho (ih _ _ hp hr)
    | omap => simp [isPure] at hp
    | omapOld => simp [isPure] at hp
    | nilsl => exact .nilsl
    | slN hr =>
      refine .slN ?_
      cases hr with
      | sl0 => exact .sl0
      | sl hb hX hc hl ho hr => exact .sl hb hX hc hl ho hr
theorem tinf_spec {P : Program} {t : TypeId} {n : Nat} {a : Bool} (h : tinf P t = some (n, a)) (w : World) : (isAgg t).run P w = .ok a w ∧ (sizeOf t).run P w = .ok n w := by
  unfold tinf at h
  cases hi : P.info? t with
  | none => simp [hi] at h
  | some i =>
    cases hd : P.underlying t with
    | none => simp [hi, hd] at h
    | some d =>
      simp only [hi, hd, Option.some.injEq, Prod.mk.injEq] at h
      obtain ⟨rfl, rfl⟩ := h
      refine ⟨?_, by simp [sizeOf, typeInfo, hi]⟩
      cases d <;> simp [isAgg, run_underlying hd]
theorem ofV_sound {w X E} (v : Value) : R w X E (ofV v) v := by
  unfold ofV
  split
  · exact .int
  · exact .lit
  · exact .str
  · exact .cap0
  · exact .nilfn
  · exact .any
/-- The marks that loops over functions have left in a frame: blocks from n0 on that nobody else holds. -/
def DefOK (n0 : Option Nat) (w : World) (X : Nat → Prop) (ds : List Deferred) : Prop :=
  (n0 = none → ds = []) ∧ ds.Pairwise (· ≠ ·) ∧ ∀ d ∈ ds, ∃ D, d = { target := .collected D, args := #[] } ∧ (∀ n, n0 = some n → n ≤ D) ∧ w.heap[D]? = some (.deferred (some [])) ∧ ¬ X D
theorem DefOK.nil (n0 : Option Nat) (w : World) (X : Nat → Prop) : DefOK n0 w X [] := ⟨fun _ => rfl, List.Pairwise.nil, fun _ h => (nomatch h)⟩
theorem DefOK.mono {n0 w w' X X' ds} (h : DefOK n0 w X ds) (hk : Keeps X w w') (hx : Within X X' w) : DefOK n0 w' X' ds := by
  refine ⟨h.1, h.2.1, fun d hd => ?_⟩
  obtain ⟨D, h1, h2, h3, h4⟩ := h.2.2 d hd
  have hlt := lt_of_block h3
  exact ⟨D, h1, h2, (hk D hlt h4).trans h3, fun hc => h4 (hx D hlt hc)⟩
/-- The frame's temporaries as the evaluation has them. -/
def TR (n0 : Option Nat) (w : World) (X : Nat → Prop) (E : Env) (N : Nat) (τ : Tmps) (a : Act) : Prop := a.tmps.size = N ∧ DefOK n0 w X a.defers ∧ ∀ t, t < N → R w X E (lookT τ t) (a.tmps.getD t undef)
theorem evO_sound {n0 w X E N τ a} (h : TR n0 w X E N τ a) (x : Operand) : R w X E (evO N τ x) (a.eval x) := by
  cases x with
  | tmp t =>
    simp only [evO, Act.eval]
    split
    · exact h.2.2 t ‹_›
    · exact .any
  | const v => exact ofV_sound v
  | global g => exact .any
  | func f => exact .fn rfl fun i hi => by omega
theorem Array.getD_eq_getD {α : Type} (a : Array α) (i : Nat) (d : α) : a.getD i d = a[i]?.getD d := by
  simp [Array.getD_eq_getD_getElem?]
theorem cellsOf_sound {w X E sv v n g} (h : R w X E sv v) (hc : cellsOf sv = some (n, g)) :
    v.cells.size = n ∧ ∀ i, i < n → oneCell (v.cells.getD i undef) ∧ R w X E (g i) (v.cells.getD i undef) := by
  have one : ∀ {sv v}, R w X E sv v → v.cells = #[v] → oneCell v → some (1, fun (_ : Nat) => sv) = some (n, g) → v.cells.size = n ∧ ∀ i, i < n → oneCell (v.cells.getD i undef) ∧ R w X E (g i) (v.cells.getD i undef) := by
    intro sv v hr hv ho hc
    simp only [Option.some.injEq, Prod.mk.injEq] at hc
    obtain ⟨rfl, rfl⟩ := hc
    rw [hv]
    refine ⟨rfl, fun i hi => ?_⟩
    obtain rfl : i = 0 := by omega
    exact ⟨ho, hr⟩
  cases h with
  | any => simp [cellsOf] at hc
  | tup => simp [cellsOf] at hc
  | agg hs ho hr =>
    simp only [cellsOf, Option.some.injEq, Prod.mk.injEq] at hc
    obtain ⟨rfl, rfl⟩ := hc
    exact ⟨hs, fun i hi => ⟨ho i hi, hr i hi⟩⟩
  | int => exact one .int rfl rfl hc
  | bool => exact one .bool rfl rfl hc
  | lit => exact one .lit rfl rfl hc
  | str => exact one .str rfl rfl hc
  | nilfn => exact one .nilfn rfl rfl hc
  | cap0 => exact one .cap0 rfl rfl hc
  | fn hs hr => exact one (.fn hs hr) rfl rfl hc
  | sl0 => exact one .sl0 rfl rfl hc
  | sl hb hX hc' hl ho hr => exact one (.sl hb hX hc' hl ho hr) rfl rfl hc
  | ref hb hX hc' ho hr => exact one (.ref hb hX hc' ho hr) rfl rfl hc
  | own he => exact one (.own he) rfl rfl hc
  | osl he hv => obtain ⟨a, n', c, rfl⟩ := hv; exact one (.osl he ⟨_, _, _, rfl⟩) rfl rfl hc
  | oslOld he hl hv => obtain ⟨a, n', c, rfl⟩ := hv; exact one (.oslOld he hl ⟨_, _, _, rfl⟩) rfl rfl hc
  | ownAt he => exact one (.ownAt he) rfl rfl hc
  | ownAtOld he hl hv => obtain ⟨a, o, rfl⟩ := hv; exact one (.ownAtOld he hl ⟨_, _, rfl⟩) rfl rfl hc
  | win he hl ha h0 => exact one (.win he hl ha h0) rfl rfl hc
  | nilsl => exact one .nilsl rfl rfl hc
  | slN hr => exact one (.slN hr) rfl rfl hc
  | winOld he hl hv => obtain ⟨a, c, rfl⟩ := hv; exact one (.winOld he hl ⟨_, _, rfl⟩) rfl rfl hc
  | con => simp [cellsOf] at hc
  | slP hb hX hc' hl ho hr => exact one (.slP hb hX hc' hl ho hr) rfl rfl hc
  | refP hb hX hc' ho hr => exact one (.refP hb hX hc' ho hr) rfl rfl hc
  | ifc ho hr => exact one (.ifc ho hr) rfl rfl hc
  | omap he => exact one (.omap he) rfl rfl hc
  | omapOld he hl => exact one (.omapOld he hl) rfl rfl hc
theorem addr_add (b o n : Nat) : (⟨b, o, none⟩ : Addr).add n = ⟨b, o + n, none⟩ := Addr.add_lit b o n
theorem cell_block {w : World} {b o : Nat} {c : Array Value} {T : TypeId} {fr : Nat × Nat} (h : w.heap[b]? = some (.cells c T fr)) (ho : o < c.size) : w.cell? ⟨b, o, none⟩ = some (c.getD o undef) := by
  rw [cell_of_row w b o c T fr h]
  simp [Array.getD, ho]
/-- A read of a variable of n cells, or of one. -/
theorem run_ld {P : Program} {w : World} {X : Nat → Prop} {E : Env} {t : TypeId} {ti : Nat × Bool} (ht : tinf P t = some ti) {b o n off : Nat} {c : Array Value} {T : TypeId} {fr : Nat × Nat} {g : Nat → SV} {s : SV}
    (hb : w.heap[b]? = some (.cells c T fr)) (hc : o + n ≤ c.size) (hl : ld ti n g off = some s)
    (h : ∀ j, j < n → oneCell (c.getD (o + j) undef) ∧ R w X E (g j) (c.getD (o + j) undef)) :
    ∃ v, (loadVar t ⟨b, o + off, none⟩).run P w = .ok v w ∧ R w X E s v := by
  obtain ⟨m, a⟩ := ti
  obtain ⟨ha, hsz⟩ := tinf_spec ht w
  cases a with
  | true =>
    simp only [ld, if_true] at hl
    obtain ⟨hle, rfl⟩ := ite_some hl
    have hcell : ∀ j, j < m → w.cell? ((⟨b, o + off, none⟩ : Addr).add j) = some (c.getD (o + (off + j)) undef) := fun j hj => by
      rw [addr_add, cell_block hb (by omega)]
      congr 2
      omega
    refine ⟨.agg ((List.range m).map fun j => c.getD (o + (off + j)) undef).toArray, ?_, ?_⟩
    · simp [loadVar, ha, hsz, run_loadCells w _ m _ hcell]
    · have hg : ∀ i, i < m → ((List.range m).map fun j => c.getD (o + (off + j)) undef).toArray.getD i undef = c.getD (o + (off + i)) undef := fun i hi => by
        simp [Array.getD, hi]
      refine .agg (by simp) (fun i hi => ?_) fun i hi => ?_
      · rw [hg i hi]; exact (h _ (by omega)).1
      · rw [hg i hi]; exact (h _ (by omega)).2
  | false =>
    simp only [ld, Bool.false_eq_true, if_false] at hl
    obtain ⟨hle, rfl⟩ := ite_some hl
    refine ⟨c.getD (o + off) undef, ?_, (h _ hle).2⟩
    simp [loadVar, ha, cell_block hb (show o + off < c.size by omega)]
theorem list_getD_cur {cur : Array Value} {m k : Nat} (h : k < m) : (cur.toList.take m).getD k undef = cur.getD k undef := by
  rw [List.getD_eq_getElem?_getD, List.getElem?_take, if_pos h, Array.getElem?_toList, Array.getD_eq_getD_getElem?]
theorem mul_lt_of {i len n j : Nat} (hi : i < len) (hj : j < n) : i * n + j < len * n := by
  have : (i + 1) * n ≤ len * n := Nat.mul_le_mul_right _ hi
  rw [Nat.add_mul] at this
  omega
/-- The cells of an element of an own or given slice. -/
theorem OwnsR.elem {w T n v len xs b len' cap} (h : OwnsR w T n v len xs) (hv : v = .slice (some ⟨b, 0, none⟩) len' cap) {i : Nat} (hi : i < len) :
    ∃ cur, w.heap[b]? = some (.cells cur T (0, 0)) ∧ i * n + n ≤ cur.size ∧ ∀ j, j < n → cur.getD (i * n + j) undef = xs.getD (i * n + j) undef := by
  rcases h with ⟨a, rfl, rfl, rfl⟩ | ⟨b', cap', cur, rfl, h1, h2, h3, h4, h5, h6⟩
  · omega
  · cases hv
    have hle : (i + 1) * n ≤ (cap' + 1) * n := Nat.mul_le_mul_right _ (by omega)
    rw [Nat.add_mul] at hle
    refine ⟨cur, h1, by omega, fun j hj => ?_⟩
    subst h5
    rw [list_getD_cur (mul_lt_of hi hj)]
theorem evLoad_run {P : Program} {w0 X0 H E w} (h : Rep w0 X0 H E w) {t : TypeId} {ti : Nat × Bool} (ht : tinf P t = some ti) {x : SV} {v : Value} (hx : R w (Xo X0 E H) E x v) {y : Yd}
    (hy : evLoad ti H x = some y) (hask : y.ask) : ∃ ad u, v = .pointer (some ad) ∧ (loadVar t ad).run P w = .ok u w ∧ y.eff = .keep ∧ R w (Xo X0 E H) E y.val u := by
  have fin : ∀ {b off : Nat} {s : SV}, v = .pointer (some ⟨b, off, none⟩) → y.eff = .keep → y.val = s → (∃ u, (loadVar t ⟨b, off, none⟩).run P w = .ok u w ∧ R w (Xo X0 E H) E s u) →
      ∃ ad u, v = .pointer (some ad) ∧ (loadVar t ad).run P w = .ok u w ∧ y.eff = .keep ∧ R w (Xo X0 E H) E y.val u := by
    intro b off s hv he hs ⟨u, hu, hr⟩
    exact ⟨_, u, hv, hu, he, by rw [hs]; exact hr⟩
  cases hx with
  | own he =>
    rename_i k off b
    have hok := h.ok k _ he
    simp only [evLoad] at hy
    generalize H.getD k .dead = so at hy hok
    cases so <;> simp only [reduceCtorEq] at hy
    · rename_i n g T
      obtain ⟨vs, h1, h2, h3⟩ := hok
      simp only [Option.some.injEq] at hy
      subst hy
      have hl := ld_of (g := g) (Fit.le hask)
      · refine fin rfl rfl rfl ?_
        have := run_ld (P := P) ht (o := 0) h1 (by omega) hl (fun j hj => by rw [Nat.zero_add]; exact h3 j hj)
        simpa using this
    · rename_i n g
      obtain ⟨vs, T, fr, h1, hX, h2, h3⟩ := hok
      simp only [Option.some.injEq] at hy
      subst hy
      have hl := ld_of (g := g) (Fit.le hask)
      · refine fin rfl rfl rfl ?_
        have := run_ld (P := P) ht (o := 0) h1 (by omega) hl (fun j hj => by rw [Nat.zero_add]; exact ⟨(h3 j hj).1, (h3 j hj).2.mono (fun _ _ _ => rfl) (Within.refl _ _) (Env.E0_le E)⟩)
        simpa using this
  | refP hb hX hc ho hr =>
    rename_i g b o c T fr
    simp only [evLoad] at hy
    cases hl : ld ti 1 (fun _ => g 0) 0 with
    | none => simp [hl] at hy
    | some s =>
      simp only [hl, Option.map_some, Option.some.injEq] at hy
      subst hy
      refine fin rfl rfl rfl ?_
      have := run_ld (P := P) (off := 0) (n := 1) (o := o) ht hb (show o + 1 ≤ c.size by omega) hl (fun j hj => by
        have h0 : j = 0 := by omega
        rw [h0, Nat.add_zero]
        exact ⟨ho, hr⟩)
      simpa using this
  | ref hb hX hc ho hr =>
    rename_i n g b o c T fr
    simp only [evLoad, Option.some.injEq] at hy
    subst hy
    have hl := ld_of (g := g) (Fit.le hask)
    · refine fin rfl rfl rfl ?_
      have := run_ld (P := P) (off := 0) ht hb hc hl (fun j hj => ⟨ho j hj, (hr j hj).mono (fun _ _ _ => rfl) (Within.refl _ _) (Env.E0_le E)⟩)
      simpa using this
  | ownAt he =>
    rename_i k ver i m off b len' cap us
    have hok := h.ok k _ he
    simp only [evLoad] at hy
    generalize H.getD k .dead = so at hy hok
    cases so <;> simp only [reduceCtorEq] at hy
    · rename_i ver' len n g T
      split at hy
      · rename_i hc
        obtain ⟨rfl, rfl⟩ := hc
        obtain ⟨_, xs, h2, h3⟩ := hok
        cases hl : ld ti m (g i) off with
        | none => simp [hl] at hy
        | some s =>
          simp only [hl, Option.map_some, Option.some.injEq] at hy
          subst hy
          obtain ⟨cur, c1, c2, c3⟩ := h2.elem rfl hask.out
          refine fin rfl rfl rfl ?_
          exact run_ld (P := P) ht c1 c2 hl (fun j hj => by rw [c3 j hj]; exact ⟨(h3 i j hask.out hj).1, (h3 i j hask.out hj).2.mono (fun _ _ _ => rfl) (Within.refl _ _) (Env.E0_le E)⟩)
      · cases hy
    · rename_i ver' len n g
      split at hy
      · rename_i hc
        obtain ⟨rfl, rfl⟩ := hc
        obtain ⟨_, h2⟩ := hok
        have hask' : i < len := by
          cases hl : ld ti m (g i) off with
          | none => simp [hl] at hy
          | some s =>
            simp only [hl, Option.map_some, Option.some.injEq] at hy
            subst hy
            exact hask.out
        have hle2 : (i + 1) * m ≤ len * m := Nat.mul_le_mul_right _ hask'
        rw [Nat.add_mul] at hle2
        cases hl : ld ti m (g i) off with
        | none => simp [hl] at hy
        | some s =>
          simp only [hl, Option.map_some, Option.some.injEq] at hy
          subst hy
          cases h2 with
          | sl0 => exact absurd hask' (Nat.not_lt_zero _)
          | sl hb hX hc hl' ho hr =>
            refine fin rfl rfl rfl ?_
            refine run_ld (P := P) ht hb (by omega) hl (fun j hj => ?_)
            have e1 := ho i j hask' hj
            have e2 := (hr i j hask' hj).mono (fun _ _ _ => rfl) (Within.refl _ _) (Env.E0_le E)
            simp only [Nat.zero_add] at e1 e2
            exact ⟨e1, e2⟩
      · cases hy
    · rename_i ver' len n c mm p g T T' ho
      split at hy
      case isFalse => cases hy
      rename_i hc
      obtain ⟨rfl, rfl⟩ := hc
      obtain ⟨_, xs, d⟩ := hok
      cases off with
      | zero =>
        simp only at hy
        split at hy
        case h_2 => cases hy
        rename_i hh sv
        cases hl : ld ti m (hcell sv (g i)) 0 with
        | none => simp [hl] at hy
        | some s =>
          simp only [hl, Option.map_some, Option.some.injEq] at hy
          subst hy
          obtain ⟨h1, rfl⟩ := hask.out
          obtain ⟨cur, c1, c2, c3⟩ := d.own.elem rfl h1
          refine fin rfl rfl rfl ?_
          refine run_ld (P := P) (off := 0) ht c1 c2 hl (fun j hj => ?_)
          rw [c3 j hj]
          cases j with
          | zero => exact d.out hh sv h1 (by simp [hoAt])
          | succ j =>
            have := d.rest hh (j + 1) h1 (Nat.succ_pos _) hj
            exact ⟨this.1, this.2.mono (fun _ _ _ => rfl) (Within.refl _ _) (Env.E0_le E)⟩
      | succ o =>
        simp only at hy
        cases hl : ld ti (m - 1) (fun j => g i (j + 1)) o with
        | none => simp [hl] at hy
        | some s =>
          simp only [hl, Option.map_some, Option.some.injEq] at hy
          subst hy
          have h1 : i < len := hask.out
          obtain ⟨cur, c1, c2, c3⟩ := d.own.elem rfl h1
          have hm := d.pos
          refine fin rfl rfl rfl ?_
          rw [show i * m + (o + 1) = (i * m + 1) + o by omega]
          refine run_ld (P := P) (off := o) (n := m - 1) ht c1 (by omega) hl (fun j hj => ?_)
          rw [show i * m + 1 + j = i * m + (j + 1) by omega, c3 (j + 1) (by omega)]
          have := d.rest i (j + 1) h1 (Nat.succ_pos _) (by omega)
          exact ⟨this.1, this.2.mono (fun _ _ _ => rfl) (Within.refl _ _) (Env.E0_le E)⟩
  | ownAtOld he hl hv =>
    rename_i k ver ver' v' i m off us
    have hok := h.ok k _ he
    simp only [evLoad] at hy
    generalize H.getD k .dead = so at hy hok
    cases so <;> simp only [reduceCtorEq] at hy
    · split at hy
      · rename_i hc
        have := hok.1
        omega
      · cases hy
    · split at hy
      · rename_i hc
        have := hok.1
        omega
      · cases hy
    · split at hy
      · rename_i hc
        have := hok.1
        omega
      · cases hy
  | _ => simp [evLoad] at hy
theorem evLoad_sound {P : Program} {w0 X0 H E w nm} (h : Rep w0 X0 H E w) {t : TypeId} {ti : Nat × Bool} (ht : tinf P t = some ti) {x : SV} {v : Value} (hx : R w (Xo X0 E H) E x v) {y : Yd}
    (hy : evLoad ti H x = some y) (hask : y.ask) : ∃ u w', (Instr.loadAt t v).run P w = .ok u w' ∧ Goes w0 X0 H E w nm y.eff y.val u w' := by
  obtain ⟨ad, u, rfl, h1, h2, h3⟩ := evLoad_run (P := P) h ht hx hy hask
  refine ⟨u, w, by simp [Instr.loadAt, Instr.sureAddr, h1], ?_⟩
  rw [h2]
  exact Goes.pure h h3
end Go.Proofs.YthappngbapbkfaaDoor.Sx
/- The evaluation tells the truth: stores, new variables, new slices. -/
namespace Go.Proofs.YthappngbapbkfaaDoor.Sx
open Go.RowKit
theorem splice_getD (cur : Array Value) (ws : List Value) (o j : Nat) (h : o + ws.length ≤ cur.size) :
    (cur.toList.take o ++ ws ++ cur.toList.drop (o + ws.length)).toArray.getD j undef = if o ≤ j ∧ j < o + ws.length then ws.getD (j - o) undef else cur.getD j undef := by
  rw [Array.getD_eq_getD_getElem?, List.getElem?_toArray]
  have hl : (cur.toList.take o).length = o := by rw [List.length_take, Array.length_toList]; omega
  by_cases h1 : j < o
  · rw [if_neg (by omega), List.append_assoc, List.getElem?_append_left (by omega), List.getElem?_take, if_pos h1, Array.getElem?_toList, Array.getD_eq_getD_getElem?]
  · by_cases h2 : j < o + ws.length
    · rw [if_pos (by omega), List.append_assoc, List.getElem?_append_right (by omega), hl, List.getElem?_append_left (by omega), List.getD_eq_getElem?_getD]
    · rw [if_neg (by omega), List.getElem?_append_right (by rw [List.length_append, hl]; omega), List.getElem?_drop, List.length_append, hl, Array.getElem?_toList,
        show o + ws.length + (j - (o + ws.length)) = j by omega, Array.getD_eq_getD_getElem?]
theorem splice_size (cur : Array Value) (ws : List Value) (o : Nat) (h : o + ws.length ≤ cur.size) : (cur.toList.take o ++ ws ++ cur.toList.drop (o + ws.length)).toArray.size = cur.size := by
  simp only [List.size_toArray, List.length_append, List.length_take, List.length_drop, Array.length_toList]
  omega
theorem toList_getD (c : Array Value) (j : Nat) : c.toList.getD j undef = c.getD j undef := by
  rw [List.getD_eq_getElem?_getD, Array.getElem?_toList, Array.getD_eq_getD_getElem?]
theorem mem_oneCell {c : Array Value} (h : ∀ i, i < c.size → oneCell (c.getD i undef)) : ∀ v ∈ c.toList, v.oneCell' = true := by
  intro v hv
  obtain ⟨i, hi, rfl⟩ := List.mem_iff_getElem.1 hv
  have := h i (by simpa using hi)
  rw [Array.length_toList] at hi
  simpa [oneCell, Array.getD, hi] using this
theorem Goes.set {w0 X0 H E w w' nm k e e' so' sv v} (h : Rep w0 X0 H E w) (hk : E k = some e) (le : E.le (E.put k e'))
    (hb : ∀ b, b < w.heap.size → ¬ holds e (H.getD k .dead) b → w'.heap[b]? = w.heap[b]?)
    (hos : w'.os = w.os) (htape : w'.tape = w.tape) (hout : w'.output = w.output) (hsz : w.heap.size ≤ w'.heap.size)
    (hh : ∀ b, holds e' so' b → holds e (H.getD k .dead) b ∨ (w.heap.size ≤ b))
    (hok : Keeps (Xo X0 E H) w w' → Within (Xo X0 E H) (Xo X0 (E.put k e') (H.set k so')) w → EIok w' (Xo X0 (E.put k e') (H.set k so')) (E.put k e') e' so')
    (hr : ∀ X, R w' X (E.put k e') sv v) : Goes w0 X0 H E w nm (.sets [(k, so')]) sv v w' := by
  obtain ⟨h1, h2, h3⟩ := h.upd hk le hb hos htape hout hsz hh fun a b _ => hok a b
  refine ⟨E.put k e', le, h2, h3, h1, hr _, fun j hj => .inl ?_⟩
  by_cases hjk : j = k
  · subst hjk; rw [hk]; simp
  · rwa [Env.put_ne hjk] at hj
theorem updF_in {g f : Nat → SV} {off m j : Nat} (h : off ≤ j ∧ j < off + m) : updF g off m f j = f (j - off) := by unfold updF; rw [selS_eq, decide_eq_true h]; rfl
theorem updF_out {g f : Nat → SV} {off m j : Nat} (h : ¬ (off ≤ j ∧ j < off + m)) : updF g off m f j = g j := by unfold updF; rw [selS_eq, decide_eq_false h]; rfl
theorem updR_in {g : Nat → Nat → SV} {f : Nat → SV} {i off m j : Nat} (h : off ≤ j ∧ j < off + m) : updR g i off m f i j = f (j - off) := by unfold updR; rw [selS_eq, decide_eq_true ⟨rfl, h⟩]; rfl
theorem updR_out {g : Nat → Nat → SV} {f : Nat → SV} {i i' off m j : Nat} (h : ¬ (i' = i ∧ off ≤ j ∧ j < off + m)) : updR g i off m f i' j = g i' j := by unfold updR; rw [selS_eq, decide_eq_false h]; rfl
theorem setRow_same {w : World} {g : Nat} {cs : Array Value} : (w.setRow g cs).os = w.os ∧ (w.setRow g cs).tape = w.tape ∧ (w.setRow g cs).output = w.output ∧ (w.setRow g cs).heap.size = w.heap.size :=
  ⟨rfl, rfl, rfl, by simp [World.setRow]⟩
theorem evStore_sound {P : Program} {w0 X0 H E w nm} (h : Rep w0 X0 H E w) {t : TypeId} {ti : Nat × Bool} (ht : tinf P t = some ti) {x z : SV} {v u : Value}
    (hx : R w (Xo X0 E H) E x v) (hz : R w (Xo X0 E H) E z u) {y : Yd} (hy : evStore ti H x z = some y) (hask : y.ask) :
    ∃ w', (Instr.storeAt t v u).run P w = .ok () w' ∧ Goes w0 X0 H E w nm y.eff .any undef w' := by
  unfold evStore at hy
  cases hc : cellsOf z with
  | none => simp [hc] at hy
  | some mf =>
    obtain ⟨m, f⟩ := mf
    obtain ⟨hcs, hcr⟩ := cellsOf_sound hz hc
    simp only [hc] at hy
    split at hy
    case isFalse => cases hy
    rename_i hm
    subst hm
    have hsz := (tinf_spec ht w).2
    have hlen : u.cells.toList.length = ti.1 := by rw [Array.length_toList, hcs]
    cases hx with
    | own he =>
      rename_i k off b
      have hok := h.ok k _ he
      simp only at hy
      generalize hs : H.getD k .dead = so at hy hok
      cases so <;> simp only [reduceCtorEq] at hy
      rename_i n g T
      have hstore : ∃ g', y = ⟨Fit (off + ti.1) n, .any, .sets [(k, .cells n g' T)]⟩ ∧ ∀ j, off + ti.1 ≤ n → j < n → g' j = updF g off ti.1 f j := by
        cases hb : Nat.beq ti.1 n with
        | true =>
          rw [hb] at hy
          cases hy
          have hmn : ti.1 = n := Nat.eq_of_beq_eq_true hb
          refine ⟨f, rfl, fun j h1 hj => ?_⟩
          obtain rfl : off = 0 := by omega
          rw [updF_in (by omega)]
          rfl
        | false => rw [hb] at hy; cases hy; exact ⟨_, rfl, fun _ _ _ => rfl⟩
      obtain ⟨g', rfl, hgg⟩ := hstore
      have hle := Fit.le hask
      obtain ⟨vs, h1, h2, h3⟩ := hok
      have hfit : off + u.cells.toList.length ≤ vs.size := by omega
      have hrun := run_storeCells_at P b off T u.cells.toList 0 vs w h1 (by omega) (mem_oneCell fun i hi => (hcr i (by omega)).1)
      simp only [Nat.add_zero] at hrun
      refine ⟨_, by simp only [Instr.storeAt, Instr.sureAddr, storeVar, Sem.run_bind, Sem.run_pure, Result.andThen_ok, hsz, hcs, ne_eq, not_true_eq_false, if_false]; exact hrun, ?_⟩
      generalize hnew : (u.cells.toList.take 0 : List Value) = dummy
      clear hnew dummy
      have hput : E.put k (.blk b) = E := Env.put_self he
      refine Goes.set (e' := .blk b) h he (by rw [hput]; exact Env.le_refl _) (fun b' hb' hne => setRow_other w b b' _ (fun hc => hne (by rw [hs, hc]; rfl))) rfl rfl rfl (by simp [World.setRow])
        (fun b' hb' => .inl (by rw [hs]; exact hb')) (fun hke hwi => ?_) (fun X => .any)
      rw [hput] at hwi ⊢
      refine ⟨_, setRow_heap w b vs _ T _ h1, by rw [splice_size _ _ _ hfit]; exact h2, fun j hj => ?_⟩
      have key := splice_getD vs u.cells.toList off j hfit
      rw [hgg j hle hj]
      by_cases hjj : off ≤ j ∧ j < off + ti.1
      · rw [updF_in hjj, key, if_pos (by omega), toList_getD]
        exact ⟨(hcr (j - off) (by omega)).1, (hcr (j - off) (by omega)).2.mono hke hwi (Env.le_refl _)⟩
      · rw [updF_out hjj, key, if_neg (by omega)]
        exact ⟨(h3 j hj).1, (h3 j hj).2.mono hke hwi (Env.le_refl _)⟩
    | ownAt he =>
      rename_i k ver i m' off b len' cap us
      have hok := h.ok k _ he
      simp only at hy
      generalize hs : H.getD k .dead = so at hy hok
      cases so <;> simp only [reduceCtorEq] at hy
      case deep ver' len n c mm p g T T' ho =>
        cases ho with
        | none => simp only [reduceCtorEq] at hy
        | some q =>
          obtain ⟨qh, qs⟩ := q
          simp only at hy
          split at hy
          case isFalse => cases hy
          rename_i hcond
          cases hy
          obtain ⟨rfl, rfl, rfl, h1c⟩ := hcond
          obtain ⟨_, xs, d⟩ := hok
          obtain ⟨hil, hqi⟩ : i < len ∧ qh = i := hask.out
          have own := d.own
          rcases own with ⟨a, hv, rfl, rfl⟩ | ⟨b', cap', cur, hv, c1, c2, c3, c4, c5, c6⟩
          · omega
          cases hv
          have hpos := d.pos
          have hil2 : (i + 1) * m' ≤ len' * m' := Nat.mul_le_mul_right _ hil
          have hll : len' * m' ≤ (cap' + 1) * m' := Nat.mul_le_mul_right _ c2
          rw [Nat.add_mul] at hil2
          have hfit : i * m' + 0 + u.cells.toList.length ≤ cur.size := by omega
          have hrun := run_storeCells_at P b (i * m' + 0) T u.cells.toList 0 cur w c1 (by omega) (mem_oneCell fun i hi => (hcr i (by omega)).1)
          simp only [Nat.add_zero] at hrun
          refine ⟨_, by simp only [Instr.storeAt, Instr.sureAddr, storeVar, Sem.run_bind, Sem.run_pure, Result.andThen_ok, hsz, hcs, ne_eq, not_true_eq_false, if_false, Nat.add_zero]; exact hrun, ?_⟩
          have hput : E.put k (.slc ver (.slice (some ⟨b, 0, none⟩) len' (cap' + 1)) us) = E := Env.put_self he
          have hno : ∀ i', hoAt (some (qh, f 0)) i' = none → hoAt (some (qh, qs)) i' = none := fun i' hh => by
            unfold hoAt at hh ⊢
            simp only at hh ⊢
            split at hh
            · cases hh
            · rename_i hne; rw [if_neg hne]
          have hni : ∀ i', hoAt (some (qh, f 0)) i' = none → i' ≠ i := fun i' hh hc => by
            unfold hoAt at hh
            simp only at hh
            rw [if_pos (by omega)] at hh
            cases hh
          refine Goes.set (e' := .slc ver (.slice (some ⟨b, 0, none⟩) len' (cap' + 1)) us) h he (by rw [hput]; exact Env.le_refl _) (fun b' hb' hne => setRow_other w b b' _ (fun hc => hne (by rw [hs, hc]; exact .inl rfl))) rfl rfl rfl (by simp [World.setRow])
            (fun b' hb' => .inl (by rw [hs]; exact hb'.imp id fun ⟨i', q1, q2, q3⟩ => ⟨i', q1, hno i' q2, q3⟩)) (fun hke hwi => ?_) (fun X => .any)
          rw [hput] at hwi ⊢
          have hfit' : i * m' + u.cells.toList.length ≤ cur.size := by omega
          have hne : ∀ i' j, i' < len' → j < m' → (i' ≠ i ∨ 0 < j) → ¬ (i * m' ≤ i' * m' + j ∧ i' * m' + j < i * m' + u.cells.toList.length) := fun i' j hi' hj hd => by
            rcases Nat.lt_trichotomy i' i with hlt' | heq | hgt
            · have := mul_lt_of (n := m') (len := i) hlt' hj
              omega
            · subst heq
              omega
            · have : (i + 1) * m' ≤ i' * m' := Nat.mul_le_mul_right _ hgt
              rw [Nat.add_mul] at this
              omega
          have hold : ∀ i' j, i' < len' → j < m' → cur.getD (i' * m' + j) undef = xs.getD (i' * m' + j) undef := fun i' j hi' hj => by
            rw [← c5, list_getD_cur (mul_lt_of hi' hj)]
          have get : ∀ i' j, i' < len' → j < m' → (i' ≠ i ∨ 0 < j) → ((cur.toList.take (i * m') ++ u.cells.toList ++ cur.toList.drop (i * m' + u.cells.toList.length)).toArray.toList.take (len' * m')).getD (i' * m' + j) undef = xs.getD (i' * m' + j) undef := fun i' j hi' hj hd => by
            rw [list_getD_cur (mul_lt_of hi' hj), splice_getD cur u.cells.toList (i * m') (i' * m' + j) hfit', if_neg (hne i' j hi' hj hd)]
            exact hold i' j hi' hj
          refine ⟨rfl, _, hpos, .inr ⟨b, cap', _, rfl, setRow_heap w b cur _ T _ c1, c2, c3, by rw [splice_size _ _ _ hfit']; exact c4, rfl, by simp only [List.length_take, List.length_append, List.length_drop, Array.length_toList]; omega⟩, fun i' j hi' h0 hj => ?_, fun i' sv hi' hh => ?_, fun i' hi' hh => ?_, fun i' b2 hi' hh => d.apart i' b2 hi' (hno i' hh), fun i1 i2 b2 h1 h2 hh1 hh2 => d.inj i1 i2 b2 h1 h2 (hno i1 hh1) (hno i2 hh2)⟩
          · rw [get i' j hi' hj (.inr h0)]
            exact ⟨(d.rest i' j hi' h0 hj).1, (d.rest i' j hi' h0 hj).2.mono hke hwi (Env.le_refl _)⟩
          · unfold hoAt at hh
            simp only at hh
            split at hh
            case isFalse => cases hh
            rename_i hqi'
            cases hh
            obtain rfl : i' = i := by omega
            have key := splice_getD cur u.cells.toList (i' * m') (i' * m') hfit'
            have hlt := mul_lt_of (n := m') (j := 0) hi' hpos
            rw [Nat.add_zero] at hlt
            rw [list_getD_cur hlt, key, if_pos (by omega), toList_getD, Nat.sub_self]
            exact ⟨(hcr 0 (by omega)).1, (hcr 0 (by omega)).2.mono hke hwi (Env.le_refl _)⟩
          · have hd := hni i' hh
            obtain ⟨g1, ys, g2, g3⟩ := d.inn i' hi' (hno i' hh)
            have e := get i' 0 hi' hpos (.inl hd)
            rw [Nat.add_zero] at e
            rw [e]
            refine ⟨g1, ys, g2.mono fun b2 ⟨a, m2, c', q1, q2⟩ => ?_, fun x j hx hj => ⟨(g3 x j hx hj).1, (g3 x j hx hj).2.mono hke hwi (Env.le_refl _)⟩⟩
            rw [q1] at g1
            subst q2
            have hap := d.apart i' a.block hi' (hno i' hh) g1.symm
            exact setRow_other w b _ _ (fun hc => hap (by rw [← hc]; rfl))
      rename_i ver' len n g T
      split at hy
      case isFalse => cases hy
      rename_i hcond
      cases hy
      obtain ⟨⟨rfl, rfl, hle⟩, hpur⟩ := hcond
      obtain ⟨_, xs, h2, h3⟩ := hok
      have hask' : i < len := hask.out
      rcases h2 with ⟨a, hv, rfl, rfl⟩ | ⟨b', cap', cur, hv, c1, c2, c3, c4, c5, c6⟩
      · omega
      cases hv
      have hil : (i + 1) * m' ≤ len' * m' := Nat.mul_le_mul_right _ hask'
      have hll : len' * m' ≤ (cap' + 1) * m' := Nat.mul_le_mul_right _ c2
      rw [Nat.add_mul] at hil
      have hfit : i * m' + off + u.cells.toList.length ≤ cur.size := by omega
      have hrun := run_storeCells_at P b (i * m' + off) T u.cells.toList 0 cur w c1 (by omega) (mem_oneCell fun i hi => (hcr i (by omega)).1)
      simp only [Nat.add_zero] at hrun
      refine ⟨_, by simp only [Instr.storeAt, Instr.sureAddr, storeVar, Sem.run_bind, Sem.run_pure, Result.andThen_ok, hsz, hcs, ne_eq, not_true_eq_false, if_false]; exact hrun, ?_⟩
      have hput : E.put k (.slc ver (.slice (some ⟨b, 0, none⟩) len' (cap' + 1)) us) = E := Env.put_self he
      refine Goes.set (e' := .slc ver (.slice (some ⟨b, 0, none⟩) len' (cap' + 1)) us) h he (by rw [hput]; exact Env.le_refl _) (fun b' hb' hne => setRow_other w b b' _ (fun hc => hne (by rw [hs, hc]; rfl))) rfl rfl rfl (by simp [World.setRow])
        (fun b' hb' => .inl (by rw [hs]; exact hb')) (fun hke hwi => ?_) (fun X => .any)
      rw [hput] at hwi ⊢
      refine ⟨rfl, _, .inr ⟨b, cap', _, rfl, setRow_heap w b cur _ T _ c1, c2, c3, by rw [splice_size _ _ _ hfit]; exact c4, rfl, by simp only [List.length_take, List.length_append, List.length_drop, Array.length_toList]; omega⟩, fun i' j hi' hj => ?_⟩
      have hlt := mul_lt_of (n := m') hi' hj
      have key := splice_getD cur u.cells.toList (i * m' + off) (i' * m' + j) hfit
      rw [list_getD_cur hlt]
      have hold : cur.getD (i' * m' + j) undef = xs.getD (i' * m' + j) undef := by subst c5; rw [list_getD_cur hlt]
      by_cases hii : i' = i
      · subst hii
        by_cases hjj : off ≤ j ∧ j < off + ti.1
        · rw [updR_in hjj, key, if_pos (by omega), toList_getD, show i' * m' + j - (i' * m' + off) = j - off by omega]
          exact ⟨(hcr (j - off) (by omega)).1, (isPure_sound 6 _ _ (all_range hpur (by omega)) (hcr (j - off) (by omega)).2).mono hke hwi (Env.le_refl _)⟩
        · rw [updR_out (fun hc => hjj hc.2), key, if_neg (by omega), hold]
          exact ⟨(h3 i' j hi' hj).1, (h3 i' j hi' hj).2.mono hke hwi (Env.le_refl _)⟩
      · have hne : ¬ (i * m' + off ≤ i' * m' + j ∧ i' * m' + j < i * m' + off + ti.1) := by
          rcases Nat.lt_or_gt_of_ne hii with hlt' | hgt
          · have := mul_lt_of (n := m') (len := i) hlt' hj
            omega
          · have : (i + 1) * m' ≤ i' * m' := Nat.mul_le_mul_right _ hgt
            rw [Nat.add_mul] at this
            omega
        rw [updR_out (fun hc => hii hc.1), key, if_neg (by omega), hold]
        exact ⟨(h3 i' j hi' hj).1, (h3 i' j hi' hj).2.mono hke hwi (Env.le_refl _)⟩
    | ownAtOld he hl hv =>
      rename_i k ver ver' v' i m off us
      have hok := h.ok k _ he
      simp only at hy
      generalize H.getD k .dead = so at hy hok
      cases so <;> simp only [reduceCtorEq] at hy
      case deep =>
        split at hy
        case h_2 => cases hy
        split at hy
        · rename_i hc
          have := hok.1
          omega
        · cases hy
      split at hy
      · rename_i hc
        have := hok.1
        omega
      · cases hy
    | _ => simp at hy
end Go.Proofs.YthappngbapbkfaaDoor.Sx
