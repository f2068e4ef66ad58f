/- What each operation yields, as data: the evaluation of an operation over symbolic values. -/
import Derived.Test.YtbmgclpgompjmaaDoorSxc
namespace Go.Proofs.YtbmgclpgompjmaaDoor.Sx
open Go.RowKit
universe u
/-- Something asked: it stops the kernel's reckoning. -/
structure Ask (p : Prop) : Prop where
  out : p
theorem ask_iff {p : Prop} : Ask p ↔ p := ⟨Ask.out, Ask.mk⟩
/-- p 0 and .. and p (n - 1). -/
def allN : Nat → (Nat → Prop) → Prop
  | 0, _ => True
  | n + 1, p => allN n p ∧ p n
theorem allN_get {p : Nat → Prop} : ∀ {n : Nat}, allN n p → ∀ i, i < n → p i
  | 0, _, i, hi => absurd hi (Nat.not_lt_zero _)
  | n + 1, h, i, hi => by
    by_cases hc : i = n
    · subst hc; exact h.2
    · exact allN_get h.1 i (by omega)
/-- The value's head is reckoned before one goes on. -/
def force {α : Sort u} (s : SV) (k : SV → α) : α :=
  match s with
  | .any => k .any
  | .int a n => k (.int a n)
  | .bool b => k (.bool b)
  | .lit b => k (.lit b)
  | .str x => k (.str x)
  | .nilfn => k .nilfn
  | .cap0 => k .cap0
  | .fn f n g => k (.fn f n g)
  | .agg n g => k (.agg n g)
  | .tup n g => k (.tup n g)
  | .sl len n g => k (.sl len n g)
  | .ref n g => k (.ref n g)
  | .own a o => k (.own a o)
  | .osl a v => k (.osl a v)
  | .ownAt a v i n o => k (.ownAt a v i n o)
  | .win a v n l m => k (.win a v n l m)
  | .nilsl => k .nilsl
  | .slN len n g => k (.slN len n g)
theorem force_eq {α : Sort u} (s : SV) (k : SV → α) : force s k = k s := by cases s <;> rfl
def forceO {α : Sort u} (s : SO) (k : SO → α) : α :=
  match s with
  | .dead => k .dead
  | .cells n g T => k (.cells n g T)
  | .scells n g => k (.scells n g)
  | .row v l n g T => k (.row v l n g T)
  | .srow v l n g => k (.srow v l n g)
theorem forceO_eq {α : Sort u} (s : SO) (k : SO → α) : forceO s k = k s := by cases s <;> rfl
def forceH {α : Sort u} (H : List SO) (k : List SO → α) : α :=
  match H with
  | [] => k []
  | s :: r => forceO s fun s => forceH r fun r => k (s :: r)
theorem forceH_eq {α : Sort u} : ∀ (H : List SO) (k : List SO → α), forceH H k = k H
  | [], k => rfl
  | s :: r, k => by simp only [forceH, forceO_eq]; exact forceH_eq r _
/-! Types: what the evaluation asks of the program's table. -/
/-- Cells, and whether it is an aggregate. -/
def tinf (P : Program) (t : TypeId) : Option (Nat × Bool) :=
  match P.info? t, P.underlying t with
  | some i, some d => some (i.size, match d with | .struct _ | .array _ _ => true | _ => false)
  | _, _ => none
/-- Field f: offset, size, aggregate. -/
def tfld (P : Program) (t : TypeId) (f : Nat) : Option (Nat × Nat × Bool) :=
  match P.underlying t with
  | some (.struct fs) => match fs[f]? with
    | some fd => match tinf P fd.type with
      | some (s, a) => some (fd.offset, s, a)
      | none => none
    | none => none
  | _ => none
/-- All fields' offsets and sizes. -/
def tflds (P : Program) (t : TypeId) : Option (List (Nat × Nat)) :=
  match P.underlying t with
  | some (.struct fs) => fs.toList.mapM (fun f => (P.info? f.type).map fun i => (f.offset, i.size))
  | _ => none
/-- An array: its length, an element's size, aggregate. -/
def tarr (P : Program) (t : TypeId) : Option (Nat × Nat × Bool) :=
  match P.underlying t with
  | some (.array len e) => match tinf P e with
    | some (s, a) => some (len, s, a)
    | none => none
  | _ => none
/-- The zero value's cells. -/
def tzero (P : Program) (t : TypeId) : Option (List Value) :=
  match P.info? t with
  | some i => match i.zero with
    | some z => if z.cells.size = i.size ∧ z.cells.toList.all (·.oneCell') = true then some z.cells.toList else none
    | none => none
  | none => none
/-- A slice: the element's type, its cells, its bytes. -/
def tsl (P : Program) (t : TypeId) : Option (TypeId × Nat × Nat) :=
  match P.underlying t with
  | some (.slice e) => match P.info? e with
    | some i => some (e, i.size, i.bytes)
    | none => none
  | _ => none
def tint (P : Program) (t : TypeId) : Option IntKind :=
  match P.underlying t with
  | some (.int k) => some k
  | _ => none
/-- It names nothing of the call's own. -/
def isPure : Nat → SV → Bool
  | 0, _ => false
  | f + 1, sv => match sv with
    | .own .. => false
    | .osl .. => false
    | .ownAt .. => false
    | .win .. => false
    | .agg n g => (List.range n).all fun i => isPure f (g i)
    | .tup n g => (List.range n).all fun i => isPure f (g i)
    | .fn _ n g => (List.range n).all fun i => isPure f (g i)
    | _ => true
def ofV : Value → SV
  | .int k n => .int k n
  | .bool b => .lit b
  | .string s => .str s
  | .slice none 0 0 => .cap0
  | .nilFunc => .nilfn
  | _ => .any
abbrev Tmps := List (Nat × SV)
def lookT : Tmps → Nat → SV
  | [], _ => .any
  | (k, s) :: r, t => if k = t then s else lookT r t
def evO (N : Nat) (τ : Tmps) : Operand → SV
  | .tmp t => if t < N then lookT τ t else .any
  | .const v => ofV v
  | .func f => .fn f 0 (fun _ => .any)
  | .global _ => .any
/-- The cells of a value (as Value.cells). -/
def cellsOf : SV → Option (Nat × (Nat → SV))
  | .agg n g => some (n, g)
  | .any => none
  | .tup .. => none
  | s => some (1, fun _ => s)
def i64ok (n : Int) : Prop := -9223372036854775808 ≤ n ∧ n ≤ 9223372036854775807
/-- int is asked to hold the number; the other kinds wrap. -/
def inK (k : IntKind) (n : Int) : Prop := match k with | .i64 => i64ok n | _ => True
def fitK (k : IntKind) (n : Int) : Int := match k with | .i64 => n | k => k.wrap n
inductive Eff : Type
  | keep
  | new (so : SO)
  | sets (l : List (Nat × SO))
/-- What an operation yields: what is asked, the value, what becomes of the objects. -/
structure Yd : Type where
  ask : Prop
  val : SV
  eff : Eff
def pureY (s : SV) : Option Yd := some ⟨True, s, .keep⟩
def binI (op : BinOp) (k : IntKind) (x y : Int) : Option Yd :=
  match op with
  | .add => some ⟨Ask (inK k (x + y)), .int k (fitK k (x + y)), .keep⟩
  | .sub => some ⟨Ask (inK k (x - y)), .int k (fitK k (x - y)), .keep⟩
  | .mul => some ⟨Ask (inK k (x * y)), .int k (fitK k (x * y)), .keep⟩
  | .quo => some ⟨Ask (y ≠ 0 ∧ inK k (x.tdiv y)), .int k (fitK k (x.tdiv y)), .keep⟩
  | .rem => some ⟨Ask (y ≠ 0), .int k (x.tmod y), .keep⟩
  | .and => pureY (.int k (bits .and k x y))
  | .or => pureY (.int k (bits .or k x y))
  | .xor => pureY (.int k (bits .xor k x y))
  | .andNot => pureY (.int k (bits .andNot k x y))
  | .eql => pureY (.bool (decide (x = y)))
  | .neq => pureY (.bool (decide (x ≠ y)))
  | .lss => pureY (.bool (decide (x < y)))
  | .leq => pureY (.bool (decide (x ≤ y)))
  | .gtr => pureY (.bool (decide (y < x)))
  | .geq => pureY (.bool (decide (y ≤ x)))
  | _ => none
def shI (op : BinOp) (k : IntKind) (x y : Int) : Option Yd :=
  match op with
  | .shl => some ⟨Ask ((0 ≤ y ∧ y ≤ k.bits) ∧ inK k (x * 2 ^ y.toNat)), .int k (fitK k (x * 2 ^ y.toNat)), .keep⟩
  | .shr => some ⟨Ask (0 ≤ y ∧ y ≤ k.bits), .int k (x / 2 ^ y.toNat), .keep⟩
  | _ => none
/-- A Bool, known or not. -/
def asB : SV → Option Bool
  | .bool b => some b
  | .lit b => some b
  | _ => none
/-- The kind of a plain cell. -/
inductive CK : Type
  | int
  | bool
  | str
def eqC (k : CK) (s r : SV) : Option Bool :=
  match k with
  | .int => match s, r with
    | .int k a, .int k' b => if k = k' then some (decide (a = b)) else none
    | _, _ => none
  | .bool => match asB s, asB r with
    | some a, some b => some (a == b)
    | _, _ => none
  | .str => match s, r with
    | .str a, .str b => some (a.toList == b.toList)
    | _, _ => none
/-- Two rows of plain cells, one by one. -/
def eqCells (g h : Nat → SV) : List CK → Nat → Option Bool
  | [], _ => some true
  | k :: ks, i => match eqC k (g i) (h i), eqCells g h ks (i + 1) with
    | some c, some t => some (c && t)
    | _, _ => none
def findE : List (TypeId × List CK) → TypeId → Option (List CK)
  | [], _ => none
  | (t, ks) :: r, u => if t = u then some ks else findE r u
def isSh : BinOp → Bool
  | .shl => true
  | .shr => true
  | _ => false
def tbool (P : Program) (t : TypeId) : Bool := match P.underlying t with | some .bool => true | _ => false
def tfunc (P : Program) (t : TypeId) : Bool := match P.underlying t with | some (.func ..) => true | _ => false
def evEqB (op : BinOp) (b : Bool) : Option Yd :=
  match op with
  | .eql => pureY (.bool b)
  | .neq => pureY (.bool !b)
  | _ => none
/-- k: the operands' type compares as a bool, as a function; eqs: the aggregates that compare cell by cell. -/
def ev2 (op : BinOp) (eqs : List (TypeId × List CK)) (kb kf : Bool) (t : TypeId) (x y : SV) : Option Yd :=
  match x, y with
  | .int k a, .int k' b => if isSh op = true then shI op k a b else if k = k' then binI op k a b else none
  | .str a, .str b => evEqB op (a.toList == b.toList)
  | .fn .., .nilfn => if kf = true then evEqB op false else none
  | .nilfn, .nilfn => if kf = true then evEqB op true else none
  | .agg n g, .agg m h => match findE eqs t with
    | some ks => if n = ks.length ∧ m = n then match eqCells g h ks 0 with
        | some b => evEqB op b
        | none => none
      else none
    | none => none
  | x, y => match asB x, asB y with
    | some a, some b => if kb = true then evEqB op (a == b) else none
    | _, _ => none
/-- A slice held against nil. -/
def evNilC (op : BinOp) (x : SV) : Option Yd :=
  match x with
  | .nilsl => match op with
    | .eql => pureY (.lit true)
    | .neq => pureY (.lit false)
    | _ => none
  | .slN .. => match op with
    | .eql => pureY (.lit false)
    | .neq => pureY (.lit true)
    | _ => none
  | _ => none
def isNilO : Operand → Bool
  | .const v => match v with
    | .slice a _ _ => a.isNone
    | _ => false
  | _ => false
def ev1 (op : UnOp) (x : SV) : Option Yd :=
  match op, x with
  | .not, .bool b => pureY (.bool !b)
  | .not, .lit b => pureY (.lit !b)
  | .neg, .int k n => some ⟨Ask (inK k (0 - n)), .int k (fitK k (0 - n)), .keep⟩
  | _, _ => none
def ld (ti : Nat × Bool) (n : Nat) (g : Nat → SV) (off : Nat) : Option SV :=
  if ti.2 = true then (if off + ti.1 ≤ n then some (.agg ti.1 (fun j => g (off + j))) else none)
  else if off < n then some (g off) else none
/-- A bound; without unknowns it is reckoned out. -/
def Fit (a b : Nat) : Prop := match decide (a ≤ b) with
  | true => True
  | false => False
theorem Fit.le {a b : Nat} (h : Fit a b) : a ≤ b := by
  unfold Fit at h
  cases hd : decide (a ≤ b) with
  | true => exact of_decide_eq_true hd
  | false => rw [hd] at h; exact h.elim
def ldn (ti : Nat × Bool) : Nat := match ti.2 with
  | true => ti.1
  | false => 1
def ldv (ti : Nat × Bool) (g : Nat → SV) (off : Nat) : SV := match ti.2 with
  | true => .agg ti.1 (fun j => g (off + j))
  | false => g off
theorem ld_of {ti : Nat × Bool} {n : Nat} {g : Nat → SV} {off : Nat} (h : off + ldn ti ≤ n) : ld ti n g off = some (ldv ti g off) := by
  obtain ⟨m, a⟩ := ti
  cases a with
  | true => simp only [ld, ldv, ldn, if_true] at h ⊢; rw [if_pos h]
  | false => simp only [ld, ldv, ldn, Bool.false_eq_true, if_false] at h ⊢; rw [if_pos (by omega)]
def evLoad (ti : Nat × Bool) (H : List SO) : SV → Option Yd
  | .own k off => match H.getD k .dead with
    | .cells n g _ => some ⟨Fit (off + ldn ti) n, ldv ti g off, .keep⟩
    | .scells n g => some ⟨Fit (off + ldn ti) n, ldv ti g off, .keep⟩
    | _ => none
  | .ref n g => some ⟨Fit (0 + ldn ti) n, ldv ti g 0, .keep⟩
  | .ownAt k ver i m off => match H.getD k .dead with
    | .row ver' len n g _ => if ver = ver' ∧ m = n then (ld ti n (g i) off).map fun s => ⟨Ask (i < len), s, .keep⟩ else none
    | .srow ver' len n g => if ver = ver' ∧ m = n then (ld ti n (g i) off).map fun s => ⟨Ask (i < len), s, .keep⟩ else none
    | _ => none
  | _ => none
/-- One of two symbols; of two integers, or two bools, the choice is made within. -/
def selS (c : Bool) (a b : SV) : SV := match a, b with
  | .int k x, .int k' y => if k = k' then .int k (cond c x y) else cond c (.int k x) (.int k' y)
  | .bool x, .bool y => .bool (cond c x y)
  | .str x, .str y => .str (cond c x y)
  | .lit x, .lit y => match x, y with
    | true, true => .lit true
    | false, false => .lit false
    | x, y => cond c (.lit x) (.lit y)
  | .sl l n g, .sl m n' h => if n = n' then .sl (cond c l m) n (fun i j => selS c (g i j) (h i j)) else cond c (.sl l n g) (.sl m n' h)
  | a, b => cond c a b
theorem selS_eq {c : Bool} : ∀ {a b : SV}, selS c a b = cond c a b := by
  intro a
  induction a with
  | sl l n g ih =>
    intro b
    cases b <;> first | (simp only [selS]; done) | skip
    rename_i m n' h
    simp only [selS]
    split
    · rename_i hn
      subst hn
      cases c with
      | true => simp only [cond_true]; congr; funext i j; exact ih i j
      | false => simp only [cond_false]; congr; funext i j; exact ih i j
    · rfl
  | int k x =>
    intro b
    cases b <;> first | (simp only [selS]; done) | skip
    simp only [selS]
    split
    · rename_i h; subst h; cases c <;> rfl
    · rfl
  | bool x => intro b; cases b <;> first | (simp only [selS]; done) | (cases c <;> rfl)
  | str x => intro b; cases b <;> first | (simp only [selS]; done) | (cases c <;> rfl)
  | lit x =>
    intro b
    cases b <;> first | (simp only [selS]; done) | skip
    rename_i y
    cases x <;> cases y <;> cases c <;> rfl
  | _ => intro b; simp only [selS]
def updF (g : Nat → SV) (off m : Nat) (f : Nat → SV) (j : Nat) : SV := selS (decide (off ≤ j ∧ j < off + m)) (f (j - off)) (g j)
def updR (g : Nat → Nat → SV) (i off m : Nat) (f : Nat → SV) (i' j : Nat) : SV := selS (decide (i' = i ∧ off ≤ j ∧ j < off + m)) (f (j - off)) (g i' j)
def evStore (ti : Nat × Bool) (H : List SO) (addr val : SV) : Option Yd :=
  match cellsOf val with
  | some (m, f) => if m = ti.1 then match addr with
    | .own k off => match H.getD k .dead with
      | .cells n g T => match Nat.beq m n with
        | true => some ⟨Fit (off + m) n, .any, .sets [(k, .cells n f T)]⟩ -- a write of the whole
        | false => some ⟨Fit (off + m) n, .any, .sets [(k, .cells n (updF g off m f) T)]⟩
      | _ => none
    | .ownAt k ver i m' off => match H.getD k .dead with
      | .row ver' len n g T => if (ver = ver' ∧ m' = n ∧ off + m ≤ n) ∧ (List.range m).all (fun j => isPure 6 (f j)) = true then
          some ⟨Ask (i < len), .any, .sets [(k, .row ver len n (updR g i off m f) T)]⟩ else none
      | _ => none
    | _ => none
    else none
  | none => none
def evFieldAddr (fd : Nat × Nat × Bool) : SV → Option Yd
  | .own k o => if fd.2.1 = 0 then none else pureY (.own k (o + fd.1))
  | .ref n g => if fd.2.1 = 0 ∨ n < fd.1 then none else pureY (.ref (n - fd.1) (fun j => g (fd.1 + j)))
  | .ownAt k ver i n o => if fd.2.1 = 0 then none else pureY (.ownAt k ver i n (o + fd.1))
  | _ => none
def part (ti : Nat × Bool) (n : Nat) (g : Nat → SV) (off : Nat) : Option SV := ld ti n g off
def inLen (i : Int) (len : Nat) : Prop := 0 ≤ i ∧ i < len
def evIndexAddrS (es : Nat) (H : List SO) (i : Int) : SV → Option Yd
  | .sl len n g => if n = es then some ⟨Ask (inLen i len), .ref n (g i.toNat), .keep⟩ else none
  | .osl k ver => match H.getD k .dead with
    | .row ver' len n _ _ => if ver = ver' ∧ n = es then some ⟨Ask (inLen i len), .ownAt k ver i.toNat n 0, .keep⟩ else none
    | .srow ver' len n g => if ver = ver' ∧ n = es then some ⟨Ask (inLen i len), .ref n (g i.toNat), .keep⟩ else none
    | _ => none
  | .win k ver m lo l => match H.getD k .dead with
    | .row ver' _ n _ _ => if (ver = ver' ∧ m = n) ∧ n = es then some ⟨Ask (inLen i l), .ownAt k ver (lo + i.toNat) n 0, .keep⟩ else none
    | _ => none
  | _ => none
def evIndexAddrA (len es : Nat) (i : Int) : SV → Option Yd
  | .own k o => some ⟨Ask (inLen i len), .own k (o + i.toNat * es), .keep⟩
  | .ref n g => if len * es ≤ n then some ⟨Ask (inLen i len), .ref (n - i.toNat * es) (fun j => g (i.toNat * es + j)), .keep⟩ else none
  | .ownAt k ver x n o => some ⟨Ask (inLen i len), .ownAt k ver x n (o + i.toNat * es), .keep⟩
  | _ => none
def slAsk (len : Nat) (lo hi mx : Option Int) : Prop := 0 ≤ lo.getD 0 ∧ lo.getD 0 ≤ hi.getD len ∧ hi.getD len ≤ mx.getD len ∧ mx.getD len ≤ len
def evSlice (es : Nat) (H : List SO) (lo hi mx : Option Int) : SV → Option Yd
  | .sl len n g => if n = es ∧ (mx.isSome = true → hi.isSome = true) then some ⟨Ask (slAsk len lo hi mx), .sl (hi.getD len - lo.getD 0).toNat n (fun i j => g ((lo.getD 0).toNat + i) j), .keep⟩ else none
  | .osl k ver => match H.getD k .dead with
    | .srow ver' len n g => if ver = ver' ∧ n = es ∧ (mx.isSome = true → hi.isSome = true) then some ⟨Ask (slAsk len lo hi mx), .sl (hi.getD len - lo.getD 0).toNat n (fun i j => g ((lo.getD 0).toNat + i) j), .keep⟩ else none
    | .row ver' len n _ _ => if ver = ver' ∧ n = es ∧ mx.isSome = false then some ⟨Ask (slAsk len lo hi none), .win k ver n (lo.getD 0).toNat (hi.getD len - lo.getD 0).toNat, .keep⟩ else none
    | _ => none
  | .win k ver m lo0 len => match H.getD k .dead with
    | .row ver' _ n _ _ => if (ver = ver' ∧ m = n) ∧ n = es ∧ mx.isSome = false then some ⟨Ask (slAsk len lo hi none), .win k ver n (lo0 + (lo.getD 0).toNat) (hi.getD len - lo.getD 0).toNat, .keep⟩ else none
    | _ => none
  | _ => none
/-- 's[:0:0]'. -/
def evCut0 : SV → Option Yd
  | .sl .. => pureY .cap0
  | .cap0 => pureY .cap0
  | _ => none
/-- A source of append: length, cells of an element, content. -/
def srcOf (H : List SO) : SV → Option (Nat × Nat × (Nat → Nat → SV))
  | .sl len n g => some (len, n, g)
  | .slN len n g => some (len, n, g)
  | .osl k ver => match H.getD k .dead with
    | .row ver' len n g _ => if ver = ver' then some (len, n, g) else none
    | .srow ver' len n g => if ver = ver' then some (len, n, g) else none
    | _ => none
  | .win k ver m lo len => match H.getD k .dead with
    | .row ver' _ n g _ => if ver = ver' ∧ m = n then some (len, n, fun i j => g (lo + i) j) else none
    | _ => none
  | _ => none
def lenOf (H : List SO) : SV → Option Nat
  | .cap0 => some 0
  | .nilsl => some 0
  | .win _ _ _ _ len => some len
  | .str s => some s.size
  | s => (srcOf H s).map (·.1)
def appG (len : Nat) (g h : Nat → Nat → SV) (i j : Nat) : SV := selS (decide (i < len)) (g i j) (h (i - len) j)
/-- A slice's room: 2^47 bytes. -/
def room (n b : Nat) : Prop := n ≤ 9223372036854775807 ∧ n * b ≤ 140737488355328
def notRef (k : Nat) : SV → Bool
  | .osl k2 _ => k2 != k
  | .win k2 _ _ _ _ => k2 != k
  | _ => true
def foldI (f : Int → Int → Int) (k : IntKind) : Int → List SV → Option Yd
  | a, [] => pureY (.int k a)
  | a, .int k' b :: r => if k = k' then foldI f k (f a b) r else none
  | _, _ :: _ => none
def evMin (f : Int → Int → Int) : List SV → Option Yd
  | .int k a :: r => foldI f k a r
  | _ => none
def evConvert (k : IntKind) : SV → Option Yd
  | .int _ n => some ⟨Ask (inK k n), .int k (fitK k n), .keep⟩
  | _ => none
def evIndex (ai : Nat × Nat × Bool) (i : Int) : SV → Option Yd
  | .agg n g => if n = ai.1 * ai.2.1 then
      (if ai.2.2 = true then some ⟨Ask (inLen i ai.1), .agg ai.2.1 (fun j => g (i.toNat * ai.2.1 + j)), .keep⟩
       else if ai.2.1 = 1 then some ⟨Ask (inLen i ai.1), g i.toNat, .keep⟩ else none) else none
  | _ => none
def evField (fd : Nat × Nat × Bool) : SV → Option Yd
  | .agg n g => (ld (fd.2.1, fd.2.2) n g fd.1).map fun s => ⟨True, s, .keep⟩
  | _ => none
def evExtract (i : Nat) : SV → Option Yd
  | .tup n g => if i < n then pureY (g i) else none
  | _ => none
def evNil (s : SV) : Option Yd :=
  match s with
  | .own .. => pureY s
  | .ref .. => pureY s
  | .ownAt .. => pureY s
  | .fn .. => pureY s
  | _ => none
def evAppend (te : TypeId × Nat × Nat) (H : List SO) (nm : Nat) (s x : SV) : Option Yd :=
  match srcOf H x with
  | some (len2, n2, h) => if n2 = te.2.1 ∧ 0 < n2 then match s with
    | .osl k ver => match H.getD k .dead with
      | .row ver' len n g T => if (ver = ver' ∧ n = n2 ∧ T = te.1) ∧ notRef k x = true then
          some ⟨Ask (room (len + len2) te.2.2), .osl k (ver + 1), .sets [(k, .row (ver + 1) (len + len2) n (appG len g h) T)]⟩ else none
      | _ => none
    | .cap0 => some ⟨Ask (room len2 te.2.2), .osl nm 0, .new (.row 0 len2 n2 h te.1)⟩
    | _ => none
    else none
  | none => none
/-- The content of a slice behind a copy of m elements to the place lo. -/
def cpyG (lo m : Nat) (g h : Nat → Nat → SV) (i j : Nat) : SV := selS (decide (lo ≤ i ∧ i < lo + m)) (h (i - lo) j) (g i j)
def evCopy (te : TypeId × Nat × Nat) (H : List SO) (d x : SV) : Option Yd :=
  match srcOf H x with
  | some (len2, n2, h) => match d with
    | .osl k ver => match H.getD k .dead with
      | .row ver' len n g T => if ((ver = ver' ∧ n = n2) ∧ n2 = te.2.1 ∧ 0 < n2) ∧ notRef k x = true then
          some ⟨True, .int .i64 (Nat.min len2 len : Nat), .sets [(k, .row ver len n (cpyG 0 (Nat.min len2 len) g h) T)]⟩ else none
      | _ => none
    | .win k ver m lo wl => match H.getD k .dead with
      | .row ver' len n g T => if ((ver = ver' ∧ n = n2 ∧ m = n) ∧ n2 = te.2.1 ∧ 0 < n2) ∧ notRef k x = true then
          some ⟨True, .int .i64 (Nat.min len2 wl : Nat), .sets [(k, .row ver len n (cpyG lo (Nat.min len2 wl) g h) T)]⟩ else none
      | _ => none
    | _ => none
  | none => none
/-- Parts laid into n cells. -/
def fillS (place : Nat → Option (Nat × Nat)) (n : Nat) : (Nat → SV) → List (Nat × SV) → Option (Nat → SV)
  | g, [] => some g
  | g, (i, s) :: r => match place i, cellsOf s with
    | some (off, sz), some (m, f) => if m = sz ∧ off + m ≤ n then fillS place n (updF g off m f) r else none
    | _, _ => none
def zeroF (z : List Value) (i : Nat) : SV := ofV (z.getD i undef)
def evBuildS (z : List Value) (fl : List (Nat × Nat)) (parts : List (Nat × SV)) : Option Yd :=
  match fillS (fun i => fl[i]?) z.length (zeroF z) parts with
  | some g => pureY (.agg z.length g)
  | none => none
def evBuildA (z : List Value) (es : Nat) (parts : List (Nat × SV)) : Option Yd :=
  match fillS (fun i => some (i * es, es)) z.length (zeroF z) parts with
  | some g => pureY (.agg z.length g)
  | none => none
def zeroR (z : List Value) (_ j : Nat) : SV := ofV (z.getD j undef)
/-- Element i of a slice that is written out: a choice among its elements. -/
def pickG (n : Nat) (g : Nat → SV) : Nat → Nat → Nat → SV
  | 0, _, _ => .any
  | m + 1, i, j => match m with
    | 0 => g j
    | _ => selS (decide (i = m)) (g (m * n + j)) (pickG n g m i j)
/-- A slice written out: every element given, none of them refers to what is the call's own. -/
def evBuildSlice (te : TypeId × Nat × Nat) (z : List Value) (nm len : Nat) (parts : List (Nat × SV)) : Option Yd :=
  match fillS (fun i => some (i * te.2.1, te.2.1)) (len * te.2.1) (fun k => zeroF z (k % z.length)) parts with
  | some g => if z.length = te.2.1 ∧ 0 < te.2.1 ∧ len ≤ 1024 ∧ len * te.2.1 ≤ 16777216 ∧ (List.range (len * te.2.1)).all (fun k => isPure 6 (g k)) = true then
      some ⟨True, .osl nm 0, .new (.row 0 len te.2.1 (pickG te.2.1 g len) te.1)⟩ else none
  | none => none
def evMakeSlice (te : TypeId × Nat × Nat) (z : List Value) (nm : Nat) (l c : Int) : Option Yd :=
  if z.length = te.2.1 ∧ 0 < te.2.1 then some ⟨Ask (0 ≤ l ∧ l ≤ c ∧ (te.2.2 : Int) * c ≤ 140737488355328 ∧ c ≤ 9223372036854775807), .osl nm 0, .new (.row 0 l.toNat te.2.1 (zeroR z) te.1)⟩ else none
/-- A specification of a function: of its arguments' data and the objects, what is asked, what it answers and what becomes of the objects (eff: of those that were there). The number: the name of a new object. -/
structure FSpec : Type where
  f : FuncId
  eff : Bool
  run : List SV → List SO → Nat → Option Yd
def findS (specs : List FSpec) (f : FuncId) : Option FSpec :=
  match specs with
  | [] => none
  | s :: r => if s.f = f then some s else findS r f
/-- What has to be given away for a value to become pure. -/
def needs (H : List SO) : Nat → SV → List Nat
  | 0, _ => []
  | f + 1, sv => match sv with
    | .own k _ => match H.getD k .dead with
      | .cells n g _ => ((List.range n).flatMap fun i => needs H f (g i)) ++ [k]
      | _ => []
    | .osl k _ => match H.getD k .dead with
      | .row .. => [k]
      | _ => []
    | .win k _ _ _ _ => match H.getD k .dead with
      | .row .. => [k]
      | _ => []
    | .agg n g => (List.range n).flatMap fun i => needs H f (g i)
    | .tup n g => (List.range n).flatMap fun i => needs H f (g i)
    | .fn _ n g => (List.range n).flatMap fun i => needs H f (g i)
    | _ => []
/-- The object as it is when given away. -/
def frzO (H : List SO) (k : Nat) : Option SO :=
  match H.getD k .dead with
  | .cells n g _ => if (List.range n).all (fun i => (pur H 6 (g i)).isSome) then some (.scells n (fun i => (pur H 6 (g i)).getD .any)) else none
  | .row ver len n g _ => some (.srow ver len n g)
  | _ => none
def frzAll : List SO → List Nat → Option (List (Nat × SO))
  | _, [] => some []
  | H, k :: r => match frzO H k with
    | some so => (frzAll (H.set k so) r).map fun l => (k, so) :: l
    | none => frzAll H r
def applyS (H : List SO) (l : List (Nat × SO)) : List SO := l.foldl (fun H p => H.set p.1 p.2) H
def evCall (specs : List FSpec) (f : FuncId) (H : List SO) (nm : Nat) (args : List SV) : Option Yd :=
  match findS specs f with
  | some s => match s.run args H nm with
    | some y => match y.eff with
      | .sets _ => match s.eff with
        | true => some y
        | false => none
      | _ => some y
    | none => none
  | none => none
end Go.Proofs.YtbmgclpgompjmaaDoor.Sx
