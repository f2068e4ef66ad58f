import Derived.Test.YtbkgncikjhibiaaM5
import Derived.Test.YtbkgncikjhibiaaRows
set_option linter.unusedSimpArgs false
set_option linter.unusedVariables false
set_option linter.unusedSectionVars false
/- Part 6 of the texts that the law's proof leans on. -/
namespace Go.Proofs.Ytbkgncikjhibiaa
open _root_.Go.Proofs.Ytbkgncikjhibiaa.Hid
namespace Hid
open Go.RowKit Go.Conc
variable [LoopOK]
section
variable {p:Program}{F:Array Func}{α β:Type}
abbrev TM (p:Program) (F:Array Func) {α:Type}(s:Sem α):Prop:=Tame p { p with funcs:=F } s
theorem aa2 (a:α):TM p F (Pure.pure a:Sem α):= .pure a
theorem aa1 {x:Sem α}{f:α->Sem β}(h:TM p F x) (hf:∀ a,TM p F (f a)):TM p F (x >>= f):=Tame.bind h hf
theorem b82 {x:Sem α}{f:α->β}(h:TM p F x):TM p F (f <$> x):=Tame.bind h fun a=> .pure _
theorem av4 {k:Program->Sem α}(h:TM p F (k p)) (e:k { p with funcs:=F }=k p:=by rfl):TM p F (program >>= k):= .program e h
theorem bR0 (a:Addr):TM p F (load a):= .load fun v=> .pure v
theorem bY3 (a:Addr) (v:Value):TM p F (store a v):= .store (.pure ())
theorem aH5 (o:Obj) (nv:∀ a u,o≠.view a u:=by intro _ _ h; cases h) (np:∀ c u,o≠.pending c u:=by intro _ _ h; cases h) (nl:∀ r,o = .loop r->LoopOK.ok r:=by intro _ h; cases h):TM p F (newObj o):= .new nv np nl fun r=> .pure r
theorem bk0 (r:Nat) (o:Obj) (hs:LoopOK.set) (nv:∀ a u,o≠.view a u:=by intro _ _ h; cases h) (np:∀ c u,o≠.pending c u:=by intro _ _ h; cases h) (nc:∀ c T fz,o≠.cells c T fz:=by intro _ _ _ h; cases h) (nl:∀ r,o = .loop r->LoopOK.ok r:=by intro _ h; cases h):TM p F (setObj r o):= .setObj hs nv np nc nl (.pure ())
theorem aa6 (s:String):TM p F (stuck s:Sem α):= .halt (.stuck s)
theorem af8 (u:Unsupported) (h:∀ b,u≠.initOrder b:=by intro _ h; cases h):TM p F (unsupported u:Sem α):= .halt (.uns u h)
theorem by6 (v:Value):TM p F (goPanic v:Sem α):= .halt (.panic v)
theorem ai9 (q:Question):TM p F (choose q):= .choose fun n=> .pure n
theorem a42 (n:Nat):TM p F (askRoom n):=by
 unfold askRoom;split
 ·exact .noRoom (.pure ())
 ·exact .pure ()
theorem at9 {r:Nat}{k:Obj->Sem α}(h:∀ o,(∀ r,o = .loop r->LoopOK.ok r)->TM p F (k o)) (hv:∀ a u c,Jk c->k c=k (.view a u)) (hc:∀ cap cl s r cl' s' r',k (.chan cap #[] cl s r false)=k (.chan cap #[] cl' s' r' false):=by intros; rfl):TM p F (getObj r >>= k):= .getObj h (fun a u=> .inl (hv a u)) hc
theorem be8 {r:Nat}{k:Option (TypeId×Nat)->Sem α}(h:∀ o,TM p F (k o)) (hp:∀ T n',k (some (T,n'))=k (some (T,0)):=by intros; rfl):TM p F (shape r >>= k):= .shape h fun T=> .inr (hp T)
theorem ad3 (t:TypeId):TM p F (typeInfo t):=by unfold typeInfo; (repeat' first | (with_reducible first | exact aa6 _ | exact aa2 _) | focus ((with_reducible refine av4 ?_ ?_); rotate_left; rfl) | split)
theorem aa5 (t:TypeId):TM p F (underlying t):=by unfold underlying; (repeat' first | (with_reducible first | exact aa6 _ | exact aa2 _) | focus ((with_reducible refine av4 ?_ ?_); rotate_left; rfl) | split)
theorem ag5 (t:TypeId):TM p F (zeroValue t):=by unfold zeroValue; (repeat' first | with_reducible exact ad3 _ | ((with_reducible refine af8 _ (h:=?_)); (intro _ h; cases h)) | (with_reducible first | exact aa2 _ | refine aa1 ?_ fun _=>?_) | split)
theorem af2 (t:TypeId):TM p F (sizeOf t):=by unfold sizeOf; (repeat' (with_reducible first | exact ad3 _ | exact aa2 _ | refine aa1 ?_ fun _=>?_))
theorem bx7 (t:TypeId):TM p F (typeStr t):=by unfold typeStr; (repeat' first | with_reducible exact ad3 _ | ((with_reducible refine af8 _ (h:=?_)); (intro _ h; cases h)) | (with_reducible first | exact aa2 _ | refine aa1 ?_ fun _=>?_) | split | dsimp only)
theorem by4 (t:TypeId):TM p F (isAgg t):=by unfold isAgg; (repeat' first | (with_reducible first | exact aa5 _ | exact aa2 _ | refine aa1 ?_ fun _=>?_) | split)
theorem ar7 (a:Addr):∀ (n i:Nat) (acc:Array Value),TM p F (loadCellsFrom a i n acc)
 | 0,_,_=> .pure _
 | n+1,i,acc=>aa1 (bR0 _) fun _=>ar7 a n _ _
theorem aJ7 (a:Addr) (n:Nat):TM p F (loadCells a n):=ar7 a n 0 #[]
theorem ak7 (a:Addr):∀ (vs:List Value) (i:Nat),TM p F (storeCells a vs i)
 | [],_=> .pure _
 | v::vs,i=>aa1 (bY3 _ _) fun _=>ak7 a vs _
theorem ay5 (t:TypeId) (a:Addr):TM p F (loadVar t a):=by unfold loadVar; (repeat' first | (with_reducible first | exact aJ7 _ _ | exact by4 _ | exact af2 _ | exact bR0 _ | exact aa2 _ | refine aa1 ?_ fun _=>?_) | split)
theorem bq2 (t:TypeId) (a:Addr) (v:Value):TM p F (storeVar t a v):=by unfold storeVar; (repeat' first | (with_reducible first | exact ak7 _ _ _ | exact af2 _ | exact aa6 _ | refine aa1 ?_ fun _=>?_) | split)
theorem aH4 (t:TypeId) (c:Array Value):TM p F (newRow t c):=by unfold newRow; (repeat' first | ((with_reducible refine aH5 _ (nv:=?_) (np:=?_) (nl:=?_))<;>first | (intro _ _ _ h; cases h; done) | (intro _ _ h; cases h; done) | (intro _ h; cases h; done)) | (with_reducible first | exact aa2 _ | refine aa1 ?_ fun _=>?_))
theorem aV2 (t:TypeId) (v:Value):TM p F (newVar t v):=by unfold newVar; (repeat' with_reducible exact aH4 _ _)
theorem bK8 (t:TypeId):TM p F (elemOf t):=by unfold elemOf; (repeat' first | (with_reducible first | exact aa5 _ | exact aa6 _ | exact aa2 _ | refine aa1 ?_ fun _=>?_) | split)
theorem aE5 (t:TypeId) (c:Array Value) (o:Nat):TM p F (part t c o):=by unfold part; (repeat' first | (with_reducible first | exact by4 _ | exact af2 _ | exact aa6 _ | exact aa2 _ | refine aa1 ?_ fun _=>?_) | split)
theorem ab2 (e:RuntimeError):TM p F (runtimePanic e:Sem α):=by
 unfold runtimePanic;refine av4 ?_;dsimp only
 (repeat' first | (with_reducible first | exact bK8 _ | exact aV2 _ _ | exact by6 _ | refine aa1 ?_ fun _=>?_) | split)
theorem aq2 (k:IntKind) (x y:Int) (c:BoundsCode):TM p F (boundsPanic k x y c:Sem α):=by unfold boundsPanic; (repeat' first | (with_reducible first | exact ab2 _ | exact ai9 _ | exact aa2 _ | refine b82 ?_ | refine aa1 ?_ fun _=>?_) | split)
theorem ay8 (v:Value):TM p F (asIntOf v):=by unfold asIntOf; (repeat' first | ((with_reducible refine af8 _ (h:=?_)); (intro _ h; cases h)) | (with_reducible first | exact aa6 _ | exact aa2 _) | split)
theorem aJ9 (v:Value):TM p F (asInt v):=by unfold asInt; (repeat' (with_reducible first | exact ay8 _ | exact aa2 _ | refine aa1 ?_ fun _=>?_))
theorem aH7 (v:Value):TM p F (asBool v):=by unfold asBool; (repeat' first | (with_reducible first | exact aa6 _ | exact aa2 _) | split)
theorem bZ5 (v:Value):TM p F (asAgg v):=by unfold asAgg; (repeat' first | (with_reducible first | exact aa6 _ | exact aa2 _) | split)
theorem aH8 (v:Value):TM p F (asAddr v):=by unfold asAddr; (repeat' first | (with_reducible first | exact ab2 _ | exact aa6 _ | exact aa2 _) | split)
theorem ao1 (v:Value):TM p F (Instr.sureAddr v):=by unfold Instr.sureAddr; (repeat' first | (with_reducible first | exact aa6 _ | exact aa2 _) | split)
theorem bZ6 (t:TypeId):TM p F (Instr.alloc t true (.tuple #[])):=by unfold Instr.alloc; (repeat' (with_reducible first | exact aV2 _ _ | exact ag5 _ | exact aa2 _ | refine aa1 ?_ fun _=>?_))
theorem t_box (t:TypeId) (v:Value):TM p F (Instr.box t v):=by unfold Instr.box; (repeat' (with_reducible first | exact aV2 _ _ | exact aa2 _ | refine aa1 ?_ fun _=>?_))
theorem a38 (t:TypeId) (n:Nat) (ps:Array (Nat×Value)):TM p F (Instr.buildSlice t n ps):=by unfold Instr.buildSlice; (repeat' first | (with_reducible first | exact aH4 _ _ | exact af2 _ | exact ag5 _ | exact aa5 _) | ((with_reducible refine af8 _ (h:=?_)); (intro _ h; cases h)) | (with_reducible first | exact aa6 _ | exact aa2 _ | refine aa1 ?_ fun _=>?_) | split | dsimp only)
theorem bK5 (t:TypeId) (v:Value):TM p F (Instr.loadAt t v):=by unfold Instr.loadAt; (repeat' (with_reducible first | exact ao1 _ | exact ay5 _ _ | refine aa1 ?_ fun _=>?_))
theorem bx9 (t:TypeId) (a v:Value):TM p F (Instr.storeAt t a v):=by unfold Instr.storeAt; (repeat' (with_reducible first | exact ao1 _ | exact bq2 _ _ _ | refine aa1 ?_ fun _=>?_))
theorem a29 (x:Value) (y:Nat) (c:BoundsCode):TM p F (Instr.sliceBound x y c):=by unfold Instr.sliceBound; (repeat' first | (with_reducible first | exact ay8 _ | exact aq2 _ _ _ _ | exact aa2 _ | refine aa1 ?_ fun _=>?_) | split)
theorem ay4 (b:Bool) (l c:Nat) (x y z:Option Value):TM p F (Instr.sliceBounds b l c x y z):=by unfold Instr.sliceBounds; (repeat' first | (with_reducible first | exact a29 _ _ _ | exact aa6 _ | exact aa2 _ | refine aa1 ?_ fun _=>?_) | split)
theorem bY4 (t:TypeId) (v:Value) (x y z:Option Value):TM p F (Instr.slice t v x y z):=by unfold Instr.slice; (repeat' first | (with_reducible first | exact ay4 _ _ _ _ _ _ | exact aH8 _ | exact af2 _ | exact aa5 _ | exact aa6 _ | exact aa2 _ | refine aa1 ?_ fun _=>?_) | split)
theorem by0 (t:TypeId) (v:Value) (x y z:Option Value):TM p F (Instr.sliceAt t v x y z):=by unfold Instr.sliceAt; (repeat' first | (with_reducible first | exact bY4 _ _ _ _ _ | exact ay4 _ _ _ _ _ _ | exact ao1 _ | exact af2 _ | exact aa5 _ | exact aa2 _ | refine aa1 ?_ fun _=>?_) | split)
theorem by5 (t:TypeId) (x y:Value):TM p F (Instr.indexAt t x y):=by unfold Instr.indexAt; (repeat' first | (with_reducible first | exact ao1 _ | exact ay8 _ | exact aq2 _ _ _ _ | exact af2 _ | exact aa5 _) | ((with_reducible refine af8 _ (h:=?_)); (intro _ h; cases h)) | (with_reducible first | exact aa6 _ | exact aa2 _ | refine aa1 ?_ fun _=>?_) | split | dsimp only)
theorem bY6 (t:TypeId) (x y:Value):TM p F (Instr.index t x y):=by unfold Instr.index; (repeat' first | (with_reducible first | exact ay8 _ | exact aq2 _ _ _ _ | exact aE5 _ _ _ | exact af2 _ | exact aa5 _ | exact aa6 _ | exact aa2 _ | refine aa1 ?_ fun _=>?_) | split)
theorem bY7 (t:TypeId) (x:Value) (i:Nat):TM p F (Instr.field t x i):=by unfold Instr.field; (repeat' first | (with_reducible first | exact bZ5 _ | exact aE5 _ _ _ | exact aa5 _ | exact aa6 _ | refine aa1 ?_ fun _=>?_) | split)
theorem bf0 (t:TypeId) (x y:Value):TM p F (Instr.makeSlice t x y):=by unfold Instr.makeSlice; (repeat' first | (with_reducible first | exact aJ9 _ | exact ab2 _ | exact aH4 _ _ | exact af2 _ | exact ag5 _ | exact aa5 _ | exact ad3 _ | exact a42 _ | exact ai9 _ | exact aa6 _ | exact aa2 _ | refine aa1 ?_ fun _=>?_) | split | dsimp only)
theorem by2 (t:TypeId) (r:Option Value):TM p F (Instr.makeMap t r):=by unfold Instr.makeMap; (repeat' first | (with_reducible first | exact aJ9 _ | exact aa5 _ | exact aa6 _) | ((with_reducible refine aH5 _ (nv:=?_) (np:=?_) (nl:=?_))<;>first | (intro _ _ _ h; cases h; done) | (intro _ _ h; cases h; done) | (intro _ h; cases h; done)) | (with_reducible first | exact aa2 _ | refine aa1 ?_ fun _=>?_) | split)
theorem bq3 (t:TypeId) (r:Value):TM p F (Instr.makeChan t r):=by unfold Instr.makeChan; (repeat' first | (with_reducible first | exact aJ9 _ | exact ab2 _ | exact aa5 _ | exact ad3 _ | exact aa6 _) | ((with_reducible refine aH5 _ (nv:=?_) (np:=?_) (nl:=?_))<;>first | (intro _ _ _ h; cases h; done) | (intro _ _ h; cases h; done) | (intro _ h; cases h; done)) | (with_reducible first | exact aa2 _ | refine aa1 ?_ fun _=>?_) | split)
theorem by8 (v:Value) (i:Nat):TM p F (Instr.extract v i):=by unfold Instr.extract; (repeat' first | (with_reducible first | exact aa6 _ | exact aa2 _) | split)
theorem bf1 {γ:Type}{f:α->β->Sem (ForInStep β)}:∀ (l:List α) (_:∀ a∈l,∀ b,TM p F (f a b)) (b:β),TM p F (forIn l b f)
 | [],_,b=>aa2 _
 | a::l,h,b=>by
  rw [List.forIn_cons];refine aa1 (h a (by simp) b) fun r=>?_
  cases r with
  | done b=>exact aa2 _
  | yield b=>exact bf1 (γ:=γ) l (fun a ha=>h a (by simp [ha])) b
theorem aV6 {f:α->β->Sem (ForInStep β)}(l:Array α) (h:∀ a∈l,∀ b,TM p F (f a b)) (b:β):TM p F (forIn l b f):=by
 rw [<-Array.forIn_toList];exact bf1 (γ:=Unit) _ (fun a ha=>h a (xv.1 ha)) _
theorem aV5 {f:Nat->β->Sem (ForInStep β)}(h:∀ a b,TM p F (f a b)) (r:Std.Legacy.Range) (b:β):TM p F (forIn r b f):=by
 rw [Std.Legacy.Range.forIn_eq_forIn_range'];exact bf1 (γ:=Unit) _ (fun a _=>h a) _
theorem bQ9 {γ:Type}{f:α->Sem γ}(h:∀ a,TM p F (f a)):∀ (l:List α),TM p F (l.mapM f)
 | []=>by rw [List.mapM_nil]; exact aa2 _
 | a::l=>by
  rw [uR];exact aa1 (h a) fun _=>aa1 (bQ9 h l) fun _=>aa2 _
theorem by1 {γ:Type}{f:α->Sem γ}(h:∀ a,TM p F (f a)) (l:Array α):TM p F (l.mapM f):=by
 rw [Array.mapM_eq_mapM_toList];exact b82 (bQ9 h _)
theorem bj9 (r:Nat) {f:Option (Addr×TypeId)->Sem α}(h:∀ x,TM p F (f x)) (hn:∀ x q w es a w' es',(f (some x)).runT q w es≠(.ok a w',es')):TM p F (viewAt r >>= f):=by
 show TM p F (Sem.shape r _);refine Tame.shape (fun o=>?_) fun T=> .inr fun n'=>rfl
 cases o with
 | some x=>exact h none
 | none=>
  show TM p F (Sem.getObj r _);refine Tame.getObj (fun o _=>?_) (fun a u=> .inr (hn (a,u) _)) fun _ _ _ _ _ _ _=>rfl
  cases o<;>first | exact h none | exact h (some _)
theorem aR3 (r:Nat):TM p F (numberAt r):=by unfold numberAt; (repeat' first | with_reducible exact aa2 _ | focus ((with_reducible refine at9 (fun _ _=>?_) ?_ ?_); rotate_left; (intro _ _ c hc; cases hc<;>rfl); intros; rfl) | focus ((with_reducible refine be8 (fun _=>?_) ?_); rotate_left; intros; rfl) | split)
theorem bK3 (a:Addr):TM p F (noView a):=by
 unfold noView;refine bj9 _ (fun x=>?_) fun x q w es b w' es' hr=>by cases hr
 cases x
 ·exact aa2 _
 ·exact af8 _
theorem bq5 (a:Addr) (b:Bool):TM p F (asNumber a b):=by unfold asNumber; (repeat' first | ((with_reducible refine aH5 _ (nv:=?_) (np:=?_) (nl:=?_))<;>first | (intro _ _ _ h; cases h; done) | (intro _ _ h; cases h; done) | (intro _ h; cases h; done)) | (with_reducible first | exact aa2 _ | refine aa1 ?_ fun _=>?_))
theorem an6 (a:Addr):TM p F (behindNumber a):=by unfold behindNumber; (repeat' (with_reducible first | exact aR3 _ | exact aa2 _ | refine aa1 ?_ fun _=>?_))
theorem at3:∀ (d:Nat) (t:TypeId) (o:Nat),byteOfCell { p with funcs:=F } d t o=byteOfCell p d t o
 | 0,_,_=>rfl
 | d+1,t,o=>by
  unfold byteOfCell;have ih:=at3 d;simp only [ih];rfl
theorem aH6 (a:Addr):TM p F (byteOf a):=by
 unfold byteOf;split
 ·exact aa2 _
 ·refine av4 ?_ ?_
  ·(repeat' first | (with_reducible first | exact bK3 _ | exact aa6 _ | exact aa2 _) | focus ((with_reducible refine be8 (fun _=>?_) ?_); rotate_left; intros; rfl) | with_reducible refine aa1 ?_ fun _=>?_ | split | dsimp only)
  ·simp only [at3]; rfl
theorem bK2 (a:Addr) (i j:Nat):TM p F (partAt a i j):=by unfold partAt; (repeat' (with_reducible first | exact aH6 _ | exact aa2 _ | refine aa1 ?_ fun _=>?_))
theorem aE8 (a:Addr) (f:Field):TM p F (fieldPlace a f):=by unfold fieldPlace; (repeat' first | (with_reducible first | exact bK2 _ _ _ | exact af2 _ | exact aa2 _ | refine aa1 ?_ fun _=>?_) | split)
theorem by7 (t:TypeId) (v:Value) (i:Nat):TM p F (Instr.fieldAt t v i):=by unfold Instr.fieldAt; (repeat' first | (with_reducible first | exact aE8 _ _ | exact ao1 _ | exact aa5 _ | exact aa6 _ | exact aa2 _ | refine aa1 ?_ fun _=>?_) | split)
theorem bZ3 (t:TypeId) (ps:Array (Nat×Value)):TM p F (Instr.build t ps):=by
 unfold Instr.build
 (repeat' first | (with_reducible first | refine by1 (fun _=>?_) _ | exact af2 _ | exact ag5 _ | exact aa5 _ | exact aa6 _ | exact aa2 _ | refine aa1 ?_ fun _=>?_) | split)
theorem aB6 (e:Bool):∀ (n:Nat) (t:TypeId) (v:Value),TM p F (Instr.checkKey e n t v)
 | 0,_,_=>by unfold Instr.checkKey; (repeat' ((with_reducible refine af8 _ (h:=?_)); (intro _ h; cases h)))
 | n+1,t,v=>by
  have ih:=aB6 e n;unfold Instr.checkKey
  (repeat' first | (with_reducible first | refine aV5 (fun _ _=>?_) _ _ | refine aV6 _ (fun _ _ _=>?_) _ | exact ab2 _ | exact aE5 _ _ _ | exact bx7 _ | exact af2 _ | exact aa5 _ | exact ad3 _ | exact aa6 _ | exact aa2 _ | refine aa1 ?_ fun _=>?_) | split | dsimp only)
  all_goals exact ih _ _
theorem bI7:∀ (n:Nat) (t u:TypeId),Program.alikeButTags { p with funcs:=F } n t u=p.alikeButTags n t u
 | 0,_,_=>rfl
 | n+1,t,u=>by
  have ih:=bI7 n;unfold Program.alikeButTags;simp only [ih]
theorem aV9 (t:TypeId):Program.stoodInHeld { p with funcs:=F } t=p.stoodInHeld t:=by
 have h:=fun t u=>bI7 (F:=F) (p:=p) p.depth t u
 have h':∀ t u,Program.alikeButTags { p with funcs:=F } (Program.depth { p with funcs:=F }) t u=p.alikeButTags p.depth t u:=h;unfold Program.stoodInHeld Program.stoodInAs;simp only [h'];rfl
theorem aq8:∀ (n:Nat) (t:TypeId),Program.eqGuardType { p with funcs:=F } n t=p.eqGuardType n t
 | 0,_=>rfl
 | n+1,t=>by
  have ih:=aq8 n;unfold Program.eqGuardType;simp only [ih];rfl
theorem bx6 {t:TypeId}{f:TypeDesc->Sem α}(h:∀ d,p.underlying t=some d->TM p F (f d)):TM p F (underlying t >>= f):=by
 have e : (underlying t >>= f) = Sem.program fun q => ((match q.underlying t with | some d => (Pure.pure d : Sem TypeDesc) | none => stuck "no such type") >>= f) := rfl
 rw [e];refine .program rfl ?_;cases hd:p.underlying t with
 | none=>exact aa6 _
 | some d=>exact h d hd
def eqT (p:Program):Nat->TypeId->Bool
 | 0,_=>false
 | d+1,t=>match p.underlying t with
  | some (.pointer _) | some .unsafePointer | some (.interface _)=>false
  | some (.struct fs)=>fs.all fun f=>eqT p d f.type
  | some (.array _ e)=>eqT p d e
  | _=>true
theorem aJ8:∀ (n d:Nat) (t:TypeId) (x y:Value),eqT p n t=true->TM p F (Op.equalIn d t x y)
 | 0,_,_,_,_,h=>by simp [eqT] at h
 | _+1,0,_,_,_,_=>by unfold Op.equalIn; (repeat' ((with_reducible refine af8 _ (h:=?_)); (intro _ h; cases h)))
 | n+1,d+1,t,x,y,h=>by
  have ih:=fun t x y=>aJ8 n d t x y
  unfold Op.equalIn;refine bx6 fun ds hds=>?_
  simp only [eqT,hds] at h;split;all_goals first
   | (simp at h; done)
   | (refine av4 ?_ (by simp only [aV9])
      (repeat' first | (with_reducible first | refine aV6 _ (fun _ _ _=>?_) _ | exact aE5 _ _ _) | ((with_reducible refine af8 _ (h:=?_)); (intro _ h; cases h)) | (with_reducible first | exact aa2 _ | refine aa1 ?_ fun _=>?_) | split | dsimp only)
      all_goals exact ih _ _ _ (Array.all_eq_true_iff_forall_mem.1 h _ ‹_›))
   | ((repeat' first | (with_reducible first | exact aH6 _ | exact an6 _ | exact ad3 _) | ((with_reducible refine af8 _ (h:=?_)); (intro _ h; cases h)) | (with_reducible first | exact aa6 _ | exact aa2 _) | focus ((with_reducible refine av4 ?_ ?_); rotate_left; rfl) | with_reducible refine aa1 ?_ fun _=>?_ | split); done)
   | ((repeat' first | (with_reducible first | refine aV5 (fun _ _=>?_) _ _ | exact aE5 _ _ _ | exact af2 _ | exact aa2 _ | refine aa1 ?_ fun _=>?_) | split | dsimp only); exact ih _ _ _ h)
theorem aw1:∀ (d:Nat) (t:TypeId) (x y:Value),TM p F (Op.eqGuardIn d t x y)
 | 0,_,_,_=>by unfold Op.eqGuardIn; (repeat' ((with_reducible refine af8 _ (h:=?_)); (intro _ h; cases h)))
 | d+1,t,x,y=>by
  have ih:=aw1 d;unfold Op.eqGuardIn
  (repeat' first | (with_reducible first | refine aV5 (fun _ _=>?_) _ _ | refine aV6 _ (fun _ _ _=>?_) _ | exact aE5 _ _ _ | exact af2 _ | exact aa5 _ | exact aa2 _ | refine aa1 ?_ fun _=>?_) | split | dsimp only)
  all_goals exact ih _ _ _
theorem bq4 (t:TypeId) (x y:Operand) (a b:Value):TM p F (match a,b with
 | .nilIface,.nilIface=>
  if (x matches .const _)||(y matches .const _) then pure () else do
  if ← Op.eqGuardIn Op.maxDepth t a b then unsupported (.noEntry "binop/eql: two nil values of an interface type with methods, neither of them the literal nil")
 | .agg _,.agg _=>do
  if !(← program).eqGuardType (← program).depth t then pure () else do
  if ← Op.eqGuardIn Op.maxDepth t a b then unsupported (.noEntry "binop/eql: two nil values of an interface type with methods, in a part of a struct or an array")
 | _,_=>pure ()):=by
 split
 ·(repeat' first | with_reducible exact aw1 _ _ _ _ | ((with_reducible refine af8 _ (h:=?_)); (intro _ h; cases h)) | (with_reducible first | exact aa2 _ | refine aa1 ?_ fun _=>?_) | split)
 ·have e:(fun q:Program=>q.eqGuardType q.depth t) { p with funcs:=F }=(fun q:Program=>q.eqGuardType q.depth t) p:=aq8 p.depth t;refine Tame.program (k := fun q => Sem.program fun r => if !q.eqGuardType r.depth t then pure () else do if ← Op.eqGuardIn Op.maxDepth t (.agg _) (.agg _) then unsupported (.noEntry "binop/eql: two nil values of an interface type with methods, in a part of a struct or an array")) ?_ (.program rfl ?_)
  ·simp only [aq8]
  ·(repeat' first | with_reducible exact aw1 _ _ _ _ | ((with_reducible refine af8 _ (h:=?_)); (intro _ h; cases h)) | (with_reducible first | exact aa2 _ | refine aa1 ?_ fun _=>?_) | split)
 ·exact aa2 _
theorem by9 (op:BinOp) (t:TypeId) (x y:Operand) (a b:Value):TM p F (eqGuard op t x y a b):=by
 unfold eqGuard;cases op<;>first | exact aa2 _ | exact bq4 t x y a b
theorem a03 (q:Program) (d:Nat) (e:TypeId) (o:Nat) (b:Int):cellAtBytes q d e 0 o b=none:=by
 unfold cellAtBytes;simp only [xu];split
 ·rfl
 ·cases byteOfCell q d e (o % q.cellsOf e) with
  | none=>rfl
  | some h=>
   have hc:∀ z:Int,(decide (z<0)||decide (z>=Int.ofNat 0))=true:=fun z=>by
    have:Int.ofNat 0=0:=rfl
    rw [xe,lM,lM];omega
   simp only [Option.bind_eq_bind,lab];rw [ln (hc _)];rfl
theorem aG2:∀ (d:Nat) (t:TypeId) (o:Nat),cellOfByte { p with funcs:=F } d t o=cellOfByte p d t o
 | 0,_,_=>rfl
 | d+1,t,o=>by
  unfold cellOfByte;have ih:=aG2 d;simp only [ih];rfl
theorem a02 (d:Nat) (e:TypeId) (c o:Nat) (b:Int):cellAtBytes { p with funcs:=F } d e c o b=cellAtBytes p d e c o b:=by
 unfold cellAtBytes;simp only [at3,aG2];rfl
inductive Loose {α:Type}:Sem α->Prop
 | pure (a:α):Loose (.pure a)
 | shape {r k} (h:∀ o,Loose (k o)):Loose (.shape r k)
 | frozen {a k} (h:∀ b,Loose (k b)):Loose (.frozen a k)
def bJ2 {α:Type}(s:Sem α):Prop:=∀ q w es a w' es',s.runT q w es≠(.ok a w',es')
theorem bJ2.bind {x:Sem α}{f:α->Sem β}(h:∀ a,bJ2 (f a)):bJ2 (x >>= f):=by
 intro q w es a w' es' hr;rw [show (x >>= f)=x.bind f from rfl,Sem.runT_bind'] at hr;split at hr
 ·exact h _ _ _ _ _ _ _ hr
 ·cases hr
theorem Loose.tame {x:Sem α}(hx:Loose x) {f:α->Sem β}(hf:∀ a,TM p F (f a)) (hn:∀ a,bJ2 (f a)):TM p F (x >>= f):=by
 induction hx with
 | pure a=>exact hf a
 | @shape r k h ih=>
  refine Tame.shape (k:=fun o=>k o >>= f) ih fun T=> .inl ?_
  exact fun w es a w' es'=>bJ2.bind (x:=k (some (T,0))) hn p w es a w' es'
 | frozen h ih=>exact .frozen ih
theorem Loose.bind {x:Sem α}(hx:Loose x) {f:α->Sem β}(hf:∀ a,Loose (f a)):Loose (x >>= f):=by
 induction hx with
 | pure a=>exact hf a
 | shape h ih=>exact .shape ih
 | frozen h ih=>exact .frozen ih
theorem aL3 (a:Addr) (n:Nat):Loose (Builtin.holdsCells a n):=by
 unfold Builtin.holdsCells;refine .shape fun o=>?_
 show Loose (match o with | some (_,m)=>_ | none=>_);split<;>exact .pure _
theorem bD7 (s n:Nat) (b:Option Addr) (x:Value):Loose (match x with
   | .slice (some c) _ _=>do pure (!(← Builtin.holdsCells c (n*s))||b.any (·.block==c.block))
   | _=>(pure false:Sem Bool)):=by
 split
 ·exact (aL3 _ _).bind fun _=> .pure _
 ·exact .pure _
theorem a98 (s n:Nat) (b:Option Addr) (x:Value) (t:Bool):Loose (if (!t)=true then pure true else match x with
   | .slice (some c) _ _=>do pure (!(← Builtin.holdsCells c (n*s))||b.any (·.block==c.block))
   | _=>(pure false:Sem Bool)):=by
 split
 ·exact .pure _
 ·exact bD7 s n b x
theorem aP4 (s l n:Nat) (b:Option Addr) (x:Value):Loose (Builtin.mayShare s l n b x):=by
 unfold Builtin.mayShare;cases b with
 | none=>exact a98 s n none x true
 | some a=>exact (aL3 _ _).bind fun c=>Loose.bind (x:=frozen _) (.frozen fun d=> .pure d) fun d=>a98 s n (some a) x (c&&!d)
theorem aJ5 (ts:Array TypeId) (t:TypeId) (xs:Array Value):TM p F (Builtin.unsafeAdd_ ts t xs):=by
 have key:∀ (a:Addr) (n:Int),TM p F (do
   let some (e, cells) ← shape a.block | unsupported (.unsafePointer "Add")
   let q ← program
   match cellAtBytes q q.depth e (cells / q.cellsOf e) a.off n with
   | some off=>pure (.pointer (some { a with off }))
   | none => (unsupported (.unsafePointer "Add") : Sem Value)) := fun a n => by
  refine Tame.shape (fun o=>?_) fun T=> .inl ?_
  ·cases o with
   | none=>exact af8 _
   | some x=>
    obtain ⟨e,cells⟩:=x;refine av4 (k:=fun q=>match cellAtBytes q q.depth e (cells / q.cellsOf e) a.off n with
     | some off=>pure (.pointer (some { a with off }))
     | none => (unsupported (.unsafePointer "Add") : Sem Value)) ?_ ?_
    ·(repeat' first | ((with_reducible refine af8 _ (h:=?_)); (intro _ h; cases h)) | with_reducible exact aa2 _ | split)
    ·simp only [a02]; rfl
  ·intro w es v w' es' hr;simp only [program,Bind.bind,Sem.bind,Sem.runT,Nat.zero_div,a03,unsupported] at hr;cases hr
 rcases xs with ⟨_ | ⟨v,_ | ⟨u,_ | ⟨z,l⟩⟩⟩⟩
 ·exact aa6 _
 ·cases v<;>exact aa6 _
 ·cases v with
  | pointer ptr=>
   show TM p F (asInt u >>= _);refine aa1 (aJ9 _) fun n=>?_
   dsimp only;split
   ·split
    ·refine bj9 _ (fun c=>?_) fun x q w es b w' es' hr=>by cases hr
     split
     ·exact aa1 (af8 _) fun _=>aa2 _
     ·exact aa2 _
    ·refine aa1 (af8 _) fun _=>?_
     split
     ·refine aa1 (af8 _) fun _=>?_
      split
      ·exact key _ _
      ·exact af8 _
     ·split
      ·exact key _ _
      ·exact af8 _
   ·split
    ·refine aa1 (af8 _) fun _=>?_
     split
     ·exact key _ _
     ·exact af8 _
    ·split
     ·exact key _ _
     ·exact af8 _
  | _=>exact aa6 _
 ·cases v<;>exact aa6 _
theorem aR5 (op:BinOp) (k:IntKind) (x y:Int):TM p F (Op.intArith op k x y):=by unfold Op.intArith; (repeat' first | (with_reducible first | exact aa6 _ | exact aa2 _) | split)
theorem bK6 (op:BinOp) (k:IntKind) (x y:Int):TM p F (Op.intDiv op k x y):=by unfold Op.intDiv; (repeat' first | (with_reducible first | exact ab2 _ | exact aa6 _ | exact aa2 _) | split)
theorem a30 (op:BinOp) (k:IntKind) (x y:Int):TM p F (Op.intBits op k x y):=by unfold Op.intBits; (repeat' first | (with_reducible first | exact aa6 _ | exact aa2 _) | split)
theorem bK7 (op:BinOp) (x y:Int):TM p F (Op.intCmp op x y):=by unfold Op.intCmp; (repeat' first | (with_reducible first | exact aa6 _ | exact aa2 _) | split)
theorem bY5 (op:BinOp) (k:IntKind) (x:Int) (j:IntKind) (y:Int):TM p F (Op.shift op k x j y):=by unfold Op.shift; (repeat' first | (with_reducible first | exact ab2 _ | exact aa6 _ | exact aa2 _) | split)
theorem aB4 (op:BinOp) (x y:ByteArray):TM p F (Op.stringOp op x y):=by unfold Op.stringOp; (repeat' first | ((with_reducible refine af8 _ (h:=?_)); (intro _ h; cases h)) | (with_reducible first | exact aa6 _ | exact aa2 _) | split)
theorem aJ6 (a b:Addr):TM p F (Op.twoPlaces a b):=by unfold Op.twoPlaces; (repeat' first | with_reducible exact aH6 _ | ((with_reducible refine af8 _ (h:=?_)); (intro _ h; cases h)) | with_reducible exact aa2 _ | focus ((with_reducible refine av4 ?_ ?_); rotate_left; rfl) | with_reducible refine aa1 ?_ fun _=>?_ | split)
theorem bz4 (k:IntKind) (a b:Addr):TM p F (Op.addrSub k a b):=by unfold Op.addrSub; (repeat' (with_reducible first | exact aJ6 _ _ | exact aa2 _ | refine aa1 ?_ fun _=>?_))
theorem bz6 (op:BinOp) (a b:Addr):TM p F (Op.addrCmp op a b):=by unfold Op.addrCmp; (repeat' first | with_reducible exact aJ6 _ _ | ((with_reducible refine af8 _ (h:=?_)); (intro _ h; cases h)) | (with_reducible first | exact aa2 _ | refine aa1 ?_ fun _=>?_) | split)
theorem bz5 (k:IntKind) (a:Addr) (n:Int):TM p F (Op.addrMod k a n):=by unfold Op.addrMod; (repeat' first | (with_reducible first | exact aH6 _ | exact ad3 _) | ((with_reducible refine af8 _ (h:=?_)); (intro _ h; cases h)) | with_reducible exact aa2 _ | focus ((with_reducible refine be8 (fun _=>?_) ?_); rotate_left; intros; rfl) | with_reducible refine aa1 ?_ fun _=>?_ | split | dsimp only)
theorem aV3 (t:TypeId) (x y:Value):TM p F (movedNumber t x y):=by unfold movedNumber; (repeat' first | (with_reducible first | exact aJ5 _ _ _ | exact an6 _ | exact bq5 _ _ | exact aa5 _) | ((with_reducible refine af8 _ (h:=?_)); (intro _ h; cases h)) | (with_reducible first | exact aa2 _ | refine aa1 ?_ fun _=>?_) | split)
theorem aP0 (t:TypeId) (x y:Value):TM p F (movedPointer t x y):=by unfold movedPointer; (repeat' first | (with_reducible first | exact aJ5 _ _ _ | exact aR3 _) | ((with_reducible refine af8 _ (h:=?_)); (intro _ h; cases h)) | with_reducible refine aa1 ?_ fun _=>?_ | split)
theorem aE6 (op:BinOp) (k:FloatKind) (x y:Nat):TM p F (Op.floatArith op k x y):=by unfold Op.floatArith; (repeat' first | (with_reducible first | exact ai9 _ | exact aa6 _ | exact aa2 _ | refine aa1 ?_ fun _=>?_) | split | dsimp only)
theorem aR6 (op:BinOp) (k:FloatKind) (x y:Nat):TM p F (Op.floatCmp op k x y):=by unfold Op.floatCmp; (repeat' first | (with_reducible first | exact aa6 _ | exact aa2 _) | split)
theorem t_f2f (s:FloatKind) (x:Nat) (d:FloatKind):TM p F (Conv.floatToFloat s x d):=by unfold Conv.floatToFloat; (repeat' first | (with_reducible first | exact ai9 _ | exact aa2 _ | refine aa1 ?_ fun _=>?_) | split | dsimp only)
theorem ay7 (op:BinOp) (k:FloatKind) (x y:Nat):TM p F (Op.Complex.arith op k x y):=by unfold Op.Complex.arith; (repeat' first | (with_reducible first | exact aE6 _ _ _ _ | exact aa6 _ | exact aa2 _ | refine aa1 ?_ fun _=>?_) | split)
theorem bR1 (op:BinOp) (k:FloatKind) (x y:Nat):TM p F (Op.Complex.cmp op k x y):=by unfold Op.Complex.cmp; (repeat' (with_reducible first | exact aR6 _ _ _ _ | exact aH7 _ | refine aa1 ?_ fun _=>?_))
theorem bZ2 (s:FloatKind) (x:Nat) (d:FloatKind):TM p F (Op.Complex.conv s x d):=by unfold Op.Complex.conv; (repeat' first | (with_reducible first | exact t_f2f _ _ _ | exact aa6 _ | exact aa2 _ | refine aa1 ?_ fun _=>?_) | split)
theorem bz3 (x y:Nat):TM p F (Op.Complex.add x y):=ay7 _ _ _ _
theorem bz0 (x y:Nat):TM p F (Op.Complex.sub x y):=ay7 _ _ _ _
theorem bz2 (x y:Nat):TM p F (Op.Complex.mul x y):=ay7 _ _ _ _
theorem b83 (x y:Nat):TM p F (Op.Complex.quo x y):=ay7 _ _ _ _
theorem bY9 (a b c d:Nat):TM p F (Op.Complex.product a b c d):=by unfold Op.Complex.product; (repeat' (with_reducible first | exact bz2 _ _ | exact bz0 _ _ | exact bz3 _ _ | exact aa2 _ | refine aa1 ?_ fun _=>?_))
theorem bZ1 (s a b c d:Nat):TM p F (Op.Complex.corrected s a b c d):=by unfold Op.Complex.corrected; (repeat' (with_reducible first | exact bz2 _ _ | exact bz0 _ _ | exact bz3 _ _ | exact aa2 _ | refine aa1 ?_ fun _=>?_))
theorem bY8 (a b c d:Nat):TM p F (Op.Complex.quotient a b c d):=by unfold Op.Complex.quotient; (repeat' first | (with_reducible first | exact bZ1 _ _ _ _ _ | exact b83 _ _ | exact bz2 _ _ | exact bz0 _ _ | exact bz3 _ _ | exact bR1 _ _ _ _ | exact aa2 _ | refine aa1 ?_ fun _=>?_) | split | dsimp only)
theorem bf2 (op:BinOp) (k:FloatKind) (a b c d:Nat):TM p F (Op.complexOp op k a b c d):=by unfold Op.complexOp; (repeat' first | (with_reducible first | exact bY8 _ _ _ _ | exact bY9 _ _ _ _ | exact bZ2 _ _ _ | exact bR1 _ _ _ _ | exact ay7 _ _ _ _ | exact aa6 _ | exact aa2 _ | refine aa1 ?_ fun _=>?_) | split)
theorem bZ4 (op:BinOp) (t:TypeId) (x y:Value) (h:(op = .eql\/op = .neq)->∃ n,eqT p n t=true):TM p F (binOp op t x y):=by
 have he:(op = .eql\/op = .neq)->TM p F (Op.equal t x y):=fun ho=>(h ho).elim fun n hn=>aJ8 n _ t x y hn
 unfold binOp;split;all_goals first
  | (refine aa1 (he (.inl rfl)) fun _=>aa2 _)
  | (refine aa1 (he (.inr rfl)) fun _=>aa2 _)
  | ((repeat' first | (with_reducible first | exact bf2 _ _ _ _ _ _ | exact aR6 _ _ _ _ | exact aE6 _ _ _ _ | exact aP0 _ _ _ | exact aV3 _ _ _ | exact bz5 _ _ _ | exact bz6 _ _ _ | exact bz4 _ _ _ | exact aB4 _ _ _ | exact bY5 _ _ _ _ _ | exact bK7 _ _ _ | exact a30 _ _ _ _ | exact bK6 _ _ _ _ | exact aR5 _ _ _ _ | exact an6 _ | exact aa5 _) | ((with_reducible refine af8 _ (h:=?_)); (intro _ h; cases h)) | (with_reducible first | exact aa6 _ | refine aa1 ?_ fun _=>?_) | split); done)
theorem bY2 (op:UnOp) (x:Value):TM p F (Op.unary op x):=by unfold Op.unary; (repeat' first | (with_reducible first | exact a30 _ _ _ _ | exact aR5 _ _ _ _) | ((with_reducible refine af8 _ (h:=?_)); (intro _ h; cases h)) | (with_reducible first | exact aa6 _ | exact aa2 _) | split)
theorem by3 (v:Value):TM p F (Builtin.lenOf v):=by unfold Builtin.lenOf; (repeat' first | (with_reducible first | exact aa6 _ | exact aa2 _) | split)
theorem ar8 (s n:Nat) (v:Value):TM p F (Builtin.firstCells s n v):=by unfold Builtin.firstCells; (repeat' first | (with_reducible first | exact aJ7 _ _ | exact aa6 _ | exact aa2 _) | split)
theorem b84 (ts:Array TypeId) (t:TypeId) (xs:Array Value):TM p F (Builtin.copy_ ts t xs):=by unfold Builtin.copy_; (repeat' first | (with_reducible first | exact ar8 _ _ _ | exact by3 _ | exact ak7 _ _ _ | exact af2 _ | exact aa5 _ | exact aa6 _ | exact aa2 _ | refine aa1 ?_ fun _=>?_) | split)
theorem bZ0 (hs:LoopOK.set) (ts:Array TypeId) (t:TypeId) (xs:Array Value):TM p F (Builtin.clear_ ts t xs):=by unfold Builtin.clear_; (repeat' first | (with_reducible first | exact ak7 _ _ _ | exact ag5 _ | exact aa5 _ | exact aa6 _) | ((with_reducible refine bk0 _ _ (by assumption) (nv:=?_) (np:=?_) (nc:=?_) (nl:=?_))<;>first | (intro _ _ _ h; cases h; done) | (intro _ _ h; cases h; done) | (intro _ h; cases h; done)) | with_reducible exact aa2 _ | focus ((with_reducible refine at9 (fun _ _=>?_) ?_ ?_); rotate_left; (intro _ _ c hc; cases hc<;>rfl); intros; rfl) | with_reducible refine aa1 ?_ fun _=>?_ | split)
theorem t_len (ts:Array TypeId) (t:TypeId) (xs:Array Value):TM p F (Builtin.len_ ts t xs):=by unfold Builtin.len_; (repeat' first | (with_reducible first | exact aa5 _ | exact aa6 _ | exact aa2 _) | focus ((with_reducible refine at9 (fun _ _=>?_) ?_ ?_); rotate_left; (intro _ _ c hc; cases hc<;>rfl); intros; rfl) | with_reducible refine aa1 ?_ fun _=>?_ | split)
theorem t_cap (ts:Array TypeId) (t:TypeId) (xs:Array Value):TM p F (Builtin.cap_ ts t xs):=by unfold Builtin.cap_; (repeat' first | (with_reducible first | exact aa5 _ | exact aa6 _ | exact aa2 _) | focus ((with_reducible refine at9 (fun _ _=>?_) ?_ ?_); rotate_left; (intro _ _ c hc; cases hc<;>rfl); intros; rfl) | with_reducible refine aa1 ?_ fun _=>?_ | split)
theorem aV8 {γ:Type}{f:β->α->Sem β}(h:∀ b a,TM p F (f b a)):∀ (l:List α) (b:β),TM p F (l.foldlM f b)
 | [],b=>by rw [List.foldlM_nil]; exact aa2 _
 | a::l,b=>by
  rw [List.foldlM_cons];exact aa1 (h b a) fun _=>aV8 (γ:=γ) h l _
theorem b81 (x y:Value):TM p F (Builtin.max2 x y):=by unfold Builtin.max2; (repeat' first | (with_reducible first | exact aB4 _ _ _ | exact aH7 _ | exact ai9 _) | ((with_reducible refine af8 _ (h:=?_)); (intro _ h; cases h)) | (with_reducible first | exact aa6 _ | exact aa2 _ | refine aa1 ?_ fun _=>?_) | split)
theorem b80 (x y:Value):TM p F (Builtin.min2 x y):=by unfold Builtin.min2; (repeat' first | (with_reducible first | exact aB4 _ _ _ | exact aH7 _ | exact ai9 _) | ((with_reducible refine af8 _ (h:=?_)); (intro _ h; cases h)) | (with_reducible first | exact aa6 _ | exact aa2 _ | refine aa1 ?_ fun _=>?_) | split)
theorem t_max (ts:Array TypeId) (t:TypeId) (xs:Array Value):TM p F (Builtin.max_ ts t xs):=by
 unfold Builtin.max_;split
 ·exact aa6 _
 ·exact aV8 (γ:=Unit) b81 _ _
theorem t_min (ts:Array TypeId) (t:TypeId) (xs:Array Value):TM p F (Builtin.min_ ts t xs):=by
 unfold Builtin.min_;split
 ·exact aa6 _
 ·exact aV8 (γ:=Unit) b80 _ _
theorem aV4:TM p F (mark .noRoom):= .noRoom (.pure ())
theorem bL0 (s l n : Nat) (b : Option Addr) (x : Value) {γ : Type} (z : Bool) : TM p F (if z then runtimePanic (.error "growslice: len out of range") else do
   if !(← Builtin.mayShare s l n b x) then mark .noRoom
   (unsupported (.resourceLimit "append: a slice or a string whose bytes no memory bears") : Sem γ)) := by
 split
 ·(repeat' with_reducible exact ab2 _)
 ·refine (aP4 s l n b x).tame (fun c=>?_) fun c=>?_
  ·(repeat' first | with_reducible exact aV4 | ((with_reducible refine af8 _ (h:=?_)); (intro _ h; cases h)) | with_reducible refine aa1 ?_ fun _=>?_ | split)
  ·intro q w es a w' es' hr;cases c<;>simp [mark,unsupported,Sem.runT,Sem.run,bind,Sem.bind] at hr
theorem bK9 (ts:Array TypeId) (t:TypeId) (xs:Array Value):TM p F (Builtin.append_ ts t xs):=by
 unfold Builtin.append_;split
 ·rename_i sType s x _;refine aa1 (aa5 _) fun d=>?_
  split
  ·rename_i elem;split
   ·rename_i base sLen sCap;refine aa1 (af2 _) fun size=>?_
    extract_lets j1 jp
    have hp:∀ z,TM p F (jp z):=by
     intro zeros;simp (config:={ zeta:=false,zetaHave:=false }) only [jp]
     extract_lets jn
     have hn:∀ n,TM p F (jn n):=by
      intro n;simp (config:={ zeta:=false,zetaHave:=false }) only [jn]
      extract_lets app need js jb ja
      have happ:TM p F app:=by simp only [app]; (repeat' first | (with_reducible first | exact ar8 _ _ _ | exact ag5 _ | exact aa2 _ | refine aa1 ?_ fun _=>?_) | split)
      have hs:∀ u,TM p F (js u):=by
       intro u;simp (config:={ zeta:=false,zetaHave:=false }) only [js]
       exact aa2 _
      have hb:∀ u,TM p F (jb u):=by
       intro u;simp (config:={ zeta:=false,zetaHave:=false }) only [jb]
       refine aa1 (ai9 _) fun nc=>aa1 (ad3 _) fun ti=>aa1 (a42 _) fun _=>aa1 (ar8 _ _ _) fun old=>aa1 happ fun new=>aa1 (ag5 _) fun z=>?_
       (repeat' (with_reducible first | exact aH4 _ _ | exact aa2 _ | refine aa1 ?_ fun _=>?_))
      have ha:∀ u,TM p F (ja u):=by
       intro u;simp (config:={ zeta:=false,zetaHave:=false }) only [ja]
       refine aa1 (ad3 _) fun ti=>?_
       split
       ·exact aa1 (bL0 size base n _ x zeros) hb
       ·exact hb ()
      split
      ·refine aa1 happ fun new=>?_
       split
       ·exact aa1 (ak7 _ _ _) hs
       ·exact hs ()
      ·refine aa1 (ad3 _) fun ti=>?_
       split
       ·exact aa1 (ab2 _) ha
       ·exact ha ()
     split
     ·refine aa1 (aJ9 _) fun i=>?_
      extract_lets l jd jc
      have hd:∀ u,TM p F (jd u):=by
       intro u;simp (config:={ zeta:=false,zetaHave:=false }) only [jd]
       exact aa1 (aa2 _) hn
      have hc:∀ u,TM p F (jc u):=by
       intro u;simp (config:={ zeta:=false,zetaHave:=false }) only [jc]
       refine aa1 (ad3 _) fun ti=>?_
       split
       ·refine aa1 (ai9 _) fun m=>aa1 (ab2 _) hd
       ·exact hd ()
      split
      ·exact aa1 (ab2 _) hc
      ·exact hc ()
     ·exact aa1 (by3 _) hn
    split
    ·exact aa1 (aa5 _) fun d=>aa1 (aa2 _) hp
    ·exact aa1 (aa2 _) hp
   ·exact aa6 _
  ·exact aa6 _
 ·exact aa6 _
end
end Hid
namespace Hid
open Go.RowKit Go.Conc
variable [LoopOK]
section
variable {p:Program}{F:Array Func}{α β:Type}
theorem a34 (s:FloatKind) (x:Nat) (k:IntKind):TM p F (Conv.floatToInt s x k):=by unfold Conv.floatToInt; (repeat' first | (with_reducible first | exact ai9 _ | exact aa2 _ | refine aa1 ?_ fun _=>?_) | split)
theorem bz1 {src dst:TypeId}{j k:IntKind}(hs:p.underlying src=some (.int j)) (hd:p.underlying dst=some (.int k)) (x:Value):TM p F (convert src dst x):=by
 unfold convert;refine bx6 fun a ha=>bx6 fun b hb=>?_
 rw [hs] at ha;rw [hd] at hb;cases ha;cases hb;cases x with
 | int i n=>exact aa2 _
 | float s b=>exact a34 s b k
 | pointer a=>cases a<;>exact af8 _
 | _=>exact af8 _
theorem aE7 {n:Nat}{kt:TypeId}(h:eqT p n kt=true) (k:Value):∀ (l:List MapEntry) (i:Nat),TM p F (Instr.findAsking kt k l i)
 | [],_=>aa2 _
 | e::l,i=>by
  unfold Instr.findAsking;refine aa1 (aJ8 n _ kt k e.key h) fun b=>?_
  split
  ·exact aa2 _
  ·exact aE7 h k l (i+1)
theorem a36 {n:Nat}{kt:TypeId}(h:eqT p n kt=true) (k:Value) (l:List MapEntry):TM p F (Instr.findKey kt k l):=by
 unfold Instr.findKey;refine aa1 (aa5 _) fun d=>?_
 split
 ·exact aa2 _
 ·exact aE7 h k l 0
theorem bK4 {n:Nat}{t kt et:TypeId}(ht:p.underlying t=some (.map kt et)) (h:eqT p n kt=true) (x i:Value) (ok:Bool):TM p F (Instr.lookup t x i ok):=by
 have hk:=fun (k:Value) l=>a36 (F:=F) h k l
 have hc:=fun (e:Bool) n t (v:Value)=>aB6 (p:=p) (F:=F) e n t v
 unfold Instr.lookup;refine bx6 fun d hd=>?_
 rw [ht] at hd;cases hd;dsimp only
 (repeat' first | (with_reducible first | exact ag5 _ | exact aa6 _ | exact aa2 _) | focus ((with_reducible refine at9 (fun _ _=>?_) ?_ ?_); rotate_left; (intro _ _ c hc; cases hc<;>rfl); intros; rfl) | with_reducible refine aa1 ?_ fun _=>?_ | split)
 all_goals first | exact hc _ _ _ _ | exact hk _ _ | skip
theorem aP1 (a b:Value):TM p F (Instr.keyThatStays a b):=by unfold Instr.keyThatStays; (repeat' first | (with_reducible first | exact ai9 _ | exact aa2 _ | refine aa1 ?_ fun _=>?_) | split)
theorem be9 (hs:LoopOK.set) {n:Nat}{t kt et:TypeId}(ht:p.underlying t=some (.map kt et)) (h:eqT p n kt=true) (m k v:Value):TM p F (Instr.mapUpdate t m k v):=by
 have hk:=fun (k:Value) l=>a36 (F:=F) h k l
 have hc:=fun (e:Bool) n t (v:Value)=>aB6 (p:=p) (F:=F) e n t v
 have hy:=fun a b=>aP1 (p:=p) (F:=F) a b
 unfold Instr.mapUpdate;refine bx6 fun d hd=>?_
 rw [ht] at hd;cases hd;dsimp only
 (repeat' first | (with_reducible first | exact ab2 _ | exact aa6 _) | ((with_reducible refine bk0 _ _ (by assumption) (nv:=?_) (np:=?_) (nc:=?_) (nl:=?_))<;>first | (intro _ _ _ h; cases h; done) | (intro _ _ h; cases h; done) | (intro _ h; cases h; done)) | focus ((with_reducible refine at9 (fun _ _=>?_) ?_ ?_); rotate_left; (intro _ _ c hc; cases hc<;>rfl); intros; rfl) | with_reducible refine aa1 ?_ fun _=>?_ | split)
 all_goals first | exact hc _ _ _ _ | exact hk _ _ | exact hy _ _ | skip
theorem aB5 (t:TypeId) (x:Place):TM p F (Place.get t x):=by unfold Place.get; (repeat' first | (with_reducible first | exact ay5 _ _ | exact aa2 _) | split)
theorem aV7:∀ (l:List FieldStep) (t:TypeId) (x:Place),TM p F (follow l t x)
 | [],_,_=>aa2 _
 | s::l,t,x=>by
  have ih:=aV7 l;unfold follow
  (repeat' first | (with_reducible first | exact aB5 _ _ | exact aE8 _ _ | exact aH8 _ | exact aE5 _ _ _ | exact aa5 _ | exact aa6 _ | refine aa1 ?_ fun _=>?_) | split)
  all_goals exact ih _ _
theorem t_ssa (ts : Array TypeId) (t : TypeId) (v : Value) (s : String) : TM p F (Builtin.ssaWrapNilChk_ ts t #[v, strVal "", strVal s]) := by
 show TM p F (match v with
  | .pointer (some _)=>pure v
  | .pointer none=>_
  | _ => stuck "ssa:wrapnilchk: pointer expected")
 cases v with
 | pointer a=>
  cases a with
  | some a=>exact aa2 _
  | none=>dsimp only; (repeat' first | (with_reducible first | exact ab2 _ | exact aa5 _ | exact ad3 _ | exact ai9 _) | ((with_reducible refine af8 _ (h:=?_)); (intro _ h; cases h)) | (with_reducible first | exact aa6 _ | refine aa1 ?_ fun _=>?_) | split)
 | _=>exact aa6 _
theorem aE4 (t:TypeId) (x:Place) (b:Bool) (w:Option String):TM p F (receiverAt t x b w):=by unfold receiverAt; (repeat' first | (with_reducible first | exact t_ssa _ _ _ _ | exact aB5 _ _ | exact aH8 _ | exact ay5 _ _ | exact aa5 _ | exact aa6 _ | exact aa2 _ | refine aa1 ?_ fun _=>?_) | split)
theorem aV1 (t:TypeId) (v:Value) (l:Array FieldStep) (b:Bool):TM p F (receiverVia t v l b):=by unfold receiverVia; (repeat' (with_reducible first | exact aE4 _ _ _ _ | exact aV7 _ _ _ | refine aa1 ?_ fun _=>?_))
theorem bk1:∀ (n:Nat) (t:TypeId) (v:Value) (s:String),TM p F (method n t v s)
 | 0,_,_,_=>af8 _
 | n+1,t,v,s=>by
  have ih:=bk1 n;unfold method
  (repeat' first | (with_reducible first | exact aE4 _ _ _ _ | exact aV7 _ _ _ | exact aB5 _ _ | exact ab2 _ | exact ad3 _ | exact aa6 _ | exact aa2 _ | refine aa1 ?_ fun _=>?_) | split)
  all_goals exact ih _ _ _
theorem ay6:∀ (l:List FieldStep) (t:TypeId) (x:Option Value),TM p F (followBlind l t x)
 | [],_,_=>aa2 _
 | s::l,t,x=>by
  have ih:=ay6 l;unfold followBlind
  (repeat' first | (with_reducible first | exact aE5 _ _ _ | exact aa5 _ | exact aa6 _ | exact aa2 _ | refine aa1 ?_ fun _=>?_) | split)
  all_goals exact ih _ _
theorem aR4:∀ (n:Nat) (t:TypeId) (v:Value) (s:String),TM p F (nilAhead n t v s)
 | 0,_,_,_=>aa2 _
 | n+1,t,v,s=>by
  have ih:=aR4 n;unfold nilAhead
  (repeat' first | (with_reducible first | exact ay6 _ _ _ | exact aa5 _ | exact ad3 _ | exact aa6 _ | exact aa2 _ | refine aa1 ?_ fun _=>?_) | split)
  all_goals exact ih _ _ _
abbrev TN (p:Program) (F:Array Func) (s:Sem Next):Prop:=TameN p { p with funcs:=F } s
theorem n_v {s:Sem Value}(h:TM p F s):TN p F (do pure (.value (← s))):= .bind h fun v=> .val v
theorem n_u {s:Sem Unit}(h:TM p F s):TN p F (do s; pure .skip):= .bind h fun _=> .skip
theorem aS6 {s:Sem α}{f:α->Sem Next}(h:TM p F s) (hf:∀ a,TN p F (f a)):TN p F (s >>= f):= .bind h hf
theorem aC0 (s:String):TN p F (stuck s):= .bind (β:=Empty) (s:=stuck s) (f:=fun e=>e.elim) (aa6 s) fun e=>e.elim
theorem bN0:TN p F (runtimePanic .nilDeref):= .bind (β:=Empty) (s:=runtimePanic .nilDeref) (f:=fun e=>e.elim) (ab2 _) fun e=>e.elim
theorem aF4 (hf:∀ f,LoopOK.fn f) (v:Value) (s:String) (args:Array Value):TN p F (callMethod v s args):=by
 unfold callMethod;split
 ·rename_i t v;exact aS6 (s:=program >>= fun q=>method (q.types.size+Made.depth) t v s) (av4 (bk1 _ _ _ _) rfl) fun x=> .call x.1 (#[x.2]++args) (hf _)
 ·exact bN0
 ·exact aC0 _
theorem b28 (hl:∀ r,¬ LoopOK.ok r) (l:Nat) (args:Array Value):TN p F (Instr.yield l args):=by
 show TN p F (Sem.getObj l _);refine .obj (fun o ho=>?_) (fun a u=> .inr fun w es x w' es' hr=>by cases hr) (by intros; rfl);cases o with
 | loop r=>exact (hl r (ho r rfl)).elim
 | _=>exact aC0 _
theorem aS5 (hf:∀ f,LoopOK.fn f) (hl:∀ r,¬ LoopOK.ok r) (fn:Fn) (cap args:Array Value):TN p F (invoke (.fn fn cap) args):=by
 cases fn with
 | func f=>exact .call f _ (hf _)
 | method s=>
  simp only [invoke];split
  ·exact aF4 hf _ _ _
  ·exact aC0 _
 | methodOf t s=>
  simp only [invoke];split
  ·refine aS6 (aa5 _) fun d=>?_
   exact aF4 hf _ _ _
  ·exact aC0 _
 | via t path f b=>
  simp only [invoke];split
  ·exact aS6 (aV1 _ _ _ _) fun v=> .call _ _ (hf _)
  ·exact aC0 _
 | yield l=>exact b28 hl l args
def bX3 (p:Program) (t:TypeId):Bool:=match p.underlying t with | some (.int _)=>true | _=>false
def bN1 (p:Program) (t:TypeId):Bool:=match p.underlying t with | some (.map k _)=>eqT p 8 k | _=>false
def biOK (full:Bool):Builtin->Bool
 | .append | .cap | .copy | .len | .max | .min=>true
 | .clear=>full
 | _=>false
def bH3 (full:Bool) (J:FuncId->Bool) (c:Call):Bool:=match c.callee with
 | .builtin b=>biOK full b
 | .value (.func f)=>full||J f
 | _=>full
def opOK (p:Program) (full:Bool) (J:FuncId->Bool) (o:Oper):Bool:=match o.op with
 | .move _ | .assign _ | .pick _ _ _ | .alloc _ | .box _ _ | .build _ _ | .buildSlice _ _ _ | .load _ _ | .store _ _ _ | .nilCheck _ | .unOp _ _ _ | .makeFunc _ _ _ | .makeMap _ _ | .makeChan _ _ | .makeSlice _ _ _
 | .slice _ _ _ _ _ | .fieldAddr _ _ _ | .field _ _ _ | .indexAddr _ _ _ | .index _ _ _ | .extract _ _=>true
 | .binOp op t _ _ _=>match op with | .eql | .neq=>eqT p 8 t | _=>true
 | .convert s d _=>bX3 p s&&bX3 p d
 | .lookup t _ _ _=>bN1 p t
 | .mapUpdate t _ _ _=>full&&bN1 p t
 | .call c=>bH3 full J c
 | _=>false
theorem bD4 {full:Bool}(hs:full=true->LoopOK.set) {b:Builtin}(hb:biOK full b=true) (ts:Array TypeId) (t:TypeId) (cs:Array Bool) (xs:Array Value):TN p F (builtin b ts t cs xs):=by
 unfold builtin;cases b<;>first
  | (cases hb; done)
  | exact n_v (bK9 _ _ _)
  | exact n_v (t_cap _ _ _)
  | exact n_v (bZ0 (hs hb) _ _ _)
  | exact n_v (b84 _ _ _)
  | exact n_v (t_len _ _ _)
  | exact n_v (t_max _ _ _)
  | exact n_v (t_min _ _ _)
theorem cd4 {full:Bool}{J:FuncId->Bool}(hs:full=true->LoopOK.set) (hf:full=true->∀ f,LoopOK.fn f) (hJ:∀ f,J f=true->LoopOK.fn f) (hl:∀ r,¬ LoopOK.ok r) (ρ:Operand->Value) (hρ:∀ f,ρ (.func f) = .func (.func f) #[] #[]) (c:Call) (t:TypeId) (h:bH3 full J c=true):TN p F (do let d ← resolve ρ c t; invoke d.target d.args):=by
 obtain ⟨cal,args,ats⟩:=c;cases cal with
 | builtin b=>exact bD4 hs h _ _ _ _
 | invoke r s=>exact aS5 (hf h) hl (.method s) #[] _
 | value f=>
  have key:full=true->TN p F (Deferred.ofValue (ρ f) (args.map ρ) >>= fun d=>invoke d.target d.args):=fun hh=>by
   unfold Deferred.ofValue;cases ρ f with
   | func fn first cap=>exact aS5 (hf hh) hl fn _ _
   | nilFunc=>show TN p F (runtimePanic .nilDeref); exact bN0
   | _=>exact aC0 _
  show TN p F (Deferred.ofValue (ρ f) _ >>= _);cases f with
  | func g=>
   rw [hρ];simp only [bH3,xe] at h;exact .call g _ (h.elim (fun e=>hf e g) (hJ g))
  | _=>exact key h
theorem bS9 {full:Bool}{J:FuncId->Bool}(hs:full=true->LoopOK.set) (hf:full=true->∀ f,LoopOK.fn f) (hJ:∀ f,J f=true->LoopOK.fn f) (hl:∀ r,¬ LoopOK.ok r) {o:Oper}(h:opOK p full J o=true):OpT p { p with funcs:=F } o:=by
 intro ρ hρ;obtain ⟨dst,op,ty,ps,af,gd⟩:=o;unfold execOp;cases op<;>try (exfalso; simp [opOK] at h; done)
 case move x=>exact .val _
 case assign x=>exact .val _
 case pick c a b=>exact aS6 (aH7 _) fun _=> .val _
 case alloc t=>exact n_v (bZ6 _)
 case box t x=>exact n_v (t_box _ _)
 case build t ps=>exact n_v (bZ3 _ _)
 case buildSlice t n ps=>exact n_v (a38 _ _ _)
 case load t a=>exact n_v (bK5 _ _)
 case store t a x=>exact n_u (bx9 _ _ _)
 case unOp op t x=>exact n_v (bY2 _ _)
 case makeFunc f a b=>exact n_v (aa2 _)
 case makeMap t r=>exact n_v (by2 _ _)
 case makeChan t r=>exact n_v (bq3 _ _)
 case makeSlice t l c=>exact n_v (bf0 _ _ _)
 case slice t x a b c=>exact n_v (by0 _ _ _ _ _)
 case fieldAddr t x i=>exact n_v (by7 _ _ _)
 case field t x i=>exact n_v (bY7 _ _ _)
 case indexAddr t x i=>exact n_v (by5 _ _ _)
 case index t x i=>exact n_v (bY6 _ _ _)
 case extract x i=>exact n_v (by8 _ _)
 case nilCheck x=>
  dsimp only;split;all_goals first | exact bN0 | exact .val _ | skip
  split
  ·exact bN0
  ·rename_i t w _;refine aS6 (s:=program >>= fun q=>nilAhead (q.types.size+Made.depth) t w _) (av4 (aR4 _ _ _ _) rfl) fun b=>?_
   split
   ·exact aS6 (af8 _) fun _=> .val _
   ·exact .val _
  ·exact .val _
 case binOp op t x y z=>
  refine n_v (aa1 (by9 _ _ _ _ _ _) fun _=>bZ4 _ _ _ _ fun ho=>⟨8,?_⟩);rcases ho with rfl | rfl<;>exact h
 case convert s d x=>
  simp only [opOK,lu,bX3] at h;obtain ⟨h1,h2⟩:=h;split at h1
  ·split at h2
   ·exact n_v (bz1 ‹_› ‹_› _)
   ·cases h2
  ·cases h1
 case lookup t x i ok=>
  simp only [opOK,bN1] at h;split at h
  ·exact n_v (bK4 ‹_› h _ _ _)
  ·cases h
 case mapUpdate t m k v=>
  simp only [opOK,bN1,lu] at h;obtain ⟨h0,h⟩:=h;split at h
  ·exact n_u (be9 (hs h0) ‹_› h _ _ _)
  ·cases h
 case call c=>exact cd4 hs hf hJ hl ρ hρ c ty h
def al4 (p:Program) (full:Bool) (J:FuncId->Bool):Code->Bool
 | .region _ ops _=>ops.toList.all (opOK p full J)
 | .seq x y=>al4 p full J x&&al4 p full J y
 | .cond _ x y=>al4 p full J x&&al4 p full J y
 | .block _ c=>al4 p full J c
 | .loop c=>al4 p full J c
 | .scope c=>al4 p full J c
 | .rangeFunc .. | .goto _=>false
 | _=>true
theorem bH0 {full:Bool}{J:FuncId->Bool}(hs:full=true->LoopOK.set) (hf:full=true->∀ f,LoopOK.fn f) (hJ:∀ f,J f=true->LoopOK.fn f) (hl:∀ r,¬ LoopOK.ok r):∀ {c:Code},al4 p full J c=true->at6 p { p with funcs:=F } c:=by
 intro c;induction c with
 | region i ops d=>exact fun h o ho=>bS9 hs hf hJ hl (lZ.1 h o ho)
 | seq x y ix iy=>exact fun h=>by simp only [al4,lu] at h; exact ⟨ix h.1,iy h.2⟩
 | cond t x y ix iy=>exact fun h=>by simp only [al4,lu] at h; exact ⟨ix h.1,iy h.2⟩
 | block i c ih=>exact fun h=>ih h
 | loop c ih=>exact fun h=>ih h
 | scope c ih=>exact fun h=>ih h
 | rangeFunc _ _ _ _=>exact fun h=>by cases h
 | goto _=>exact fun h=>by cases h
 | _=>exact fun _=>trivial
theorem a68 (fn:Func) (t:Array Value):TM p F (results fn t):=by
 unfold results;refine aa1 (by1 (fun r=>?_) _) fun _=>aa2 _
 split
 ·exact aa2 _
 ·exact aa1 (aH8 _) fun _=>ay5 _ _
theorem bB9 {full:Bool}{J:FuncId->Bool}(hst:full=true->LoopOK.set) (hfn:full=true->∀ f,LoopOK.fn f) (hJ:∀ f,J f=true->LoopOK.fn f) (hJ':∀ f,LoopOK.fn f->full=true\/J f=true)
  (hl : ∀ r, ¬ LoopOK.ok r) (hs : p.funcs.size = F.size) (hb : ∀ (f : FuncId) (fn : Func), p.funcs[f]? = some fn → ∃ b Fn, fn.body = some b ∧ (full = true ∨ J f = true → al4 p full J b = true) ∧ (fn.name == "runtime.NumGoroutine") = false ∧ F[f]? = some Fn ∧ Fn = { fn with body := Fn.body }) : Pair p { p with funcs := F } := by
 refine ⟨⟨rfl,fun f fn hf=>?_,hs⟩,fun f fn b hJf hf hb'=>?_,fun f fn t _=>a68 fn t,fun f fn hf=>?_⟩
 ·obtain ⟨b,Fn,h1,_,_,h4,h5⟩:=hb f fn hf;exact ⟨b,Fn,h1,h4,h5⟩
 ·obtain ⟨b',Fn,h1,h2,_⟩:=hb f fn hf;rw [hb'] at h1;cases h1;exact bH0 hst hfn hJ hl (h2 (hJ' f hJf))
 ·obtain ⟨b',Fn,_,_,h3,_⟩:=hb f fn hf;exact h3
end
end Hid
namespace Hid
open Go Go.Proofs
def jobF (f:FuncId):Bool:=f==70||f==91
noncomputable instance noLoops:LoopOK:=⟨fun _=>False,True,fun _=>True⟩
@[reducible] noncomputable def aL8:LoopOK:=⟨fun _=>False,False,fun f=>jobF f=true⟩
noncomputable def op1 (d : Option Tmp) (op : Op) (t : TypeId) : Oper := { dst := d, op, type := t, pos := "", after := #[], guard := none }
noncomputable def no1 (d:Tmp) (t:TypeId):Oper:=op1 (some d) (.box t (.const (.agg #[]))) 0
noncomputable def aw5:Array Oper:=#[op1 (some 17) (.call { callee:= .builtin .len,args:=#[.tmp 0],argTypes:=#[22] }) 3,op1 (some 18) (.call { callee:= .builtin .len,args:=#[.tmp 3],argTypes:=#[46] }) 3,
 op1 (some 22) (.binOp .lss 3 (.tmp 1) (.const (.int .i64 0)) 3) 4,op1 (some 23) (.binOp .lss 3 (.tmp 2) (.const (.int .i64 0)) 3) 4,op1 (some 24) (.binOp .lss 3 (.tmp 4) (.const (.int .i64 0)) 3) 4,op1 (some 21) (.binOp .eql 3 (.tmp 5) (.const (.int .i64 1)) 3) 4,op1 (some 25) (.binOp .leq 3 (.tmp 18) (.const (.int .i64 8)) 3) 4]
noncomputable def opsT1:Array Oper:=#[no1 6 22,no1 7 3,no1 8 3,no1 9 46,no1 10 3,op1 (some 12) (.assign (.const (.slice none 0 0))) 90]
noncomputable def opsT2:Array Oper:=#[op1 (some 19) (.makeSlice 90 (.tmp 18) (.tmp 18)) 90,no1 13 90]
noncomputable def opsT3:Array Oper:=#[op1 (some 20) (.makeChan 117 (.const (.int .i64 0))) 117,no1 14 117]
noncomputable def opsT4:Array Oper:=#[no1 15 127]
noncomputable def opsT5:Array Oper:=#[op1 (some 29) (.move (.const (.int .i64 0))) 3]
noncomputable def cb6:Array Oper:=#[op1 (some 30) (.binOp .lss 3 (.tmp 29) (.tmp 18) 3) 4]
noncomputable def bC3:Array Oper:=#[op1 (some 26) (.indexAddr 46 (.tmp 3) (.tmp 29)) 0,op1 (some 31) (.load 3 (.tmp 26)) 3,
 op1 (some 33) (.call { callee:= .value (.func 70),args:=#[.tmp 0,.tmp 1,.tmp 2,.tmp 31,.tmp 4],argTypes:=#[22,3,3,3,3] }) 92,op1 (some 35) (.indexAddr 90 (.tmp 19) (.tmp 29)) 0,op1 none (.store 92 (.tmp 35) (.tmp 33)) 0]
noncomputable def opsT8:Array Oper:=#[op1 (some 34) (.binOp .add 3 (.tmp 29) (.const (.int .i64 1)) 3) 3,op1 (some 29) (.move (.tmp 34)) 3]
noncomputable def opsT9:Array Oper:=#[op1 (some 12) (.assign (.tmp 19)) 90]
noncomputable def bv3:Code:= .seq (.region 10 cb6 false) (.seq (.cond (.tmp 30) .skip (.exit 2)) (.seq (.region 12 bC3 false) (.region 13 opsT8 false)))
noncomputable def bY1:Code:= .seq (.region 16 opsT9 false) .ret
noncomputable def as4:Code:=
 .seq (.region 90 aw5 false) <| .seq (.cond (.tmp 21) .skip (.refuse "more than one goroutine")) <| .seq (.cond (.tmp 25) .skip (.refuse "more than eight inks")) <|
 .seq (.region 0 opsT1 false) <| .seq (.region 1 opsT2 false) <| .seq (.region 2 opsT3 false) <| .seq (.region 3 opsT4 false) <|
 .seq (.region 9 opsT5 false) <| .seq (.block 2 (.loop bv3)) bY1
noncomputable def keepB (i:Nat):Bool:=!(i∈[93,95,96,115,116,117,118,119,130,131,132,133,134,135,136,137,138,139,140,141,142,143,144,145,49,0,67,68,71,1,78,79,80,81,82,83,86,89,90,92])
noncomputable def twf (i : Nat) (f : Func) : Func := if i = 49 then { f with body := some as4 } else if keepB i then f else { f with body := some (.refuse "") }
noncomputable def twp:Program:={ Try.prog with funcs:=Try.prog.funcs.mapIdx twf }
theorem bw9 (i:Nat):twp.funcs[i]?=(Try.prog.funcs[i]?).map (twf i):=by simp [twp]
theorem bD3:Try.prog.funcs.size=146:=by kernel_rfl
noncomputable def okAt (i:Nat):Bool:=match Try.prog.funcs[i]? with
 | some f => (match (twf i f).body with | some b => al4 twp true (fun _ => true) b && (!jobF i || al4 twp false jobF b) | none => false) && !(f.name == "runtime.NumGoroutine")
 | none=>false
theorem bT5:(List.range 146).all okAt=true:=by kernel_rfl
theorem b77 (i:Nat) (f:Func):f={ twf i f with body:=f.body }:=by
 unfold twf;split
 ·rfl
 ·split<;>rfl
theorem aE3 [LoopOK] {full:Bool}{J:FuncId->Bool}(hst:full=true->LoopOK.set) (hfn:full=true->∀ f,LoopOK.fn f) (hJ:∀ f,J f=true->LoopOK.fn f) (hJ':∀ f,LoopOK.fn f->full=true\/J f=true) (hl:∀ r,¬ LoopOK.ok r)
  (hc:∀ f b,(full=true\/J f=true)->(al4 twp true (fun _=>true) b&&(!jobF f||al4 twp false jobF b))=true->al4 twp full J b=true):Pair twp Try.prog:=by
 have h:Pair twp { twp with funcs:=Try.prog.funcs }:=by
  refine bB9 hst hfn hJ hJ' hl (by simp [twp]) fun f fn hf=>?_
  rw [bw9] at hf;obtain ⟨g,hg,rfl⟩:=xg.1 hf;have hlt:f<146:=by
   exact Nat.lt_of_lt_of_eq (lg.1 hg).1 bD3
  have hk:=lZ.1 bT5 f (lP.2 hlt);unfold okAt at hk;rw [hg] at hk;rw [lu,uW] at hk;obtain ⟨h1,h2⟩:=hk;split at h1
  ·rename_i b hb;refine ⟨b,g,hb,fun hx=>hc f b hx h1,?_,hg,b77 f g⟩;rw [<-h2];unfold twf;split
   ·rfl
   ·split<;>rfl
  ·cases h1
 exact h
theorem ay1:Pair twp Try.prog:=aE3 (full:=true) (J:=fun _=>true) (fun _=>trivial) (fun _ _=>trivial) (fun _ _=>trivial) (fun _ _=> .inl rfl) (fun _ h=>h) fun f b _ h=>(lu _ _▸h).1
theorem aY0:@Pair aL8 twp Try.prog:=@aE3 aL8 false jobF (fun h=>by cases h) (fun h=>by cases h) (fun _ h=>h) (fun _ h=> .inr h) (fun _ h=>h) fun f b hx h=>by
 rw [lu,xe] at h;rcases h.2 with h2 | h2
 ·rcases hx with hx | hx
  ·cases hx
  ·rw [hx] at h2; cases h2
 ·exact h2
theorem ar9 (k:FuncId) (h:Try.prog.funcs[k]?≠twp.funcs[k]?):(k=49/\∃ Fn:Func,Try.prog.funcs[k]?=some Fn/\Fn.body.isSome)\/∃ fn s,twp.funcs[k]?=some fn/\fn.body=some (.refuse s):=by
 rw [bw9] at h ⊢;cases hg:Try.prog.funcs[k]? with
 | none=>rw [hg] at h; exact absurd rfl h
 | some g=>
  rw [hg] at h;by_cases hk:k=49
  ·subst hk;refine .inl ⟨rfl,g,rfl,?_⟩;rw [Try.func49] at hg;cases hg;rfl
  ·right;refine ⟨_, "", rfl, ?_⟩;simp only [lC,twf,lr hk] at h ⊢;split
   ·rename_i hkb; rw [ln hkb] at h; exact absurd rfl h
   ·rfl
end Hid
section
open Go Go.Proofs
noncomputable def Tw.prog:Program:=twp
@[simp] theorem Tw.call57:∀ (args:Array Go.Value) (w:Go.World),Go.Sem.run Tw.prog (Go.callFunc 57 args) w=Go.Result.ok (Go.Next.enter 57 args) w:=by first | (intros; kernel_rfl) | exact Try.call57
@[simp] theorem Tw.call58:∀ (args:Array Go.Value) (w:Go.World),Go.Sem.run Tw.prog (Go.callFunc 58 args) w=Go.Result.ok (Go.Next.enter 58 args) w:=by first | (intros; kernel_rfl) | exact Try.call58
@[simp] theorem Tw.call59:∀ (args:Array Go.Value) (w:Go.World),Go.Sem.run Tw.prog (Go.callFunc 59 args) w=Go.Result.ok (Go.Next.enter 59 args) w:=by first | (intros; kernel_rfl) | exact Try.call59
@[simp] theorem Tw.call64:∀ (args:Array Go.Value) (w:Go.World),Go.Sem.run Tw.prog (Go.callFunc 64 args) w=Go.Result.ok (Go.Next.enter 64 args) w:=by first | (intros; kernel_rfl) | exact Try.call64
@[simp] theorem Tw.call65:∀ (args:Array Go.Value) (w:Go.World),Go.Sem.run Tw.prog (Go.callFunc 65 args) w=Go.Result.ok (Go.Next.enter 65 args) w:=by first | (intros; kernel_rfl) | exact Try.call65
@[simp] theorem Tw.eqGuardType43:Tw.prog.eqGuardType Tw.prog.depth 43=Bool.false:=by first | (intros; kernel_rfl) | exact Try.eqGuardType43
@[simp] theorem Tw.eqGuardType105:Tw.prog.eqGuardType Tw.prog.depth 105=Bool.false:=by first | (intros; kernel_rfl) | exact Try.eqGuardType105
theorem Tw.func5:Tw.prog.funcs[5]?=Option.some Go.Proofs.Try.f5:=by first | (intros; kernel_rfl) | exact Try.func5
theorem Tw.func7:Tw.prog.funcs[7]?=Option.some Go.Proofs.Try.f7:=by first | (intros; kernel_rfl) | exact Try.func7
theorem Tw.func12:Tw.prog.funcs[12]?=Option.some Go.Proofs.Try.f12:=by first | (intros; kernel_rfl) | exact Try.func12
theorem Tw.func18:Tw.prog.funcs[18]?=Option.some Go.Proofs.Try.f18:=by first | (intros; kernel_rfl) | exact Try.func18
theorem Tw.func19:Tw.prog.funcs[19]?=Option.some Go.Proofs.Try.f19:=by first | (intros; kernel_rfl) | exact Try.func19
theorem Tw.func23:Tw.prog.funcs[23]?=Option.some Go.Proofs.Try.f23:=by first | (intros; kernel_rfl) | exact Try.func23
theorem Tw.func24:Tw.prog.funcs[24]?=Option.some Go.Proofs.Try.f24:=by first | (intros; kernel_rfl) | exact Try.func24
theorem Tw.func25:Tw.prog.funcs[25]?=Option.some Go.Proofs.Try.f25:=by first | (intros; kernel_rfl) | exact Try.func25
theorem Tw.func38:Tw.prog.funcs[38]?=Option.some Go.Proofs.Try.f38:=by first | (intros; kernel_rfl) | exact Try.func38
theorem Tw.func39:Tw.prog.funcs[39]?=Option.some Go.Proofs.Try.f39:=by first | (intros; kernel_rfl) | exact Try.func39
theorem Tw.func40:Tw.prog.funcs[40]?=Option.some Go.Proofs.Try.f40:=by first | (intros; kernel_rfl) | exact Try.func40
theorem Tw.func41:Tw.prog.funcs[41]?=Option.some Go.Proofs.Try.f41:=by first | (intros; kernel_rfl) | exact Try.func41
theorem Tw.func42:Tw.prog.funcs[42]?=Option.some Go.Proofs.Try.f42:=by first | (intros; kernel_rfl) | exact Try.func42
theorem Tw.func43:Tw.prog.funcs[43]?=Option.some Go.Proofs.Try.f43:=by first | (intros; kernel_rfl) | exact Try.func43
theorem Tw.func55:Tw.prog.funcs[55]?=Option.some Go.Proofs.Try.f55:=by first | (intros; kernel_rfl) | exact Try.func55
theorem Tw.func56:Tw.prog.funcs[56]?=Option.some Go.Proofs.Try.f56:=by first | (intros; kernel_rfl) | exact Try.func56
theorem Tw.func57:Tw.prog.funcs[57]?=Option.some Go.Proofs.Try.f57:=by first | (intros; kernel_rfl) | exact Try.func57
theorem Tw.func58:Tw.prog.funcs[58]?=Option.some Go.Proofs.Try.f58:=by first | (intros; kernel_rfl) | exact Try.func58
theorem Tw.func59:Tw.prog.funcs[59]?=Option.some Go.Proofs.Try.f59:=by first | (intros; kernel_rfl) | exact Try.func59
theorem Tw.func60:Tw.prog.funcs[60]?=Option.some Go.Proofs.Try.f60:=by first | (intros; kernel_rfl) | exact Try.func60
theorem Tw.func61:Tw.prog.funcs[61]?=Option.some Go.Proofs.Try.f61:=by first | (intros; kernel_rfl) | exact Try.func61
theorem Tw.func62:Tw.prog.funcs[62]?=Option.some Go.Proofs.Try.f62:=by first | (intros; kernel_rfl) | exact Try.func62
theorem Tw.func73:Tw.prog.funcs[73]?=Option.some Go.Proofs.Try.f73:=by first | (intros; kernel_rfl) | exact Try.func73
theorem Tw.func74:Tw.prog.funcs[74]?=Option.some Go.Proofs.Try.f74:=by first | (intros; kernel_rfl) | exact Try.func74
theorem Tw.func75:Tw.prog.funcs[75]?=Option.some Go.Proofs.Try.f75:=by first | (intros; kernel_rfl) | exact Try.func75
theorem Tw.func97:Tw.prog.funcs[97]?=Option.some Go.Proofs.Try.f97:=by first | (intros; kernel_rfl) | exact Try.func97
theorem Tw.func98:Tw.prog.funcs[98]?=Option.some Go.Proofs.Try.f98:=by first | (intros; kernel_rfl) | exact Try.func98
theorem Tw.func99:Tw.prog.funcs[99]?=Option.some Go.Proofs.Try.f99:=by first | (intros; kernel_rfl) | exact Try.func99
theorem Tw.func100:Tw.prog.funcs[100]?=Option.some Go.Proofs.Try.f100:=by first | (intros; kernel_rfl) | exact Try.func100
theorem Tw.func101:Tw.prog.funcs[101]?=Option.some Go.Proofs.Try.f101:=by first | (intros; kernel_rfl) | exact Try.func101
theorem Tw.func102:Tw.prog.funcs[102]?=Option.some Go.Proofs.Try.f102:=by first | (intros; kernel_rfl) | exact Try.func102
theorem Tw.func103:Tw.prog.funcs[103]?=Option.some Go.Proofs.Try.f103:=by first | (intros; kernel_rfl) | exact Try.func103
theorem Tw.func104:Tw.prog.funcs[104]?=Option.some Go.Proofs.Try.f104:=by first | (intros; kernel_rfl) | exact Try.func104
theorem Tw.func105:Tw.prog.funcs[105]?=Option.some Go.Proofs.Try.f105:=by first | (intros; kernel_rfl) | exact Try.func105
theorem Tw.func106:Tw.prog.funcs[106]?=Option.some Go.Proofs.Try.f106:=by first | (intros; kernel_rfl) | exact Try.func106
theorem Tw.func120:Tw.prog.funcs[120]?=Option.some Go.Proofs.Try.f120:=by first | (intros; kernel_rfl) | exact Try.func120
theorem Tw.func121:Tw.prog.funcs[121]?=Option.some Go.Proofs.Try.f121:=by first | (intros; kernel_rfl) | exact Try.func121
theorem Tw.func122:Tw.prog.funcs[122]?=Option.some Go.Proofs.Try.f122:=by first | (intros; kernel_rfl) | exact Try.func122
theorem Tw.func123:Tw.prog.funcs[123]?=Option.some Go.Proofs.Try.f123:=by first | (intros; kernel_rfl) | exact Try.func123
theorem Tw.func124:Tw.prog.funcs[124]?=Option.some Go.Proofs.Try.f124:=by first | (intros; kernel_rfl) | exact Try.func124
theorem Tw.func128:Tw.prog.funcs[128]?=Option.some Go.Proofs.Try.f128:=by first | (intros; kernel_rfl) | exact Try.func128
@[simp] theorem Tw.isAgg0:∀ (w:Go.World),Go.Sem.run Tw.prog (Go.isAgg 0) w=Go.Result.ok Bool.false w:=by first | (intros; kernel_rfl) | exact Try.isAgg0
@[simp] theorem Tw.isAgg3:∀ (w:Go.World),Go.Sem.run Tw.prog (Go.isAgg 3) w=Go.Result.ok Bool.false w:=by first | (intros; kernel_rfl) | exact Try.isAgg3
@[simp] theorem Tw.isAgg4:∀ (w:Go.World),Go.Sem.run Tw.prog (Go.isAgg 4) w=Go.Result.ok Bool.false w:=by first | (intros; kernel_rfl) | exact Try.isAgg4
@[simp] theorem Tw.isAgg5:∀ (w:Go.World),Go.Sem.run Tw.prog (Go.isAgg 5) w=Go.Result.ok Bool.false w:=by first | (intros; kernel_rfl) | exact Try.isAgg5
@[simp] theorem Tw.isAgg9:∀ (w:Go.World),Go.Sem.run Tw.prog (Go.isAgg 9) w=Go.Result.ok Bool.false w:=by first | (intros; kernel_rfl) | exact Try.isAgg9
@[simp] theorem Tw.isAgg25:∀ (w:Go.World),Go.Sem.run Tw.prog (Go.isAgg 25) w=Go.Result.ok Bool.false w:=by first | (intros; kernel_rfl) | exact Try.isAgg25
@[simp] theorem Tw.isAgg43:∀ (w:Go.World),Go.Sem.run Tw.prog (Go.isAgg 43) w=Go.Result.ok Bool.true w:=by first | (intros; kernel_rfl) | exact Try.isAgg43
@[simp] theorem Tw.isAgg46:∀ (w:Go.World),Go.Sem.run Tw.prog (Go.isAgg 46) w=Go.Result.ok Bool.false w:=by first | (intros; kernel_rfl) | exact Try.isAgg46
@[simp] theorem Tw.isAgg92:∀ (w:Go.World),Go.Sem.run Tw.prog (Go.isAgg 92) w=Go.Result.ok Bool.false w:=by first | (intros; kernel_rfl) | exact Try.isAgg92
@[simp] theorem Tw.isAgg93:∀ (w:Go.World),Go.Sem.run Tw.prog (Go.isAgg 93) w=Go.Result.ok Bool.false w:=by first | (intros; kernel_rfl) | exact Try.isAgg93
@[simp] theorem Tw.isAgg96:∀ (w:Go.World),Go.Sem.run Tw.prog (Go.isAgg 96) w=Go.Result.ok Bool.false w:=by first | (intros; kernel_rfl) | exact Try.isAgg96
@[simp] theorem Tw.isAgg103:∀ (w:Go.World),Go.Sem.run Tw.prog (Go.isAgg 103) w=Go.Result.ok Bool.false w:=by first | (intros; kernel_rfl) | exact Try.isAgg103
@[simp] theorem Tw.isAgg105:∀ (w:Go.World),Go.Sem.run Tw.prog (Go.isAgg 105) w=Go.Result.ok Bool.true w:=by first | (intros; kernel_rfl) | exact Try.isAgg105
@[simp] theorem Tw.isAgg108:∀ (w:Go.World),Go.Sem.run Tw.prog (Go.isAgg 108) w=Go.Result.ok Bool.false w:=by first | (intros; kernel_rfl) | exact Try.isAgg108
@[simp] theorem Tw.isAgg122:∀ (w:Go.World),Go.Sem.run Tw.prog (Go.isAgg 122) w=Go.Result.ok Bool.false w:=by first | (intros; kernel_rfl) | exact Try.isAgg122
@[simp] theorem Tw.isAgg125:∀ (w:Go.World),Go.Sem.run Tw.prog (Go.isAgg 125) w=Go.Result.ok Bool.false w:=by first | (intros; kernel_rfl) | exact Try.isAgg125
@[simp] theorem Tw.isAgg130:∀ (w:Go.World),Go.Sem.run Tw.prog (Go.isAgg 130) w=Go.Result.ok Bool.false w:=by first | (intros; kernel_rfl) | exact Try.isAgg130
@[simp] theorem Tw.isAgg157:∀ (w:Go.World),Go.Sem.run Tw.prog (Go.isAgg 157) w=Go.Result.ok Bool.false w:=by first | (intros; kernel_rfl) | exact Try.isAgg157
@[simp] theorem Tw.isAgg158:∀ (w:Go.World),Go.Sem.run Tw.prog (Go.isAgg 158) w=Go.Result.ok Bool.false w:=by first | (intros; kernel_rfl) | exact Try.isAgg158
@[simp] theorem Tw.isAgg176:∀ (w:Go.World),Go.Sem.run Tw.prog (Go.isAgg 176) w=Go.Result.ok Bool.false w:=by first | (intros; kernel_rfl) | exact Try.isAgg176
@[simp] theorem Tw.isAgg179:∀ (w:Go.World),Go.Sem.run Tw.prog (Go.isAgg 179) w=Go.Result.ok Bool.false w:=by first | (intros; kernel_rfl) | exact Try.isAgg179
@[simp] theorem Tw.isAgg183:∀ (w:Go.World),Go.Sem.run Tw.prog (Go.isAgg 183) w=Go.Result.ok Bool.false w:=by first | (intros; kernel_rfl) | exact Try.isAgg183
@[simp] theorem Tw.isAgg184:∀ (w:Go.World),Go.Sem.run Tw.prog (Go.isAgg 184) w=Go.Result.ok Bool.false w:=by first | (intros; kernel_rfl) | exact Try.isAgg184
theorem Tw.ntmps7:Go.Proofs.Try.f7.ntmps=21:=Try.ntmps7
theorem Tw.ntmps58:Go.Proofs.Try.f58.ntmps=26:=Try.ntmps58
theorem Tw.ntmps59:Go.Proofs.Try.f59.ntmps=18:=Try.ntmps59
@[simp] theorem Tw.runUnderlying0:∀ (w:Go.World),Go.Sem.run Tw.prog (Go.underlying 0) w=Go.Result.ok (Go.TypeDesc.tuple #[]) w:=by first | (intros; kernel_rfl) | exact Try.runUnderlying0
@[simp] theorem Tw.runUnderlying3:∀ (w:Go.World),Go.Sem.run Tw.prog (Go.underlying 3) w=Go.Result.ok (Go.TypeDesc.int Go.IntKind.i64) w:=by first | (intros; kernel_rfl) | exact Try.runUnderlying3
@[simp] theorem Tw.runUnderlying4:∀ (w:Go.World),Go.Sem.run Tw.prog (Go.underlying 4) w=Go.Result.ok Go.TypeDesc.bool w:=by first | (intros; kernel_rfl) | exact Try.runUnderlying4
@[simp] theorem Tw.runUnderlying43 : ∀ (w : Go.World), Go.Sem.run Tw.prog (Go.underlying 43) w = Go.Result.ok (Go.TypeDesc.struct #[{ name := "Y", type := 3, offset := 0, embedded := Bool.false, tag := "", pkgPath := "", byteOffset := 0 }, { name := "X0", type := 3, offset := 1, embedded := Bool.false, tag := "", pkgPath := "", byteOffset := 8 }, { name := "X1", type := 3, offset := 2, embedded := Bool.false, tag := "", pkgPath := "", byteOffset := 16 }]) w := by first | (intros; kernel_rfl) | exact Try.runUnderlying43
@[simp] theorem Tw.runUnderlying46:∀ (w:Go.World),Go.Sem.run Tw.prog (Go.underlying 46) w=Go.Result.ok (Go.TypeDesc.slice 3) w:=by first | (intros; kernel_rfl) | exact Try.runUnderlying46
@[simp] theorem Tw.runUnderlying92:∀ (w:Go.World),Go.Sem.run Tw.prog (Go.underlying 92) w=Go.Result.ok (Go.TypeDesc.slice 5) w:=by first | (intros; kernel_rfl) | exact Try.runUnderlying92
@[simp] theorem Tw.runUnderlying93:∀ (w:Go.World),Go.Sem.run Tw.prog (Go.underlying 93) w=Go.Result.ok (Go.TypeDesc.tuple #[3,4]) w:=by first | (intros; kernel_rfl) | exact Try.runUnderlying93
@[simp] theorem Tw.runUnderlying103:∀ (w:Go.World),Go.Sem.run Tw.prog (Go.underlying 103) w=Go.Result.ok (Go.TypeDesc.slice 105) w:=by first | (intros; kernel_rfl) | exact Try.runUnderlying103
@[simp] theorem Tw.runUnderlying105 : ∀ (w : Go.World), Go.Sem.run Tw.prog (Go.underlying 105) w = Go.Result.ok (Go.TypeDesc.struct #[{ name := "Run", type := 43, offset := 0, embedded := Bool.true, tag := "", pkgPath := "", byteOffset := 0 }, { name := "piece", type := 3, offset := 3, embedded := Bool.false, tag := "", pkgPath := "printworks/flat", byteOffset := 24 }]) w := by first | (intros; kernel_rfl) | exact Try.runUnderlying105
@[simp] theorem Tw.runUnderlying108:∀ (w:Go.World),Go.Sem.run Tw.prog (Go.underlying 108) w=Go.Result.ok (Go.TypeDesc.func #[105,105] #[3] Bool.false) w:=by first | (intros; kernel_rfl) | exact Try.runUnderlying108
@[simp] theorem Tw.sizeOf0:∀ (w:Go.World),Go.Sem.run Tw.prog (Go.sizeOf 0) w=Go.Result.ok 1 w:=by first | (intros; kernel_rfl) | exact Try.sizeOf0
@[simp] theorem Tw.sizeOf3:∀ (w:Go.World),Go.Sem.run Tw.prog (Go.sizeOf 3) w=Go.Result.ok 1 w:=by first | (intros; kernel_rfl) | exact Try.sizeOf3
@[simp] theorem Tw.sizeOf4:∀ (w:Go.World),Go.Sem.run Tw.prog (Go.sizeOf 4) w=Go.Result.ok 1 w:=by first | (intros; kernel_rfl) | exact Try.sizeOf4
@[simp] theorem Tw.sizeOf5:∀ (w:Go.World),Go.Sem.run Tw.prog (Go.sizeOf 5) w=Go.Result.ok 1 w:=by first | (intros; kernel_rfl) | exact Try.sizeOf5
@[simp] theorem Tw.sizeOf9:∀ (w:Go.World),Go.Sem.run Tw.prog (Go.sizeOf 9) w=Go.Result.ok 1 w:=by first | (intros; kernel_rfl) | exact Try.sizeOf9
@[simp] theorem Tw.sizeOf25:∀ (w:Go.World),Go.Sem.run Tw.prog (Go.sizeOf 25) w=Go.Result.ok 1 w:=by first | (intros; kernel_rfl) | exact Try.sizeOf25
@[simp] theorem Tw.sizeOf43:∀ (w:Go.World),Go.Sem.run Tw.prog (Go.sizeOf 43) w=Go.Result.ok 3 w:=by first | (intros; kernel_rfl) | exact Try.sizeOf43
@[simp] theorem Tw.sizeOf46:∀ (w:Go.World),Go.Sem.run Tw.prog (Go.sizeOf 46) w=Go.Result.ok 1 w:=by first | (intros; kernel_rfl) | exact Try.sizeOf46
@[simp] theorem Tw.sizeOf92:∀ (w:Go.World),Go.Sem.run Tw.prog (Go.sizeOf 92) w=Go.Result.ok 1 w:=by first | (intros; kernel_rfl) | exact Try.sizeOf92
@[simp] theorem Tw.sizeOf93:∀ (w:Go.World),Go.Sem.run Tw.prog (Go.sizeOf 93) w=Go.Result.ok 1 w:=by first | (intros; kernel_rfl) | exact Try.sizeOf93
@[simp] theorem Tw.sizeOf96:∀ (w:Go.World),Go.Sem.run Tw.prog (Go.sizeOf 96) w=Go.Result.ok 1 w:=by first | (intros; kernel_rfl) | exact Try.sizeOf96
@[simp] theorem Tw.sizeOf103:∀ (w:Go.World),Go.Sem.run Tw.prog (Go.sizeOf 103) w=Go.Result.ok 1 w:=by first | (intros; kernel_rfl) | exact Try.sizeOf103
@[simp] theorem Tw.sizeOf105:∀ (w:Go.World),Go.Sem.run Tw.prog (Go.sizeOf 105) w=Go.Result.ok 4 w:=by first | (intros; kernel_rfl) | exact Try.sizeOf105
@[simp] theorem Tw.sizeOf108:∀ (w:Go.World),Go.Sem.run Tw.prog (Go.sizeOf 108) w=Go.Result.ok 1 w:=by first | (intros; kernel_rfl) | exact Try.sizeOf108
@[simp] theorem Tw.sizeOf122:∀ (w:Go.World),Go.Sem.run Tw.prog (Go.sizeOf 122) w=Go.Result.ok 1 w:=by first | (intros; kernel_rfl) | exact Try.sizeOf122
@[simp] theorem Tw.sizeOf125:∀ (w:Go.World),Go.Sem.run Tw.prog (Go.sizeOf 125) w=Go.Result.ok 1 w:=by first | (intros; kernel_rfl) | exact Try.sizeOf125
@[simp] theorem Tw.sizeOf130:∀ (w:Go.World),Go.Sem.run Tw.prog (Go.sizeOf 130) w=Go.Result.ok 1 w:=by first | (intros; kernel_rfl) | exact Try.sizeOf130
@[simp] theorem Tw.sizeOf157:∀ (w:Go.World),Go.Sem.run Tw.prog (Go.sizeOf 157) w=Go.Result.ok 1 w:=by first | (intros; kernel_rfl) | exact Try.sizeOf157
@[simp] theorem Tw.sizeOf158:∀ (w:Go.World),Go.Sem.run Tw.prog (Go.sizeOf 158) w=Go.Result.ok 1 w:=by first | (intros; kernel_rfl) | exact Try.sizeOf158
@[simp] theorem Tw.sizeOf176:∀ (w:Go.World),Go.Sem.run Tw.prog (Go.sizeOf 176) w=Go.Result.ok 1 w:=by first | (intros; kernel_rfl) | exact Try.sizeOf176
@[simp] theorem Tw.sizeOf179:∀ (w:Go.World),Go.Sem.run Tw.prog (Go.sizeOf 179) w=Go.Result.ok 1 w:=by first | (intros; kernel_rfl) | exact Try.sizeOf179
@[simp] theorem Tw.sizeOf183:∀ (w:Go.World),Go.Sem.run Tw.prog (Go.sizeOf 183) w=Go.Result.ok 1 w:=by first | (intros; kernel_rfl) | exact Try.sizeOf183
@[simp] theorem Tw.sizeOf184:∀ (w:Go.World),Go.Sem.run Tw.prog (Go.sizeOf 184) w=Go.Result.ok 1 w:=by first | (intros; kernel_rfl) | exact Try.sizeOf184
@[simp] theorem Tw.stoodInHeld43:Tw.prog.stoodInHeld 43=Bool.false:=by first | (intros; kernel_rfl) | exact Try.stoodInHeld43
@[simp] theorem Tw.stoodInHeld105:Tw.prog.stoodInHeld 105=Bool.false:=by first | (intros; kernel_rfl) | exact Try.stoodInHeld105
@[simp] theorem Tw.type0:Tw.prog.types[0]?=Option.some Go.Proofs.Try.t0:=by first | (intros; kernel_rfl) | exact Try.type0
@[simp] theorem Tw.type3:Tw.prog.types[3]?=Option.some Go.Proofs.Try.t3:=by first | (intros; kernel_rfl) | exact Try.type3
@[simp] theorem Tw.type4:Tw.prog.types[4]?=Option.some Go.Proofs.Try.t4:=by first | (intros; kernel_rfl) | exact Try.type4
@[simp] theorem Tw.type43:Tw.prog.types[43]?=Option.some Go.Proofs.Try.t43:=by first | (intros; kernel_rfl) | exact Try.type43
@[simp] theorem Tw.type46:Tw.prog.types[46]?=Option.some Go.Proofs.Try.t46:=by first | (intros; kernel_rfl) | exact Try.type46
@[simp] theorem Tw.type92:Tw.prog.types[92]?=Option.some Go.Proofs.Try.t92:=by first | (intros; kernel_rfl) | exact Try.type92
@[simp] theorem Tw.type93:Tw.prog.types[93]?=Option.some Go.Proofs.Try.t93:=by first | (intros; kernel_rfl) | exact Try.type93
@[simp] theorem Tw.type103:Tw.prog.types[103]?=Option.some Go.Proofs.Try.t103:=by first | (intros; kernel_rfl) | exact Try.type103
@[simp] theorem Tw.type105:Tw.prog.types[105]?=Option.some Go.Proofs.Try.t105:=by first | (intros; kernel_rfl) | exact Try.type105
@[simp] theorem Tw.type108:Tw.prog.types[108]?=Option.some Go.Proofs.Try.t108:=by first | (intros; kernel_rfl) | exact Try.type108
@[simp] theorem Tw.typeInfo0:∀ (w:Go.World),Go.Sem.run Tw.prog (Go.typeInfo 0) w=Go.Result.ok Go.Proofs.Try.t0 w:=by first | (intros; kernel_rfl) | exact Try.typeInfo0
@[simp] theorem Tw.typeInfo3:∀ (w:Go.World),Go.Sem.run Tw.prog (Go.typeInfo 3) w=Go.Result.ok Go.Proofs.Try.t3 w:=by first | (intros; kernel_rfl) | exact Try.typeInfo3
@[simp] theorem Tw.typeInfo4:∀ (w:Go.World),Go.Sem.run Tw.prog (Go.typeInfo 4) w=Go.Result.ok Go.Proofs.Try.t4 w:=by first | (intros; kernel_rfl) | exact Try.typeInfo4
@[simp] theorem Tw.typeInfo43:∀ (w:Go.World),Go.Sem.run Tw.prog (Go.typeInfo 43) w=Go.Result.ok Go.Proofs.Try.t43 w:=by first | (intros; kernel_rfl) | exact Try.typeInfo43
@[simp] theorem Tw.typeInfo46:∀ (w:Go.World),Go.Sem.run Tw.prog (Go.typeInfo 46) w=Go.Result.ok Go.Proofs.Try.t46 w:=by first | (intros; kernel_rfl) | exact Try.typeInfo46
@[simp] theorem Tw.typeInfo92:∀ (w:Go.World),Go.Sem.run Tw.prog (Go.typeInfo 92) w=Go.Result.ok Go.Proofs.Try.t92 w:=by first | (intros; kernel_rfl) | exact Try.typeInfo92
@[simp] theorem Tw.typeInfo93:∀ (w:Go.World),Go.Sem.run Tw.prog (Go.typeInfo 93) w=Go.Result.ok Go.Proofs.Try.t93 w:=by first | (intros; kernel_rfl) | exact Try.typeInfo93
@[simp] theorem Tw.typeInfo103:∀ (w:Go.World),Go.Sem.run Tw.prog (Go.typeInfo 103) w=Go.Result.ok Go.Proofs.Try.t103 w:=by first | (intros; kernel_rfl) | exact Try.typeInfo103
@[simp] theorem Tw.typeInfo105:∀ (w:Go.World),Go.Sem.run Tw.prog (Go.typeInfo 105) w=Go.Result.ok Go.Proofs.Try.t105 w:=by first | (intros; kernel_rfl) | exact Try.typeInfo105
@[simp] theorem Tw.typeInfo108:∀ (w:Go.World),Go.Sem.run Tw.prog (Go.typeInfo 108) w=Go.Result.ok Go.Proofs.Try.t108 w:=by first | (intros; kernel_rfl) | exact Try.typeInfo108
@[simp] theorem Tw.underlying0:Tw.prog.underlying 0=Option.some (Go.TypeDesc.tuple #[]):=by first | (intros; kernel_rfl) | exact Try.underlying0
@[simp] theorem Tw.underlying3:Tw.prog.underlying 3=Option.some (Go.TypeDesc.int Go.IntKind.i64):=by first | (intros; kernel_rfl) | exact Try.underlying3
@[simp] theorem Tw.underlying4:Tw.prog.underlying 4=Option.some Go.TypeDesc.bool:=by first | (intros; kernel_rfl) | exact Try.underlying4
@[simp] theorem Tw.underlying5:Tw.prog.underlying 5=Option.some (Go.TypeDesc.int Go.IntKind.u8):=by first | (intros; kernel_rfl) | exact Try.underlying5
@[simp] theorem Tw.underlying9:Tw.prog.underlying 9=Option.some Go.TypeDesc.string:=by first | (intros; kernel_rfl) | exact Try.underlying9
@[simp] theorem Tw.underlying25:Tw.prog.underlying 25=Option.some (Go.TypeDesc.slice 43):=by first | (intros; kernel_rfl) | exact Try.underlying25
@[simp] theorem Tw.underlying43 : Tw.prog.underlying 43 = Option.some (Go.TypeDesc.struct #[{ name := "Y", type := 3, offset := 0, embedded := Bool.false, tag := "", pkgPath := "", byteOffset := 0 }, { name := "X0", type := 3, offset := 1, embedded := Bool.false, tag := "", pkgPath := "", byteOffset := 8 }, { name := "X1", type := 3, offset := 2, embedded := Bool.false, tag := "", pkgPath := "", byteOffset := 16 }]) := by first | (intros; kernel_rfl) | exact Try.underlying43
@[simp] theorem Tw.underlying46:Tw.prog.underlying 46=Option.some (Go.TypeDesc.slice 3):=by first | (intros; kernel_rfl) | exact Try.underlying46
@[simp] theorem Tw.underlying92:Tw.prog.underlying 92=Option.some (Go.TypeDesc.slice 5):=by first | (intros; kernel_rfl) | exact Try.underlying92
@[simp] theorem Tw.underlying93:Tw.prog.underlying 93=Option.some (Go.TypeDesc.tuple #[3,4]):=by first | (intros; kernel_rfl) | exact Try.underlying93
@[simp] theorem Tw.underlying96:Tw.prog.underlying 96=Option.some (Go.TypeDesc.func #[43,43] #[3] Bool.false):=by first | (intros; kernel_rfl) | exact Try.underlying96
@[simp] theorem Tw.underlying103:Tw.prog.underlying 103=Option.some (Go.TypeDesc.slice 105):=by first | (intros; kernel_rfl) | exact Try.underlying103
@[simp] theorem Tw.underlying105 : Tw.prog.underlying 105 = Option.some (Go.TypeDesc.struct #[{ name := "Run", type := 43, offset := 0, embedded := Bool.true, tag := "", pkgPath := "", byteOffset := 0 }, { name := "piece", type := 3, offset := 3, embedded := Bool.false, tag := "", pkgPath := "printworks/flat", byteOffset := 24 }]) := by first | (intros; kernel_rfl) | exact Try.underlying105
@[simp] theorem Tw.underlying108:Tw.prog.underlying 108=Option.some (Go.TypeDesc.func #[105,105] #[3] Bool.false):=by first | (intros; kernel_rfl) | exact Try.underlying108
@[simp] theorem Tw.underlying122:Tw.prog.underlying 122=Option.some (Go.TypeDesc.int Go.IntKind.u64):=by first | (intros; kernel_rfl) | exact Try.underlying122
@[simp] theorem Tw.underlying125:Tw.prog.underlying 125=Option.some (Go.TypeDesc.int Go.IntKind.u32):=by first | (intros; kernel_rfl) | exact Try.underlying125
@[simp] theorem Tw.underlying130:Tw.prog.underlying 130=Option.some (Go.TypeDesc.int Go.IntKind.u64):=by first | (intros; kernel_rfl) | exact Try.underlying130
@[simp] theorem Tw.underlying157:Tw.prog.underlying 157=Option.some (Go.TypeDesc.int Go.IntKind.i64):=by first | (intros; kernel_rfl) | exact Try.underlying157
@[simp] theorem Tw.underlying158:Tw.prog.underlying 158=Option.some (Go.TypeDesc.tuple #[3,157]):=by first | (intros; kernel_rfl) | exact Try.underlying158
@[simp] theorem Tw.underlying176:Tw.prog.underlying 176=Option.some (Go.TypeDesc.int Go.IntKind.u64):=by first | (intros; kernel_rfl) | exact Try.underlying176
@[simp] theorem Tw.underlying179:Tw.prog.underlying 179=Option.some (Go.TypeDesc.pointer 3):=by first | (intros; kernel_rfl) | exact Try.underlying179
@[simp] theorem Tw.underlying183:Tw.prog.underlying 183=Option.some (Go.TypeDesc.pointer 176):=by first | (intros; kernel_rfl) | exact Try.underlying183
@[simp] theorem Tw.underlying184:Tw.prog.underlying 184=Option.some (Go.TypeDesc.tuple #[3,3]):=by first | (intros; kernel_rfl) | exact Try.underlying184
@[simp] theorem Tw.zeroValue0:∀ (w:Go.World),Go.Sem.run Tw.prog (Go.zeroValue 0) w=Go.Result.ok (Go.Value.tuple #[]) w:=by first | (intros; kernel_rfl) | exact Try.zeroValue0
@[simp] theorem Tw.zeroValue3:∀ (w:Go.World),Go.Sem.run Tw.prog (Go.zeroValue 3) w=Go.Result.ok (Go.Value.int Go.IntKind.i64 0) w:=by first | (intros; kernel_rfl) | exact Try.zeroValue3
@[simp] theorem Tw.zeroValue4:∀ (w:Go.World),Go.Sem.run Tw.prog (Go.zeroValue 4) w=Go.Result.ok (Go.Value.bool Bool.false) w:=by first | (intros; kernel_rfl) | exact Try.zeroValue4
@[simp] theorem Tw.zeroValue5:∀ (w:Go.World),Go.Sem.run Tw.prog (Go.zeroValue 5) w=Go.Result.ok (Go.Value.int Go.IntKind.u8 0) w:=by first | (intros; kernel_rfl) | exact Try.zeroValue5
@[simp] theorem Tw.zeroValue9:∀ (w:Go.World),Go.Sem.run Tw.prog (Go.zeroValue 9) w=Go.Result.ok (Go.Value.string { data:=#[] }) w:=by first | (intros; kernel_rfl) | exact Try.zeroValue9
@[simp] theorem Tw.zeroValue25:∀ (w:Go.World),Go.Sem.run Tw.prog (Go.zeroValue 25) w=Go.Result.ok (Go.Value.slice Option.none 0 0) w:=by first | (intros; kernel_rfl) | exact Try.zeroValue25
@[simp] theorem Tw.zeroValue43:∀ (w:Go.World),Go.Sem.run Tw.prog (Go.zeroValue 43) w=Go.Result.ok (Go.Value.agg #[Go.Value.int Go.IntKind.i64 0,Go.Value.int Go.IntKind.i64 0,Go.Value.int Go.IntKind.i64 0]) w:=by first | (intros; kernel_rfl) | exact Try.zeroValue43
@[simp] theorem Tw.zeroValue46:∀ (w:Go.World),Go.Sem.run Tw.prog (Go.zeroValue 46) w=Go.Result.ok (Go.Value.slice Option.none 0 0) w:=by first | (intros; kernel_rfl) | exact Try.zeroValue46
@[simp] theorem Tw.zeroValue92:∀ (w:Go.World),Go.Sem.run Tw.prog (Go.zeroValue 92) w=Go.Result.ok (Go.Value.slice Option.none 0 0) w:=by first | (intros; kernel_rfl) | exact Try.zeroValue92
@[simp] theorem Tw.zeroValue93:∀ (w:Go.World),Go.Sem.run Tw.prog (Go.zeroValue 93) w=Go.Result.ok (Go.Value.tuple #[Go.Value.int Go.IntKind.i64 0,Go.Value.bool Bool.false]) w:=by first | (intros; kernel_rfl) | exact Try.zeroValue93
@[simp] theorem Tw.zeroValue96:∀ (w:Go.World),Go.Sem.run Tw.prog (Go.zeroValue 96) w=Go.Result.ok Go.Value.nilFunc w:=by first | (intros; kernel_rfl) | exact Try.zeroValue96
@[simp] theorem Tw.zeroValue103:∀ (w:Go.World),Go.Sem.run Tw.prog (Go.zeroValue 103) w=Go.Result.ok (Go.Value.slice Option.none 0 0) w:=by first | (intros; kernel_rfl) | exact Try.zeroValue103
@[simp] theorem Tw.zeroValue105:∀ (w:Go.World),Go.Sem.run Tw.prog (Go.zeroValue 105) w=Go.Result.ok (Go.Value.agg #[Go.Value.int Go.IntKind.i64 0,Go.Value.int Go.IntKind.i64 0,Go.Value.int Go.IntKind.i64 0,Go.Value.int Go.IntKind.i64 0]) w:=by first | (intros; kernel_rfl) | exact Try.zeroValue105
@[simp] theorem Tw.zeroValue108:∀ (w:Go.World),Go.Sem.run Tw.prog (Go.zeroValue 108) w=Go.Result.ok Go.Value.nilFunc w:=by first | (intros; kernel_rfl) | exact Try.zeroValue108
@[simp] theorem Tw.zeroValue122:∀ (w:Go.World),Go.Sem.run Tw.prog (Go.zeroValue 122) w=Go.Result.ok (Go.Value.int Go.IntKind.u64 0) w:=by first | (intros; kernel_rfl) | exact Try.zeroValue122
@[simp] theorem Tw.zeroValue125:∀ (w:Go.World),Go.Sem.run Tw.prog (Go.zeroValue 125) w=Go.Result.ok (Go.Value.int Go.IntKind.u32 0) w:=by first | (intros; kernel_rfl) | exact Try.zeroValue125
@[simp] theorem Tw.zeroValue130:∀ (w:Go.World),Go.Sem.run Tw.prog (Go.zeroValue 130) w=Go.Result.ok (Go.Value.int Go.IntKind.u64 0) w:=by first | (intros; kernel_rfl) | exact Try.zeroValue130
@[simp] theorem Tw.zeroValue157:∀ (w:Go.World),Go.Sem.run Tw.prog (Go.zeroValue 157) w=Go.Result.ok (Go.Value.int Go.IntKind.i64 0) w:=by first | (intros; kernel_rfl) | exact Try.zeroValue157
@[simp] theorem Tw.zeroValue158:∀ (w:Go.World),Go.Sem.run Tw.prog (Go.zeroValue 158) w=Go.Result.ok (Go.Value.tuple #[Go.Value.int Go.IntKind.i64 0,Go.Value.int Go.IntKind.i64 0]) w:=by first | (intros; kernel_rfl) | exact Try.zeroValue158
@[simp] theorem Tw.zeroValue176:∀ (w:Go.World),Go.Sem.run Tw.prog (Go.zeroValue 176) w=Go.Result.ok (Go.Value.int Go.IntKind.u64 0) w:=by first | (intros; kernel_rfl) | exact Try.zeroValue176
@[simp] theorem Tw.zeroValue179:∀ (w:Go.World),Go.Sem.run Tw.prog (Go.zeroValue 179) w=Go.Result.ok (Go.Value.pointer Option.none) w:=by first | (intros; kernel_rfl) | exact Try.zeroValue179
@[simp] theorem Tw.zeroValue183:∀ (w:Go.World),Go.Sem.run Tw.prog (Go.zeroValue 183) w=Go.Result.ok (Go.Value.pointer Option.none) w:=by first | (intros; kernel_rfl) | exact Try.zeroValue183
@[simp] theorem Tw.zeroValue184:∀ (w:Go.World),Go.Sem.run Tw.prog (Go.zeroValue 184) w=Go.Result.ok (Go.Value.tuple #[Go.Value.int Go.IntKind.i64 0,Go.Value.int Go.IntKind.i64 0]) w:=by first | (intros; kernel_rfl) | exact Try.zeroValue184
end
namespace Num
open Go.RowKit
def nr (a b:Int):Int:=if b-(a-a / b*b)<=a-a / b*b then a / b+1 else a / b
def cutI (x low high:Int):Int:=low+x % (high-low+1)
theorem ak0 (x low high:Int) (h:low<=high):low<=cutI x low high/\cutI x low high<=high:=by
 unfold cutI;have h1:=Int.emod_nonneg x (b:=high-low+1) (by omega);have h2:=Int.emod_lt_of_pos x (b:=high-low+1) (by omega);omega
theorem bc9 (x n:Int) (hn:1<=n):x.tmod n % n=x % n/\ -n<x.tmod n/\x.tmod n<n:=by
 have h1:=Int.lt_tmod_of_pos x (b:=n) (by omega);have h2:=Int.tmod_lt_of_pos x (b:=n) (by omega);refine ⟨?_,h1,h2⟩;have h3:=Int.mul_tdiv_add_tmod x n;rw [<-Int.mul_add_emod_self_left n (x.tdiv n) (x.tmod n),h3]
theorem cut (x low high:Int) (w:World) (_ : -9223372036854775808<=x) (_:x<=9223372036854775807) (h1 : -2305843009213693952<=low) (h2:low<=high) (h3:high<=4611686018427387903) (h4:high-low<=4611686018427387903) :
  Calls Tw.prog 7 #[.int .i64 x,.int .i64 low,.int .i64 high] w fun e w'=>e = .returned (.int .i64 (cutI x low high))/\w=w':=by
 obtain ⟨e1,e2,e3⟩:=bc9 x (high-low+1) (by omega);have h5:=Int.emod_nonneg (x.tmod (high-low+1)) (b:=high-low+1) (by omega);have h6:=Int.emod_lt_of_pos (x.tmod (high-low+1)) (b:=high-low+1) (by omega);have H:Hid (low+x.tmod (high-low+1) % (high-low+1)=cutI x low high):=by unfold cutI; rw [e1]; rfl
 clear e1;go_enter Tw.func7,Tw.ntmps7
 go_wp2
 go_ret
 exact ⟨b06 H.out,rfl⟩
end Num
namespace Aff
open Go.RowKit Sx Num
set_option maxRecDepth 100000
theorem mixed:Tw.prog.follows .mixedOrders=true:=by kernel_rfl
structure Mat where
 a:Int
 b:Int
 c:Int
 d:Int
 e:Int
 f:Int
def inR (x m:Int):Bool:=decide (-m<=x)&&decide (x<=m)
def Mat.ok (m:Mat):Bool:=inR m.a 1048576&&(inR m.b 1048576&&(inR m.c 1048576&&(inR m.d 1048576&&(inR m.e 268435456&&inR m.f 268435456))))
def Mat.imgX (m:Mat) (x y:Int):Int:=nr (m.a*x+m.c*y+m.e) 4096
def Mat.imgY (m:Mat) (x y:Int):Int:=nr (m.b*x+m.d*y+m.f) 4096
def Mat.appE (m:Mat) (x y:Int):Int:=
 if m.ok=false then 3 else if (inR x 32767&&inR y 32767)=false then 3 else if (inR (m.imgX x y) 32767&&inR (m.imgY x y) 32767)=false then 10 else 0
def Mat.out (m n:Mat):Mat:=⟨nr (n.a*m.a+n.c*m.b) 4096,nr (n.b*m.a+n.d*m.b) 4096,nr (n.a*m.c+n.c*m.d) 4096,nr (n.b*m.c+n.d*m.d) 4096,nr (n.a*m.e+n.c*m.f) 4096+n.e,nr (n.b*m.e+n.d*m.f) 4096+n.f⟩
def b00:FSpec:=ac8 7 (γ:=Int×Int×Int) (fun | [.int _ x,.int _ l,.int _ h]=>some (x,l,h) | _=>none) (fun g=>[.int .i64 g.1,.int .i64 g.2.1,.int .i64 g.2.2])
 (fun g=>(-2305843009213693952<=g.2.1/\g.2.1<=g.2.2)/\g.2.2<=4611686018427387903/\g.2.2-g.2.1<=4611686018427387903) (fun g=> .int .i64 (cutI g.1 g.2.1 g.2.2))
theorem bT4:aa9 Tw.prog b00:=by
 refine ab0 (specs:=[]) (ac7 trivial) (eqs:=[]) (fun _ _ h=>(lx h).elim) mixed Tw.func7 rfl (by kernel_rfl) (fun _ _=>by kernel_rfl) (fun _=>A0) (fun g=>li (by kernel_rfl)) ?_;rintro ⟨x,low,high⟩ ⟨⟨h1,h2⟩,h3,h4⟩;simp only at h1 h2 h3 h4
 obtain ⟨e1,e2,e3⟩:=bc9 x (high-low+1) (by omega);have h5:=Int.emod_nonneg (x.tmod (high-low+1)) (b:=high-low+1) (by omega);have h6:=Int.emod_lt_of_pos (x.tmod (high-low+1)) (b:=high-low+1) (by omega);have e4:(x.tmod (high-low+1)+(high-low+1)).tmod (high-low+1)=x % (high-low+1):=by
  rw [Int.tmod_eq_emod_of_nonneg (by omega),Int.add_emod_right,e1]
 refine af7 (B:=let A:=Sx.Ask;let z3:=(high-low+(1:Int)≠(0:Int));let z2:=(9223372036854775807:Int);let z1:=(-9223372036854775808:Int);let z0:=(high-low+(1:Int));True/\True/\True/\A (z1<=high-low/\high-low<=z2)/\A (z1<=high-low+(1:Int)/\high-low+(1:Int)<=z2)/\True/\True/\True/\True/\A z3/\True/\A (z1<=x.tmod z0+z0/\x.tmod z0+z0<=z2)/\True/\A z3/\A (z1<=low+(x.tmod z0+z0).tmod z0/\low+(x.tmod z0+z0).tmod z0<=z2)/\True/\True/\A (IntKind.i64=IntKind.i64)/\A (low+(x.tmod z0+z0).tmod z0=cutI x low high)) (by kernel_rfl) ?_;simp only [e4];rw [e1] at h5 h6;simp [bI1,bV7,cutI];omega
end Aff
namespace Con
open Go.RowKit Sx Num Aff
set_option maxRecDepth 100000
def aI (x:Int):Int:=if x<0 then -x else x
structure Pt where
 x:Int
 y:Int
def ptL (p:Pt):List SV:=[.int .i64 p.x,.int .i64 p.y]
def ptS (p:Pt):SV:= .agg 2 (lst (ptL p))
structure NrG where
 a:Pt
 m:Pt
 b:Pt
def Pt.in (p:Pt) (n:Int):Prop:=(-n<=p.x/\p.x<=n)/\ -n<=p.y/\p.y<=n
def b27 (g:NrG):Prop:=((min g.a.x g.b.x-1<=g.m.x/\g.m.x<=max g.a.x g.b.x+1)/\min g.a.y g.b.y-1<=g.m.y/\g.m.y<=max g.a.y g.b.y+1)/\
 aI ((g.b.x-g.a.x)*(g.m.y-g.a.y)-(g.b.y-g.a.y)*(g.m.x-g.a.x))<=max (max (aI (g.b.x-g.a.x)) (aI (g.b.y-g.a.y))) 1
instance (g:NrG):Decidable (b27 g):=by unfold b27; infer_instance
structure Cur where
 x0:Int
 y0:Int
 x1:Int
 y1:Int
 x2:Int
 y2:Int
 w:Int
def inC (x:Int):Prop:= -32767<=x/\x<=32767
def Cur.ok (c:Cur):Prop:=((inC c.x0/\inC c.y0)/\inC c.x1/\inC c.y1)/\(inC c.x2/\inC c.y2)/\16<=c.w/\c.w<=4096
def sumC (w k n:Int):Int:=256*(n-k)*(n-k)+2*k*(n-k)*w+256*k*k
def atC (x0 x1 x2 w k n:Int):Int:=nr (256*(n-k)*(n-k)*x0+2*k*(n-k)*w*x1+256*k*k*x2) (sumC w k n)
def Cur.at (c:Cur) (k n:Int):Pt:=⟨atC c.x0 c.x1 c.x2 c.w k n,atC c.y0 c.y1 c.y2 c.w k n⟩
structure AtG where
 c:Cur
 k:Int
 n:Int
def AtG.ok (g:AtG):Prop:=g.c.ok/\(0<=g.k/\g.k<=g.n)/\1<=g.n/\g.n<=1024
def midP (c:Cur) (n k:Int):Prop:=b27 ⟨c.at k n,c.at (2*k+1) (2*n),c.at (k+1) n⟩
instance (c:Cur) (n k:Int):Decidable (midP c n k):=by unfold midP; infer_instance
structure FlG where
 c:Cur
 n:Int
end Con
namespace Rga
open Go.RowKit Sx Num Aff Con
set_option maxRecDepth 100000
structure Rn where
 y:Int
 x0:Int
 x1:Int
def rnL (r:Rn):List SV:=[.int .i64 r.y,.int .i64 r.x0,.int .i64 r.x1]
def rnS (r:Rn):SV:= .agg 3 (lst (rnL r))
def rnD (g:Nat->SV):Rn:=⟨Sx.intOf (g 0),Sx.intOf (g 1),Sx.intOf (g 2)⟩
def rI (L:List Rn) (i:Nat):Rn:=L.getD i ⟨0,0,0⟩
structure Rg where
 n:Nat
 f:Nat->Rn
def Rg.L (g:Rg):List Rn:=(List.range g.n).map g.f
def rgS (g:Rg):SV:= .sl g.n 3 (fun i=>lst (rnL (g.f i)))
def runsS (L:List Rn):SV:= .sl L.length 3 (fun i=>lst (rnL (rI L i)))
def rgD:SV->Nat->Rn
 | .sl _ _ f=>fun i=>rnD (f i)
 | _=>fun _=>⟨0,0,0⟩
theorem Rg.L_of (L:List Rn):Rg.L ⟨L.length,rI L⟩=L:=by
 unfold Rg.L;apply laa
 ·simp
 ·intro i h1 h2;simp [rI,la,lD h2]
theorem Rg.len (g:Rg):g.L.length=g.n:=by simp [Rg.L]
theorem Rg.rI {g:Rg}{i:Nat}(h:i<g.n):rI g.L i=g.f i:=by
 simp [Rga.rI,Rg.L,la,h]
def okR (r:Rn):Prop:=((-8192<=r.y/\r.y<8192)/\(-8192<=r.x0/\r.x0<=8192)/\ -8192<=r.x1/\r.x1<=8192)/\r.x0<r.x1
def ltR (r s:Rn):Prop:=r.y<s.y\/(r.y=s.y/\r.x1<s.x0)
def vld (L:List Rn):Prop:=(∀ r∈L,okR r)/\L.Pairwise ltR
def aK1:FSpec:=ac8 56 (γ:=Int) (fun | [.int _ x]=>some x | _=>none) (fun x=>[.int .i64 x]) (fun _=>True) (fun x=> .bool (decide (-8192<=x)&&decide (x<8192)))
theorem a83:aa9 Tw.prog aK1:=by
 refine ab0 (specs:=[]) (ac7 trivial) (eqs:=[]) (fun _ _ h=>(lx h).elim) Aff.mixed Tw.func56 rfl (by kernel_rfl) (fun _ _=>by kernel_rfl) (fun g=>A0) (fun g=>li (by kernel_rfl)) ?_;rintro x hx;refine af7 (B:=let z0:=(decide ((-8192:Int)<=x)&&decide (x<(8192:Int)));True/\True/\True/\True/\Br (decide ((-8192:Int)<=x)) (True/\True/\True/\True/\True/\Sx.Ask (decide (x<(8192:Int))=z0)) (True/\True/\True/\Sx.Ask (false=z0))) (by kernel_rfl) ?_;simp only [cln];refine ⟨fun h=>?_,fun h=>?_⟩
 ·rw [lk h]; rfl
 ·rw [lm h]; rfl
def aW5:FSpec:=ac8 18 (γ:=Int) (fun | [.int _ x]=>some x | _=>none) (fun x=>[.int .i64 x]) (fun _=>True) (fun x=> .bool (decide (-8192<=x)&&decide (x<=8192)))
theorem a86:aa9 Tw.prog aW5:=by
 refine ab0 (specs:=[]) (ac7 trivial) (eqs:=[]) (fun _ _ h=>(lx h).elim) Aff.mixed Tw.func18 rfl (by kernel_rfl) (fun _ _=>by kernel_rfl) (fun g=>A0) (fun g=>li (by kernel_rfl)) ?_;rintro x hx;refine af7 (B:=let z0:=(decide ((-8192:Int)<=x)&&decide (x<=(8192:Int)));True/\True/\True/\True/\Br (decide ((-8192:Int)<=x)) (True/\True/\True/\True/\True/\Sx.Ask (decide (x<=(8192:Int))=z0)) (True/\True/\True/\Sx.Ask (false=z0))) (by kernel_rfl) ?_;simp only [cln];refine ⟨fun h=>?_,fun h=>?_⟩
 ·rw [lk h]; rfl
 ·rw [lm h]; rfl
def bH2 (g:Rg):Inv:=⟨Int,fun i=>0<=i/\i<=g.n,fun i=>⟨[(0,rgS g),(5,rgS g),(6,.int .i64 g.n),(7,.int .i64 i)],[]⟩,fun i=>(g.n-i).toNat⟩
def bk5:FSpec:=ac8 42 (γ:=Rg) (fun | [s]=>some ⟨aG6 s,rgD s⟩ | _=>none) (fun g=>[rgS g]) (fun g=>vld g.L/\g.n<=4294967296) (fun _=> .int .i64 0)
theorem bC6:aa9 Tw.prog bk5:=by
 refine ab0 (specs:=[aK1,aW5]) (ac7 (⟨a83,a86,trivial⟩)) (eqs:=[]) (fun _ _ h=>(lx h).elim) Aff.mixed Tw.func42 rfl (by kernel_rfl) (fun _ _=>by kernel_rfl) (fun g=>(⟨[(2,.inv (bH2 g))],[]⟩:Ann)) (fun g=>li (by kernel_rfl)) ?_;rintro g hg;refine af7 (B:=let T4:=fun p:Prop=>True/\True/\True/\True/\p;let T5:=fun p:Prop=>True/\True/\True/\True/\True/\p;let K:=Br;let A:=Sx.Ask;let z11:=(↑g.n:Int);let z9:=(bH2 g);let z8:=(1:Int);let z7:=(0:Int);let z1:=(IntKind.i64=IntKind.i64);let q1:=fun p:Int=>A z1/\A (p=p);let z5:=(q1 z11);let z0:=(A (g.n=g.n)/\∀ i:Nat,i<g.n->((True/\q1 ((g.f i).y))/\q1 ((g.f i).x0))/\q1 ((g.f i).x1));T4 ((∃ g_1:Int,A (z9.pre g_1)/\(z0/\z0/\z5/\(A z1/\A (z7=g_1))/\True)/\True)/\∀ g_1:Int,let z10:=(g.f (g_1-z8).toNat);let z6:=(z7<=g_1-z8/\g_1-z8<z11);let z4:=(g.f g_1.toNat);let z3:=((-9223372036854775808:Int)<=g_1+z8/\g_1+z8<=(9223372036854775807:Int));let z2:=((-9223372036854775808:Int)<=g_1-z8/\g_1-z8<=(9223372036854775807:Int)); z9.pre g_1->True/\K (decide (g_1<z11)) (True/\A (z7<=g_1/\g_1<z11)/\T5 (True/\(((q1 z4.y)/\True)/\A True)/\True/\True/\K (!(decide ((-8192:Int)<=z4.y)&&decide (z4.y<(8192:Int)))) (T5 (A z1/\A ((3:Int)=z7))) (True/\True/\(((q1 z4.x0)/\True)/\A True)/\True/\True/\True/\K (!(decide ((-8192:Int)<=z4.x0)&&decide (z4.x0<=(8192:Int)))) (True/\True/\True/\A z1/\A ((3:Int)=z7)) (True/\True/\(((q1 z4.x1)/\True)/\A True)/\True/\True/\K (!(decide ((-8192:Int)<=z4.x1)&&decide (z4.x1<=(8192:Int)))) (True/\True/\A z1/\A ((3:Int)=z7)) (T5 (K (decide (z4.x1<=z4.x0)) (True/\True/\A z1/\A ((4:Int)=z7)) (True/\True/\True/\K (decide (z7<g_1)) (T4 (A z2/\A z6/\T5 (K (decide (z4.y<=z10.y)) (T4 (A z2/\A z6/\T4 (K (decide (z4.y<z10.y)) (T4 (A z1/\A ((18:Int)=z7))) (T4 (A z2/\A z6/\T5 (K (decide (z4.x0<=z10.x1)) (True/\True/\A z1/\A ((18:Int)=z7)) (A z3/\True/\∃ (g':Int),A (z9.pre g')/\((z0/\z0/\z5/\(A z1/\A (g_1+z8=g'))/\True)/\True)/\A (z9.meas g'<z9.meas g_1)))))))) (True/\A z3/\True/\∃ (g':Int),A (z9.pre g')/\((z0/\z0/\z5/\(A z1/\A (g_1+z8=g'))/\True)/\True)/\A (z9.meas g'<z9.meas g_1))))) (True/\True/\True/\A z3/\True/\∃ (g':Int),A (z9.pre g')/\((z0/\z0/\z5/\(A z1/\A (g_1+z8=g'))/\True)/\True)/\A (z9.meas g'<z9.meas g_1))))))))) (True/\True/\q1 z7))) (by kernel_rfl) ?_;simp only [cln];obtain ⟨⟨h1,h2⟩,h3⟩:=hg;have ok:∀ i,i<g.n->okR (g.f i):=fun i hi=>h1 _ (xq.2 ⟨i,lP.2 hi,rfl⟩)
 have lt:∀ i,i+1<g.n->ltR (g.f i) (g.f (i+1)):=fun i hi=>by
  have:=xU.1 h2 i (i+1) (by rw [Rg.len]; omega) (by rw [Rg.len]; exact hi) (by omega)
  simpa [Rg.L] using this
 refine ⟨⟨0,⟨xC _,Int.natCast_nonneg _⟩,rfl⟩,fun i hi hlt=>?_⟩;have hi:0<=i/\i<=g.n:=hi;obtain ⟨k,rfl⟩:∃ k:Nat,i=k:=⟨i.toNat,by omega⟩
 have e1:((k:Int)).toNat=k:=rfl;have e2:((k:Int)-1).toNat=k-1:=by omega
 have hk:=ok k (by omega);obtain ⟨⟨⟨a1,a2⟩,⟨b1,b2⟩,c1,c2⟩,d1⟩:=hk;rw [e1,e2,lk a1,lk a2,lk b1,lk b2,lk c1,lk c2];have fin:(-9223372036854775808<=(k:Int)+1/\(k:Int)+1<=9223372036854775807)/\∃ g':Int,(bH2 g).pre g'/\(k:Int)+1=g'/\(bH2 g).meas g'<(bH2 g).meas (k:Int):=by
  refine ⟨by omega,(k:Int)+1,⟨by omega,by omega⟩,rfl,?_⟩;show ((g.n:Int)-(k+1)).toNat<((g.n:Int)-k).toNat;omega
 refine ⟨by omega,fun h=>absurd h (by decide),fun _=>⟨fun h=>absurd h (by decide),fun _=>⟨fun h=>absurd h (by decide),fun _=>⟨fun h=>absurd h (by omega),fun _=>⟨fun h0=>?_,fun _=>fin⟩⟩⟩⟩⟩;have hl:=lt (k-1) (by omega);rw [show k-1+1=k by omega] at hl;have q1 : -9223372036854775808<=(k:Int)-1/\(k:Int)-1<=9223372036854775807:=by clear fin; omega
 have q2:0<=(k:Int)-1/\(k:Int)-1<(g.n:Int):=by clear fin; omega
 have hl:(g.f (k-1)).y<(g.f k).y\/((g.f (k-1)).y=(g.f k).y/\(g.f (k-1)).x1<(g.f k).x0):=hl;exact ⟨q1,q2,fun hy=>⟨q1,q2,fun hy2=>absurd hl (by clear fin; omega),fun hy2=>⟨q1,q2,fun hx=>absurd hl (by clear fin; omega),fun _=>fin⟩⟩,fun _=>fin⟩
def addR (L:List Rn) (r:Rn):List Rn:=if r.x0<r.x1 then (match L.getLast? with
 | some s=>if s.y=r.y/\r.x0<=s.x1 then L.dropLast++[⟨s.y,s.x0,if r.x1>s.x1 then r.x1 else s.x1⟩] else L++[r]
 | none=>[r]) else L
theorem bS8 (L:List Rn) (r:Rn) (i:Nat) (h:i<L.length+1):rI (L++[r]) i=if i<L.length then rI L i else r:=by
 unfold rI;by_cases hi:i<L.length
 ·rw [ln hi,la,xh hi,la]
 ·rw [lr hi,show i=L.length by omega];simp
theorem bB3 (L:List Rn) (s:Rn) (i:Nat) (h:i<L.length) (h0:0<L.length):rI (L.dropLast++[s]) i=if i=L.length-1 then s else rI L i:=by
 unfold rI;by_cases hi:i=L.length-1
 ·rw [ln hi,hi];simp
 ·rw [lr hi,la,xh (by rw [xD]; omega),la,List.getElem?_dropLast,ln (by omega)]
structure AdG where
 n:Nat
 f:Nat->Rn
 r:Rn
def AdG.L (g:AdG):List Rn:=addR (Rg.L ⟨g.n,g.f⟩) g.r
def adD:List SV->List SO->Option AdG
 | [_,.int _ y,.int _ x0,.int _ x1],[_,.row _ n _ g _]=>some ⟨n,fun i=>rnD (g i),⟨y,x0,x1⟩⟩
 | _,_=>none
def bS0:FSpec:=af4 19 [.arg 0,.cell 0 0] adD (fun g=>[.own 0 0,.int .i64 g.r.y,.int .i64 g.r.x0,.int .i64 g.r.x1])
 (fun g=>[.cells 1 (lst [.osl 1 0]) 55,.row 0 g.n 3 (fun i=>lst (rnL (g.f i))) 43]) (fun g=>g.n<=4294967296)
 (fun _=> .tup 0 (lst []))
 (fun g=>[.cells 1 (lst [.osl 1 1]) 55,.row 1 g.L.length 3 (fun i=>lst (rnL (rI g.L i))) 43])
theorem b22:aa9 Tw.prog bS0:=by
 refine ae4 (specs:=[]) (ac7 trivial) (eqs:=[]) (fun _ _ h=>(lx h).elim) Aff.mixed Tw.func19 rfl (by kernel_rfl) (fun _ _=>by kernel_rfl) (fun g=>A0) false (fun g=>li (by kernel_rfl)) ?_;rintro g hg;refine af7 (B:=let T5:=fun p:Prop=>True/\True/\True/\True/\True/\p;let T10:=fun p:Prop=>True/\True/\True/\True/\True/\True/\True/\True/\True/\True/\p;let K:=Br;let A:=Sx.Ask;let z11:=(2:Nat);let z10:=(0:Nat);let z9:=(1:Nat);let z7:=(↑g.n:Int);let z5:=(True/\True);let z4:=(IntKind.i64=IntKind.i64);let z3:=(g.n+z9<=(9223372036854775807:Nat)/\(g.n+z9)*(24:Nat)<=(140737488355328:Nat));let z2:=((0:Int)<=z7-(1:Int)/\z7-(1:Int)<z7);let z1:=(z7-(1:Int));let z8:=(z1.toNat<g.n);let z6:=(g.f z1.toNat);let z0:=(A (g.n+z9=g.L.length)/\∀ i:Nat,i<g.L.length->((True/\A z4/\A ((bif decide (i<g.n) then (g.f i).y else g.r.y)=(rI g.L i).y))/\A z4/\A ((bif decide (i<g.n) then (g.f i).x0 else g.r.x0)=(rI g.L i).x0))/\A z4/\A ((bif decide (i<g.n) then (g.f i).x1 else g.r.x1)=(rI g.L i).x1));True/\True/\True/\K (decide (g.r.x1<=g.r.x0)) (True/\True/\z5/\z5/\(A (g.n=g.L.length)/\∀ i:Nat,i<g.L.length->((True/\A z4/\A ((g.f i).y=(rI g.L i).y))/\A z4/\A ((g.f i).x0=(rI g.L i).x0))/\A z4/\A ((g.f i).x1=(rI g.L i).x1))/\True) (T5 (A ((-9223372036854775808:Int)<=z7-(1:Int)/\z7-(1:Int)<=(9223372036854775807:Int))/\True/\True/\True/\True/\K (decide ((0:Int)<=z7-(1:Int))) (T5 (A z2/\True/\A z8/\True/\True/\True/\True/\K (decide (z6.y=g.r.y)) (T5 (True/\A z2/\True/\A z8/\True/\True/\K (decide (g.r.x0<=z6.x1)) (T10 (A z2/\True/\A z8/\True/\True/\A z2/\True/\A z8/\True/\True/\z5/\z5/\(A (g.n=g.L.length)/\∀ i:Nat,i<g.L.length->((True/\A z4/\A ((bif decide (i=z1.toNat/\z10+z11<=z10/\z10<z10+z11+z9) then if g.r.x1>z6.x1 then g.r.x1 else z6.x1 else (g.f i).y)=(rI g.L i).y))/\A z4/\A ((bif decide (i=z1.toNat/\z10+z11<=z9/\z9<z10+z11+z9) then if g.r.x1>z6.x1 then g.r.x1 else z6.x1 else (g.f i).x0)=(rI g.L i).x0))/\A z4/\A ((bif decide (i=z1.toNat/\z10+z11<=z11/\z11<z10+z11+z9) then if g.r.x1>z6.x1 then g.r.x1 else z6.x1 else (g.f i).x1)=(rI g.L i).x1))/\True)) (T10 (A z3/\T5 (z5/\z5/\z0/\True))))) (T10 (True/\A z3/\T5 (z5/\z5/\z0/\True))))) (T10 (True/\True/\True/\A z3/\T5 (z5/\z5/\z0/\True)))))) (by kernel_rfl) ?_;simp only [cln];have hlen:(Rg.L ⟨g.n,g.f⟩).length=g.n:=Rg.len _;have hget:∀ i,i<g.n->rI (Rg.L ⟨g.n,g.f⟩) i=g.f i:=fun i hi=>Rg.rI (g:=⟨g.n,g.f⟩) hi
 have hL:g.L=addR (Rg.L ⟨g.n,g.f⟩) g.r:=rfl;generalize Rg.L ⟨g.n,g.f⟩=L at hlen hget hL;rw [hL];have app:∀ (i:Nat),i<(L++[g.r]).length->((bif decide (i<g.n) then (g.f i).y else g.r.y)=(rI (L++[g.r]) i).y/\(bif decide (i<g.n) then (g.f i).x0 else g.r.x0)=(rI (L++[g.r]) i).x0)/\(bif decide (i<g.n) then (g.f i).x1 else g.r.x1)=(rI (L++[g.r]) i).x1:=fun i hi=>by
  rw [bS8 L g.r i (by simpa using hi),hlen];by_cases h:i<g.n
  ·rw [lk h,ln h,hget i h]; exact ⟨⟨rfl,rfl⟩,rfl⟩
  ·rw [lm h,lr h]; exact ⟨⟨rfl,rfl⟩,rfl⟩
 have bnd:g.n+1<=9223372036854775807/\(g.n+1)*24<=140737488355328:=by omega
 have e1:((g.n:Int)-1).toNat=g.n-1:=by omega
 rw [e1];refine ⟨fun h=>?_,fun h=>⟨by omega,fun h0=>?_,fun h0=>?_⟩⟩
 ·have e:addR L g.r=L:=lr (by omega);rw [e];exact ⟨hlen.symm,fun i hi=>by rw [hget i (by omega)]; exact ⟨⟨rfl,rfl⟩,rfl⟩⟩
 ·have hn:0<g.n:=by omega
  have hlast:L.getLast?=some (g.f (g.n-1)):=by
   rw [<-hget (g.n-1) (by omega),List.getLast?_eq_getElem?,hlen];unfold rI;rw [la,lD (show g.n-1<L.length by omega)];rfl
  have ea:addR L g.r=if (g.f (g.n-1)).y=g.r.y/\g.r.x0<=(g.f (g.n-1)).x1 then L.dropLast++[⟨(g.f (g.n-1)).y,(g.f (g.n-1)).x0,if g.r.x1>(g.f (g.n-1)).x1 then g.r.x1 else (g.f (g.n-1)).x1⟩] else L++[g.r]:=by
   unfold addR;rw [ln (by omega),hlast]
  have q1:0<=(g.n:Int)-1/\(g.n:Int)-1<g.n:=by omega
  have q2:g.n-1<g.n:=by omega
  refine ⟨q1,q2,fun hy=>⟨q1,q2,fun hx=>⟨q1,q2,q1,q2,?_⟩,fun hx=>⟨bnd,?_⟩⟩,fun hy=>⟨bnd,?_⟩⟩
  ·rw [ea,ln ⟨hy,hx⟩];refine ⟨by rw [lB,xD,xx]; omega,fun i hi=>?_⟩;rw [bB3 L _ i (by rw [lB,xD,xx] at hi; omega) (by omega),hlen];by_cases h:i=g.n-1
   ·rw [lm (by omega),lm (by omega),lk ⟨h,by omega⟩,ln h,h];exact ⟨⟨rfl,rfl⟩,rfl⟩
   ·rw [lm (by omega),lm (by omega),lm (by omega),lr h,hget i (by rw [lB,xD,xx] at hi; omega)];exact ⟨⟨rfl,rfl⟩,rfl⟩
  ·rw [ea,lr (fun h=>hx h.2)];exact ⟨by simp [hlen],app⟩
  ·rw [ea,lr (fun h=>hy h.1)];exact ⟨by simp [hlen],app⟩
 ·have hn:g.n=0:=by omega
  have eL:L=[]:=un.1 (by omega);have ea:addR L g.r=L++[g.r]:=by
   unfold addR;rw [ln (by omega),eL];rfl
  rw [ea];exact ⟨bnd,by simp [hlen],app⟩
def orI (a b:Int):Int:=if a=0 then b else a
structure Eg where
 y:Int
 x:Int
 who:Int
structure EsG where
 g:Rg
 w:Int
def eX (f:Nat->Rn) (k:Nat):Int:=if k % 2=0 then (f (k / 2)).x0 else (f (k / 2)).x1
end Rga
namespace Gat
open Go.RowKit Sx Num Aff Con Rga
set_option maxRecDepth 100000
def b24:NSpec:=mkNS 39 (γ:=Unit) (fun | []=>some () | _=>none) (fun _=>[]) (fun _=>True) (fun _=> .own 0 0) (fun _=>[.cells 4 (lst [.omap 1,.cap0,.cap0,.lit false]) 101,.mpi (.arr 8 .u8) false (fun _=>false) (fun _=> .any)])
theorem cc6:NewsOK Tw.prog b24:=by
 refine a43 (specs:=[]) (ac7 trivial) (eqs:=[]) (fun _ _ h=>(lx h).elim) Aff.mixed Tw.func39 rfl (by kernel_rfl) (fun _ _=>by kernel_rfl) (fun g=>A0) (fun g=>[1,0]) (fun g=>li (by kernel_rfl)) ?_;rintro _ _;refine af7 (B:=True/\True/\True/\True/\True/\True/\(Sx.Ask ((0:Nat)=(0:Nat))/\True)/\((((True/\True)/\True)/\True)/\Sx.Ask (false=false))/\(∀ (l:List Int),l.length=(8:Nat)->Sx.Ask (false=false)/\((false||false)=true->True))/\True) (by kernel_rfl) ?_;simp only [cln];done
structure AaG where
 n:Nat
 m:Nat->Nat
 p:Nat->Nat->Rn
 i:Nat
 g:AdG
def ptS (g:AaG) (v:Nat):SO:= .deep 0 g.n 1 3 g.m (fun k i=>lst (rnL (g.p k i))) (fun _=>lst []) 55 43 (some (g.i,.osl 1 v))
def aaD:List SV->List SO->Option AaG
 | [.ownAt _ _ i _ _,.int _ y,.int _ x0,.int _ x1],[.deep _ n _ _ m p _ _ _ _,.row _ len _ f _]=>some ⟨n,m,fun k j=>rnD (p k j),i,⟨len,fun j=>rnD (f j),⟨y,x0,x1⟩⟩⟩
 | _,_=>none
def bA2:FSpec:=af4 19 [.arg 0,.hole 0] aaD (fun g=>[.ownAt 0 0 g.i 1 0,.int .i64 g.g.r.y,.int .i64 g.g.r.x0,.int .i64 g.g.r.x1])
 (fun g=>[ptS g 0,.row 0 g.g.n 3 (fun i=>lst (rnL (g.g.f i))) 43]) (fun g=>g.i<g.n/\g.g.n<=4294967296)
 (fun _=> .tup 0 (lst []))
 (fun g=>[ptS g 1,.row 1 g.g.L.length 3 (fun i=>lst (rnL (rI g.g.L i))) 43])
theorem bM7:aa9 Tw.prog bA2:=by
 refine ae4 (specs:=[]) (ac7 trivial) (eqs:=[]) (fun _ _ h=>(lx h).elim) Aff.mixed Tw.func19 rfl (by kernel_rfl) (fun _ _=>by kernel_rfl) (fun g=>A0) false (fun g=>li (by kernel_rfl)) ?_;rintro ⟨gn,gm,gp,gi,g⟩ hg;refine af7 (B:=let T2:=fun p:Prop=>True/\True/\p;let T4:=fun p:Prop=>True/\True/\True/\True/\p;let T5:=fun p:Prop=>True/\True/\True/\True/\True/\p;let K:=Br;let A:=Sx.Ask;let z13:=(2:Nat);let z12:=(0:Nat);let z11:=(1:Nat);let z9:=(True/\True);let z8:=(↑g.n:Int);let z6:=(gi<gn/\gi=gi);let z5:=(g.n+z11<=(9223372036854775807:Nat)/\(g.n+z11)*(24:Nat)<=(140737488355328:Nat));let z4:=((0:Int)<=z8-(1:Int)/\z8-(1:Int)<z8);let z3:=(IntKind.i64=IntKind.i64);let q3:=fun p:Int=>A z3/\A (p=p);let z2:=(z8-(1:Int));let z10:=(z2.toNat<g.n);let z7:=(g.f z2.toNat);let z1:=(A (g.n+z11=g.L.length)/\∀ i:Nat,i<g.L.length->((True/\A z3/\A ((bif decide (i<g.n) then (g.f i).y else g.r.y)=(Rga.rI g.L i).y))/\A z3/\A ((bif decide (i<g.n) then (g.f i).x0 else g.r.x0)=(Rga.rI g.L i).x0))/\A z3/\A ((bif decide (i<g.n) then (g.f i).x1 else g.r.x1)=(Rga.rI g.L i).x1));let z0:=(A (gn=gn)/\(A (gi=gi)/\True)/\(∀ i:Nat,i<gn->i≠gi->A (gm i=gm i)/\∀ (i':Nat),i'<gm i->((True/\q3 ((gp i i').y))/\q3 ((gp i i').x0))/\q3 ((gp i i').x1))/\∀ i:Nat,i<gn->True);T2 (True/\K (decide (g.r.x1<=g.r.x0)) (T2 (z9/\z0/\(A (g.n=g.L.length)/\∀ i:Nat,i<g.L.length->((True/\A z3/\A ((g.f i).y=(Rga.rI g.L i).y))/\A z3/\A ((g.f i).x0=(Rga.rI g.L i).x0))/\A z3/\A ((g.f i).x1=(Rga.rI g.L i).x1))/\True)) (T2 (True/\A z6/\True/\A ((-9223372036854775808:Int)<=z8-(1:Int)/\z8-(1:Int)<=(9223372036854775807:Int))/\T4 (K (decide ((0:Int)<=z8-(1:Int))) (T2 (True/\A z6/\True/\A z4/\True/\A z10/\T4 (K (decide (z7.y=g.r.y)) (T4 (A z6/\True/\A z4/\True/\A z10/\T2 (K (decide (g.r.x0<=z7.x1)) (T2 (True/\A z6/\T4 (A z6/\True/\A z4/\True/\A z10/\T2 (A z4/\True/\A z10/\T2 (z9/\z0/\(A (g.n=g.L.length)/\∀ i:Nat,i<g.L.length->((True/\A z3/\A ((bif decide (i=z2.toNat/\z12+z13<=z12/\z12<z12+z13+z11) then if g.r.x1>z7.x1 then g.r.x1 else z7.x1 else (g.f i).y)=(Rga.rI g.L i).y))/\A z3/\A ((bif decide (i=z2.toNat/\z12+z13<=z11/\z11<z12+z13+z11) then if g.r.x1>z7.x1 then g.r.x1 else z7.x1 else (g.f i).x0)=(Rga.rI g.L i).x0))/\A z3/\A ((bif decide (i=z2.toNat/\z12+z13<=z13/\z13<z12+z13+z11) then if g.r.x1>z7.x1 then g.r.x1 else z7.x1 else (g.f i).x1)=(Rga.rI g.L i).x1))/\True))))) (T4 (A z6/\T5 (A z5/\T2 (A z6/\T2 (z9/\z0/\z1/\True)))))))) (T5 (A z6/\T5 (A z5/\T2 (A z6/\T2 (z9/\z0/\z1/\True)))))))) (T5 (T2 (A z6/\T5 (A z5/\T2 (A z6/\T2 (z9/\z0/\z1/\True))))))))))) (by kernel_rfl) ?_;simp only [cln];have hin:gi<gn:=hg.1;have hg:g.n<=4294967296:=hg.2;simp only [hin,true_and];have hlen:(Rg.L ⟨g.n,g.f⟩).length=g.n:=Rg.len _;have hget:∀ i,i<g.n->rI (Rg.L ⟨g.n,g.f⟩) i=g.f i:=fun i hi=>Rg.rI (g:=⟨g.n,g.f⟩) hi
 have hL:g.L=addR (Rg.L ⟨g.n,g.f⟩) g.r:=rfl;generalize Rg.L ⟨g.n,g.f⟩=L at hlen hget hL;rw [hL];have app:∀ (i:Nat),i<(L++[g.r]).length->((bif decide (i<g.n) then (g.f i).y else g.r.y)=(rI (L++[g.r]) i).y/\(bif decide (i<g.n) then (g.f i).x0 else g.r.x0)=(rI (L++[g.r]) i).x0)/\(bif decide (i<g.n) then (g.f i).x1 else g.r.x1)=(rI (L++[g.r]) i).x1:=fun i hi=>by
  rw [bS8 L g.r i (by simpa using hi),hlen];by_cases h:i<g.n
  ·rw [lk h,ln h,hget i h]; exact ⟨⟨rfl,rfl⟩,rfl⟩
  ·rw [lm h,lr h]; exact ⟨⟨rfl,rfl⟩,rfl⟩
 have bnd:g.n+1<=9223372036854775807/\(g.n+1)*24<=140737488355328:=by omega
 have e1:((g.n:Int)-1).toNat=g.n-1:=by omega
 rw [e1];refine ⟨fun h=>?_,fun h=>⟨by omega,fun h0=>?_,fun h0=>?_⟩⟩
 ·have e:addR L g.r=L:=lr (by omega);rw [e];exact ⟨hlen.symm,fun i hi=>by rw [hget i (by omega)]; exact ⟨⟨rfl,rfl⟩,rfl⟩⟩
 ·have hn:0<g.n:=by omega
  have hlast:L.getLast?=some (g.f (g.n-1)):=by
   rw [<-hget (g.n-1) (by omega),List.getLast?_eq_getElem?,hlen];unfold rI;rw [la,lD (show g.n-1<L.length by omega)];rfl
  have ea:addR L g.r=if (g.f (g.n-1)).y=g.r.y/\g.r.x0<=(g.f (g.n-1)).x1 then L.dropLast++[⟨(g.f (g.n-1)).y,(g.f (g.n-1)).x0,if g.r.x1>(g.f (g.n-1)).x1 then g.r.x1 else (g.f (g.n-1)).x1⟩] else L++[g.r]:=by
   unfold addR;rw [ln (by omega),hlast]
  have q1:0<=(g.n:Int)-1/\(g.n:Int)-1<g.n:=by omega
  have q2:g.n-1<g.n:=by omega
  refine ⟨q1,q2,fun hy=>⟨q1,q2,fun hx=>⟨q1,q2,q1,q2,?_⟩,fun hx=>⟨bnd,?_⟩⟩,fun hy=>⟨bnd,?_⟩⟩
  ·rw [ea,ln ⟨hy,hx⟩];refine ⟨by rw [lB,xD,xx]; omega,fun i hi=>?_⟩;rw [bB3 L _ i (by rw [lB,xD,xx] at hi; omega) (by omega),hlen];by_cases h:i=g.n-1
   ·rw [lm (by omega),lm (by omega),lk ⟨h,by omega⟩,ln h,h];exact ⟨⟨rfl,rfl⟩,rfl⟩
   ·rw [lm (by omega),lm (by omega),lm (by omega),lr h,hget i (by rw [lB,xD,xx] at hi; omega)];exact ⟨⟨rfl,rfl⟩,rfl⟩
  ·rw [ea,lr (fun h=>hx h.2)];exact ⟨by simp [hlen],app⟩
  ·rw [ea,lr (fun h=>hy h.1)];exact ⟨by simp [hlen],app⟩
 ·have hn:g.n=0:=by omega
  have eL:L=[]:=un.1 (by omega);have ea:addR L g.r=L++[g.r]:=by
   unfold addR;rw [ln (by omega),eL];rfl
  rw [ea];exact ⟨bnd,by simp [hlen],app⟩
structure Gt where
 has:List Int->Bool
 val:List Int->Int
 n:Nat
 m:Nat->Nat
 p:Nat->Nat->Rn
 ink:Nat->Nat->Int
 full:Bool
def kOf (v:Nat->Int):List Int:=[v 0,v 1,v 2,v 3,v 4,v 5,v 6,v 7]
def nul:List Int:=[0,0,0,0,0,0,0,0]
def grw (G:Gt) (k:Nat) (r:Rn):List Rn:=addR (Rg.L ⟨G.m k,G.p k⟩) r
def putP (G:Gt) (k:Nat) (L:List Rn):Gt:={ G with m:=updN G.m k L.length,p:=fun i j=>bif decide (i=k) then rI L j else G.p i j }
def fresh (G:Gt) (v:Nat->Int):Gt:={ G with has:=putH G.has (kOf v),val:=fun l=>bif decide (l=kOf v) then (G.n:Int) else G.val l,n:=G.n+1,m:=updN G.m G.n 0,ink:=fun i j=>bif decide (i<G.n) then G.ink i j else v j }
def nxtB (G:Gt) (v:Nat->Int) (r:Rn):Gt:=
 if kOf v=nul\/G.full=true then G
 else if G.has (kOf v)=true then putP G (G.val (kOf v)).toNat (grw G (G.val (kOf v)).toNat r)
 else if G.n=4096 then { G with full:=true }
 else putP (fresh G v) G.n (grw (fresh G v) G.n r)
theorem bT9:∃ f,f=nxtB:=⟨_,rfl⟩
noncomputable def nxt:Gt->(Nat->Int)->Rn->Gt:=Classical.choose bT9
theorem bD0:nxt=nxtB:=Classical.choose_spec bT9
def vcS (v:Nat->Int):SV:= .agg 8 (fun j=> .int .u8 (v j))
def vcD:SV->Nat->Int
 | .agg _ g=>fun j=>Sx.intOf (g j)
 | _=>fun _=>0
def gaO (G:Gt) (v2 v3:Nat):List SO:=
 [.cells 4 (lst [.omap 1,.osl 2 v2,.osl 3 v3,.bool G.full]) 101,
   .mpi (.arr 8 .u8) false G.has (fun l=> .int .i64 (G.val l)),
   .deep v2 G.n 1 3 G.m (fun k i=>lst (rnL (G.p k i))) (fun _=>lst []) 55 43 none,
   .row v3 G.n 8 (fun i j=> .int .u8 (G.ink i j)) 33]
def gtD:List SO->Option Gt
 | [.cells _ c _,.mpi _ _ has val,.deep _ n _ _ m p _ _ _ _,.row _ _ _ ink _]=>some ⟨has,fun l=>Sx.intOf (val l),n,m,fun k j=>rnD (p k j),fun i j=>Sx.intOf (ink i j),cg3 (c 3)⟩
 | _=>none
structure Gok (B:Nat) (G:Gt):Prop where
 n:G.n<=4096
 m:∀ k,G.m k<=B
 val:∀ l,G.has l=true->0<=G.val l/\G.val l<G.n
structure GaG where
 G:Gt
 v:Nat->Int
 r:Rn
def gaD:List SV->List SO->Option GaG
 | [_,v,.int _ y,.int _ x0,.int _ x1],os=>match gtD os with
  | some G=>some ⟨G,vcD v,⟨y,x0,x1⟩⟩
  | none=>none
 | _,_=>none
theorem zer (v:Nat->Int):(decide (v 0=0)&&(decide (v 1=0)&&(decide (v 2=0)&&(decide (v 3=0)&&(decide (v 4=0)&&(decide (v 5=0)&&(decide (v 6=0)&&(decide (v 7=0)&&true))))))))=decide (kOf v=nul):=by
 rw [Bool.eq_iff_iff];simp [kOf,nul]
theorem bn2 (v:Nat->Int):[v 0,v 1,v 2,v 3,v 4,v 5,v 6,v 7]=kOf v:=rfl
noncomputable def bR6:FSpec:=af4 55 [.arg 0,.cell 0 0,.cell 0 1,.cell 0 2] gaD (fun g=>[.own 0 0,vcS g.v,.int .i64 g.r.y,.int .i64 g.r.x0,.int .i64 g.r.x1])
 (fun g=>gaO g.G 0 0) (fun g=>Gok 4294967295 g.G)
 (fun _=> .tup 0 (lst []))
 (fun g=>gaO (nxt g.G g.v g.r) 1 1)
abbrev eqI:List (TypeId×List CK):=[(33,[.int,.int,.int,.int,.int,.int,.int,.int])]
theorem bc5:bJ6 Tw.prog eqI:=⟨bG2 (m:=8) (by kernel_rfl) (by kernel_rfl) rfl (by decide) (by kernel_rfl),trivial⟩
theorem b18:aa9 Tw.prog bR6:=by
 refine ae4 (specs:=[bA2]) (ac7 ⟨bM7,trivial⟩) (eqs:=eqI) (all_eq bc5) Aff.mixed Tw.func55 rfl (by kernel_rfl) (fun _ _=>by kernel_rfl) (fun g=>(⟨[(4000008,.order [0,1,2,3,4,5,6,7,9,10,11,12,13,14,8,15,16,17,18,19,20,21])],[(1000008,[.aB3 2]),(9,[.focus 2 10]),(1000009,[.aB3 2])]⟩:Ann)) false (fun g=>li (by kernel_rfl)) ?_;rintro g hg;refine af7 (B:=let T5:=fun p:Prop=>True/\True/\True/\True/\True/\p;let K:=Br;let A:=Sx.Ask;let z25:=(8:Nat);let z24:=(True/\True);let z23:=(0:Int);let z10:=(1:Nat);let z8:=(IntKind.u8=IntKind.u8);let z7:=(↑g.G.n:Int);let z5:=(0:Nat);let z29:=(z5+z10);let z22:=(z5+(7:Nat));let z21:=(z5+(6:Nat));let z20:=(z5+(5:Nat));let z19:=(z5+(4:Nat));let z18:=(z5+(3:Nat));let z17:=(z5+(2:Nat));let z9:=(bif decide (z7.toNat=g.G.n) then z5 else g.G.m z7.toNat);let z14:=(AdG.mk z9 (g.G.p z7.toNat) g.r);let z3:=(IntKind.i64=IntKind.i64);let q3:=fun p:Int=>A z3/\A (p=p);let z32:=(q3 g.r.y);let z31:=(q3 g.r.x1);let z30:=(q3 g.r.x0);let z2:=(nxt g.G g.v g.r);let z11:=(((z24/\True)/\True)/\A (g.G.full=z2.full));let z6:=(∀ (l:List Int),l.length=z25->A (g.G.has l=z2.has l)/\((z2.has l||false)=true->A z3/\A (g.G.val l=z2.val l)));let z4:=(A (g.G.n=z2.n)/\(∀ i:Nat,i<z2.n->A (g.G.m i=z2.m i)/\∀ (i':Nat),i'<z2.m i->((True/\A z3/\A ((g.G.p i i').y=(z2.p i i').y))/\A z3/\A ((g.G.p i i').x0=(z2.p i i').x0))/\A z3/\A ((g.G.p i i').x1=(z2.p i i').x1))/\∀ i:Nat,i<z2.n->True);let z1:=(A (g.G.n=z2.n)/\∀ i:Nat,i<z2.n->(((((((True/\A z8/\A (g.G.ink i z5=z2.ink i z5))/\A z8/\A (g.G.ink i z10=z2.ink i z10))/\A z8/\A (g.G.ink i (2:Nat)=z2.ink i (2:Nat)))/\A z8/\A (g.G.ink i (3:Nat)=z2.ink i (3:Nat)))/\A z8/\A (g.G.ink i (4:Nat)=z2.ink i (4:Nat)))/\A z8/\A (g.G.ink i (5:Nat)=z2.ink i (5:Nat)))/\A z8/\A (g.G.ink i (6:Nat)=z2.ink i (6:Nat)))/\A z8/\A (g.G.ink i (7:Nat)=z2.ink i (7:Nat)));let z0:=(bif g.G.has [g.v (z5+z5),g.v z29,g.v z17,g.v z18,g.v z19,g.v z20,g.v z21,g.v z22] then g.G.val [g.v (z5+z5),g.v z29,g.v z17,g.v z18,g.v z19,g.v z20,g.v z21,g.v z22] else z23);let z13:=(AdG.mk (g.G.m z0.toNat) (g.G.p z0.toNat) g.r);T5 (K (decide (g.v (z5+z5)=z23)&&(decide (g.v (z5+z29)=z23)&&(decide (g.v (z5+(z5+z10+z10))=z23)&&(decide (g.v (z5+(z5+z10+z10+z10))=z23)&&(decide (g.v (z5+(z5+z10+z10+z10+z10))=z23)&&(decide (g.v (z5+(z5+z10+z10+z10+z10+z10))=z23)&&(decide (g.v (z5+(z5+z10+z10+z10+z10+z10+z10))=z23)&&(decide (g.v (z5+(z5+z10+z10+z10+z10+z10+z10+z10))=z23)&&true)))))))) (True/\True/\True/\z24/\z11/\z6/\z4/\z1/\True) (T5 (K g.G.full (True/\True/\z24/\z11/\z6/\z4/\z1/\True) (T5 (T5 (True/\True/\True/\K (!g.G.has [g.v (z5+z5),g.v z29,g.v z17,g.v z18,g.v z19,g.v z20,g.v z21,g.v z22]) (T5 (True/\K (decide (z7=(4096:Int))) (T5 (True/\z24/\(((z24/\True)/\True)/\A (true=z2.full))/\z6/\z4/\z1/\True)) (T5 (T5 (T5 (T5 (T5 (True/\True/\A (g.G.n+z10<=(9223372036854775807:Nat)/\(g.G.n+z10)*(24:Nat)<=(140737488355328:Nat))/\A (g.G.n+z10<=(9223372036854775807:Nat)/\(g.G.n+z10)*z25<=(140737488355328:Nat))/\T5 (T5 (True/\A (z23<=z7/\z7<(↑(g.G.n+z10):Int))/\True/\True/\True/\(((True/\((A (z7.toNat=z7.toNat)/\A (z5=z5))/\z32/\z30/\z31/\True)/\(A (g.G.n+z10=g.G.n+z10)/\(A (z7.toNat=z7.toNat)/\True)/\(∀ i:Nat,i<g.G.n+z10->i≠z7.toNat->A ((bif decide (i=g.G.n) then z5 else g.G.m i)=bif decide (i=g.G.n) then z5 else g.G.m i)/\∀ (i':Nat),let z27:=(g.G.p i i'); (i'<bif decide (i=g.G.n) then z5 else g.G.m i)->((True/\q3 z27.y)/\q3 z27.x0)/\q3 z27.x1)/\∀ i:Nat,i<g.G.n+z10->True)/\(A (z9=bif decide (z7.toNat=g.G.n) then z5 else g.G.m z7.toNat)/\∀ i:Nat,let z15:=(g.G.p z7.toNat i); (i<bif decide (z7.toNat=g.G.n) then z5 else g.G.m z7.toNat)->((True/\q3 z15.y)/\q3 z15.x0)/\q3 z15.x1)/\True)/\A (z7.toNat<g.G.n+z10/\z9<=(4294967296:Nat)))/\True/\A (z7.toNat<g.G.n+z10)/\True)/\True/\True/\z24/\z11/\(∀ (l:List Int),let z12:=(l=[g.v (z5+z5),g.v z29,g.v z17,g.v z18,g.v z19,g.v z20,g.v z21,g.v z22]); l.length=z25->A ((decide z12||g.G.has l)=z2.has l)/\((z2.has l||false)=true->A z3/\A ((bif decide z12 then z7 else g.G.val l)=z2.val l)))/\(A (g.G.n+z10=z2.n)/\(∀ i:Nat,i<z2.n->A ((bif decide (i=z7.toNat) then z14.L.length else bif decide (i=g.G.n) then z5 else g.G.m i)=z2.m i)/\∀ (i':Nat),i'<z2.m i->((True/\A z3/\A ((bif decide (i=z7.toNat) then (Rga.rI z14.L i').y else (g.G.p i i').y)=(z2.p i i').y))/\A z3/\A ((bif decide (i=z7.toNat) then (Rga.rI z14.L i').x0 else (g.G.p i i').x0)=(z2.p i i').x0))/\A z3/\A ((bif decide (i=z7.toNat) then (Rga.rI z14.L i').x1 else (g.G.p i i').x1)=(z2.p i i').x1))/\∀ i:Nat,i<z2.n->True)/\(A (g.G.n+z10=z2.n)/\∀ i:Nat,let z26:=(i<g.G.n); i<z2.n->(((((((True/\A z8/\A ((bif decide z26 then g.G.ink i z5 else g.v (z5+(z5-z5*z25)))=z2.ink i z5))/\A z8/\A ((bif decide z26 then g.G.ink i z10 else g.v (z5+(z10-z5*z25)))=z2.ink i z10))/\A z8/\A ((bif decide z26 then g.G.ink i (2:Nat) else g.v (z5+((2:Nat)-z5*z25)))=z2.ink i (2:Nat)))/\A z8/\A ((bif decide z26 then g.G.ink i (3:Nat) else g.v (z5+((3:Nat)-z5*z25)))=z2.ink i (3:Nat)))/\A z8/\A ((bif decide z26 then g.G.ink i (4:Nat) else g.v (z5+((4:Nat)-z5*z25)))=z2.ink i (4:Nat)))/\A z8/\A ((bif decide z26 then g.G.ink i (5:Nat) else g.v (z5+((5:Nat)-z5*z25)))=z2.ink i (5:Nat)))/\A z8/\A ((bif decide z26 then g.G.ink i (6:Nat) else g.v (z5+((6:Nat)-z5*z25)))=z2.ink i (6:Nat)))/\A z8/\A ((bif decide z26 then g.G.ink i (7:Nat) else g.v (z5+((7:Nat)-z5*z25)))=z2.ink i (7:Nat)))/\True)))))))))) (T5 (A ((z23<=bif g.G.has [g.v (z5+z5),g.v z29,g.v z17,g.v z18,g.v z19,g.v z20,g.v z21,g.v z22] then g.G.val [g.v (z5+z5),g.v z29,g.v z17,g.v z18,g.v z19,g.v z20,g.v z21,g.v z22] else z23)/\z0<z7)/\True/\True/\True/\(((True/\((A (z0.toNat=z0.toNat)/\A (z5=z5))/\z32/\z30/\z31/\True)/\(A (g.G.n=g.G.n)/\(A (z0.toNat=z0.toNat)/\True)/\(∀ i:Nat,i<g.G.n->i≠z0.toNat->A (g.G.m i=g.G.m i)/\∀ (i':Nat),let z28:=(g.G.p i i'); i'<g.G.m i->((True/\q3 z28.y)/\q3 z28.x0)/\q3 z28.x1)/\∀ i:Nat,i<g.G.n->True)/\(A (g.G.m z0.toNat=g.G.m z0.toNat)/\∀ i:Nat,let z16:=(g.G.p z0.toNat i); i<g.G.m z0.toNat->((True/\q3 z16.y)/\q3 z16.x0)/\q3 z16.x1)/\True)/\A (z0.toNat<g.G.n/\g.G.m z0.toNat<=(4294967296:Nat)))/\True/\A (z0.toNat<g.G.n)/\True)/\True/\True/\z24/\z11/\z6/\(A (g.G.n=z2.n)/\(∀ i:Nat,i<z2.n->A ((bif decide (i=z0.toNat) then z13.L.length else g.G.m i)=z2.m i)/\∀ (i':Nat),i'<z2.m i->((True/\A z3/\A ((bif decide (i=z0.toNat) then (Rga.rI z13.L i').y else (g.G.p i i').y)=(z2.p i i').y))/\A z3/\A ((bif decide (i=z0.toNat) then (Rga.rI z13.L i').x0 else (g.G.p i i').x0)=(z2.p i i').x0))/\A z3/\A ((bif decide (i=z0.toNat) then (Rga.rI z13.L i').x1 else (g.G.p i i').x1)=(z2.p i i').x1))/\∀ i:Nat,i<z2.n->True)/\z1/\True))))))))) (by kernel_rfl) ?_;simp only [cln];simp only [Nat.reduceAdd,zer,lM,xN,xb,uW,Bool.not_eq_false',bn2];rw [bD0];have same:∀ G':Gt,G'=g.G->g.G.full=G'.full/\(∀ (l:List Int),l.length=8->g.G.has l=G'.has l/\(G'.has l=true->g.G.val l=G'.val l))/\(g.G.n=G'.n/\∀ (i:Nat),i<G'.n->g.G.m i=G'.m i/\∀ (i':Nat),i'<G'.m i->((g.G.p i i').y=(G'.p i i').y/\(g.G.p i i').x0=(G'.p i i').x0)/\(g.G.p i i').x1=(G'.p i i').x1)/\
   g.G.n=G'.n/\∀ (i:Nat),i<G'.n->((((((g.G.ink i 0=G'.ink i 0/\g.G.ink i 1=G'.ink i 1)/\g.G.ink i 2=G'.ink i 2)/\g.G.ink i 3=G'.ink i 3)/\g.G.ink i 4=G'.ink i 4)/\g.G.ink i 5=G'.ink i 5)/\g.G.ink i 6=G'.ink i 6)/\g.G.ink i 7=G'.ink i 7:=by
  rintro G' rfl;exact ⟨rfl,fun l _=>⟨rfl,fun _=>rfl⟩,⟨rfl,fun i _=>⟨rfl,fun i' _=>⟨⟨rfl,rfl⟩,rfl⟩⟩⟩,rfl,fun i _=>⟨⟨⟨⟨⟨⟨⟨rfl,rfl⟩,rfl⟩,rfl⟩,rfl⟩,rfl⟩,rfl⟩,rfl⟩⟩
 have hn:=hg.n;refine ⟨fun h0=>same _ (ln (.inl h0)),fun h0=>⟨fun hf=>same _ (ln (.inr hf)),fun hf=>?_⟩⟩;have hor:¬ (kOf g.v=nul\/g.G.full=true):=fun h=>h.elim h0 (fun h=>by rw [hf] at h; cases h)
 refine ⟨fun hh=>⟨fun h4=>?_,fun h4=>?_⟩,fun hh=>?_⟩
 ·have e:nxtB g.G g.v g.r={ g.G with full:=true }:=by
   unfold nxtB;rw [lr hor,lr (by rw [hh]; decide),ln (by omega)]
  rw [e];exact ⟨rfl,(same _ rfl).2⟩
 ·have e:nxtB g.G g.v g.r=putP (fresh g.G g.v) g.G.n (grw (fresh g.G g.v) g.G.n g.r):=by
   unfold nxtB;rw [lr hor,lr (by rw [hh]; decide),lr (by omega)]
  have e0:grw (fresh g.G g.v) g.G.n g.r=AdG.L ⟨0,g.G.p g.G.n,g.r⟩:=by
   show addR (Rg.L ⟨updN g.G.m g.G.n 0 g.G.n,g.G.p g.G.n⟩) g.r=_;rw [ah5];rfl
  rw [e,e0];simp only [ly,decide_true,uh];refine ⟨by omega,by omega,by omega,⟨⟨by omega,by omega⟩,by omega⟩,rfl,fun l _=>⟨rfl,fun _=>rfl⟩,⟨rfl,fun i _=>⟨rfl,fun i' _=>?_⟩⟩,rfl,fun i _=>⟨⟨⟨⟨⟨⟨⟨rfl,rfl⟩,rfl⟩,rfl⟩,rfl⟩,rfl⟩,rfl⟩,rfl⟩⟩;show (_=(bif decide (i=g.G.n) then _ else _:Rn).y/\_=(bif decide (i=g.G.n) then _ else _:Rn).x0)/\_=(bif decide (i=g.G.n) then _ else _:Rn).x1;cases decide (i=g.G.n)<;>exact ⟨⟨rfl,rfl⟩,rfl⟩
 ·have hv:=hg.val _ hh;have hm:=hg.m (g.G.val (kOf g.v)).toNat;have e:nxtB g.G g.v g.r=putP g.G (g.G.val (kOf g.v)).toNat (grw g.G (g.G.val (kOf g.v)).toNat g.r):=by
   unfold nxtB;rw [lr hor,ln hh]
  rw [e];simp only [hh,uh];refine ⟨by omega,⟨⟨by omega,by omega⟩,by omega⟩,rfl,fun l _=>⟨rfl,fun _=>rfl⟩,⟨rfl,fun i _=>⟨rfl,fun i' _=>?_⟩⟩,rfl,fun i _=>⟨⟨⟨⟨⟨⟨⟨rfl,rfl⟩,rfl⟩,rfl⟩,rfl⟩,rfl⟩,rfl⟩,rfl⟩⟩;show (_=(bif decide (i=(g.G.val (kOf g.v)).toNat) then _ else _:Rn).y/\_=(bif decide (i=(g.G.val (kOf g.v)).toNat) then _ else _:Rn).x0)/\_=(bif decide (i=(g.G.val (kOf g.v)).toNat) then _ else _:Rn).x1;cases decide (i=(g.G.val (kOf g.v)).toNat)<;>exact ⟨⟨rfl,rfl⟩,rfl⟩
end Gat
namespace Gar
open Go.RowKit Sx Num Aff Con Rga Gat
set_option maxRecDepth 100000
abbrev Vec:=Nat->Int
def brkG (f:Nat->Vec) (len x:Nat):Nat->Nat->Nat
 | 0,to=>to
 | n+1,to=>if to<len/\kOf (f to)=kOf (f x) then brkG f len x n (to+1) else to
def brk (f:Nat->Vec) (len x:Nat):Nat:=brkG f len x (len-(x+1)) (x+1)
theorem bH7 (f:Nat->Vec) (len x:Nat):∀ n to,to<=len->to<=brkG f len x n to/\brkG f len x n to<=len
 | 0,to,h=>⟨lf _,h⟩
 | n+1,to,h=>by
  unfold brkG;split
  ·rename_i hc;have:=bH7 f len x n (to+1) hc.1
   exact ⟨by omega,this.2⟩
  ·exact ⟨lf _,h⟩
theorem bd2 (f:Nat->Vec) (len x:Nat):∀ n to,∀ k,to<=k->k<brkG f len x n to->kOf (f k)=kOf (f x)
 | 0,to,k,h1,h2=>by simp only [brkG] at h2; omega
 | n+1,to,k,h1,h2=>by
  unfold brkG at h2;split at h2
  ·rename_i hc;by_cases hk:k=to
   ·subst hk; exact hc.2
   ·exact bd2 f len x n (to+1) k (by omega) h2
  ·omega
theorem bo0 (f:Nat->Vec) (len x:Nat):∀ n to,len<=to+n->to<=len->brkG f len x n to<len->kOf (f (brkG f len x n to))≠kOf (f x)
 | 0,to,h,h2,h3=>by simp only [brkG] at h3; omega
 | n+1,to,h,h2,h3=>by
  unfold brkG at h3 ⊢;split at h3
  ·rename_i hc;rw [ln hc];exact bo0 f len x n (to+1) (by omega) hc.1 h3
  ·rename_i hc;rw [lr hc];exact fun he=>hc ⟨h3,he⟩
theorem bn9 {f:Nat->Vec}{len x:Nat}(h:x<len):(x<brk f len x/\brk f len x<=len)/\(∀ k,x<=k->k<brk f len x->kOf (f k)=kOf (f x))/\(brk f len x<len->kOf (f (brk f len x))≠kOf (f x)):=by
 have h1:=bH7 f len x (len-(x+1)) (x+1) h;refine ⟨⟨by unfold brk; omega,h1.2⟩,fun k hk hb=>?_,fun hb=>bo0 f len x _ _ (by omega) h hb⟩;by_cases hkx:k=x
 ·rw [hkx]
 ·exact bd2 f len x _ _ k (by omega) hb
noncomputable def rowG (f:Nat->Vec) (y:Int) (len:Nat):Nat->Nat->Gt->Gt
 | 0,_,G=>G
 | n+1,x,G=>if x<len then rowG f y len n (brk f len x) (nxt G (f x) ⟨y,x,brk f len x⟩) else G
theorem a65 (f:Nat->Vec) (y:Int) (len:Nat):∀ n m x G,len<=x+n->len<=x+m->rowG f y len n x G=rowG f y len m x G
 | 0,0,_,_,_,_=>rfl
 | 0,m+1,x,G,h,_=>by unfold rowG; rw [lr (by omega)]
 | n+1,0,x,G,_,h=>by unfold rowG; rw [lr (by omega)]
 | n+1,m+1,x,G,h1,h2=>by
  unfold rowG;by_cases hx:x<len
  ·rw [ln hx,ln hx];have:=(bn9 (f:=f) hx).1
   exact a65 f y len n m _ _ (by omega) (by omega)
  ·rw [lr hx,lr hx]
theorem as2 (f:Nat->Vec) (y:Int) (len n x:Nat) (G:Gt):rowG f y len (n+1) x G=if x<len then rowG f y len n (brk f len x) (nxt G (f x) ⟨y,x,brk f len x⟩) else G:=rfl
noncomputable def rowB (G:Gt) (y:Int) (len:Nat) (f:Nat->Vec):Gt:=rowG f y len len 0 G
theorem bS6:∃ f,f=rowB:=⟨_,rfl⟩
noncomputable def rowA:Gt->Int->Nat->(Nat->Vec)->Gt:=Classical.choose bS6
theorem bl0:rowA=rowB:=Classical.choose_spec bS6
theorem a10 (L:List Rn) (r:Rn):(addR L r).length<=L.length+1:=by
 unfold addR;split
 ·split
  ·split
   ·rename_i h1 _; have:=xD (xs:=L); simp only [lB,this,xx]; omega
   ·simp
  ·simp
 ·omega
theorem bT8 {B:Nat}{G:Gt}(h:Gok B G) (v:Vec) (r:Rn):Gok (B+1) (nxt G v r):=by
 rw [bD0];have up:Gok (B+1) G:=⟨h.n,fun k=>xR (h.m k),h.val⟩
 have put:∀ {G:Gt}{k:Nat}{L:List Rn},Gok (B+1) G->L.length<=B+1->Gok (B+1) (putP G k L):=fun {G k L} h hl=>by
  refine ⟨h.n,fun j=>?_,h.val⟩;show updN G.m k L.length j<=_;unfold updN;cases decide (j=k)
  ·exact h.m j
  ·exact hl
 have glen:∀ (G:Gt) (k:Nat),(grw G k r).length<=G.m k+1:=fun G k=>by
  have:=a10 (Rg.L ⟨G.m k,G.p k⟩) r
  rwa [Rg.len] at this
 unfold nxtB;split
 ·exact up
 ·split
  ·exact put up (xc (glen _ _) (by have:=h.m (G.val (kOf v)).toNat; omega))
  ·split
   ·exact ⟨up.n,up.m,up.val⟩
   ·rename_i hh hn;have hn':=h.n;refine put ⟨by show G.n+1<=4096; omega,fun k=>?_,fun l hl=>?_⟩ (xc (glen _ _) ?_)
    ·show updN G.m G.n 0 k<=_;unfold updN;cases decide (k=G.n)
     ·exact xR (h.m k)
     ·exact lE _
    ·show 0<=(bif decide (l=kOf v) then (G.n:Int) else G.val l)/\(bif decide (l=kOf v) then (G.n:Int) else G.val l)<((G.n+1:Nat):Int);have hl:(decide (l=kOf v)||G.has l)=true:=hl;cases hd:decide (l=kOf v) with
     | true=>simp only [uh]; omega
     | false=>
      rw [hd,Bool.false_or] at hl;have:=h.val l hl
      simp only [cond_false];omega
    ·show updN G.m G.n 0 G.n+1<=B+1;rw [ah5];omega
theorem same8 (v u:Vec):(decide (v 0=u 0)&&(decide (v 1=u 1)&&(decide (v 2=u 2)&&(decide (v 3=u 3)&&(decide (v 4=u 4)&&(decide (v 5=u 5)&&(decide (v 6=u 6)&&(decide (v 7=u 7)&&true))))))))=decide (kOf v=kOf u):=by
 rw [Bool.eq_iff_iff];simp [kOf]
theorem aM1 {B C:Nat}{G:Gt}(h:Gok B G) (hc:B<=C):Gok C G:=⟨h.n,fun k=>xc (h.m k) hc,h.val⟩
theorem bA7 (G:Gt):G.full=G.full/\(∀ (l:List Int),l.length=8->G.has l=G.has l/\(G.has l=true->G.val l=G.val l))/\(G.n=G.n/\∀ (i:Nat),i<G.n->G.m i=G.m i/\∀ (i':Nat),i'<G.m i->((G.p i i').y=(G.p i i').y/\(G.p i i').x0=(G.p i i').x0)/\(G.p i i').x1=(G.p i i').x1)/\
  G.n=G.n/\∀ (i:Nat),i<G.n->((((((G.ink i 0=G.ink i 0/\G.ink i 1=G.ink i 1)/\G.ink i 2=G.ink i 2)/\G.ink i 3=G.ink i 3)/\G.ink i 4=G.ink i 4)/\G.ink i 5=G.ink i 5)/\G.ink i 6=G.ink i 6)/\G.ink i 7=G.ink i 7:=
 ⟨rfl,fun l _=>⟨rfl,fun _=>rfl⟩,⟨rfl,fun i _=>⟨rfl,fun i' _=>⟨⟨rfl,rfl⟩,rfl⟩⟩⟩,rfl,fun i _=>⟨⟨⟨⟨⟨⟨⟨rfl,rfl⟩,rfl⟩,rfl⟩,rfl⟩,rfl⟩,rfl⟩,rfl⟩⟩
structure RoG where
 G:Gt
 y:Int
 n:Nat
 f:Nat->Vec
def bd1 (n:Nat) (f:Nat->Vec):SV:= .sl n 8 (fun i j=> .int .u8 (f i j))
def bP5:SV->Nat->Vec
 | .sl _ _ g=>fun i j=>Sx.intOf (g i j)
 | _=>fun _ _=>0
def roD:List SV->List SO->Option RoG
 | [_,.int _ y,s],os=>match gtD os with
  | some G=>some ⟨G,y,aG6 s,bP5 s⟩
  | none=>none
 | _,_=>none
structure RoS where
 x:Nat
 G:Gt
structure RoP (g:RoG) (B:Nat) (s:RoS):Prop where
 le:s.x<=g.n
 ok:Gok (B+s.x) s.G
 fin:rowG g.f g.y g.n (g.n-s.x) s.x s.G=rowA g.G g.y g.n g.f
structure RoJ (g:RoG) (s:RoS) (to:Nat):Prop where
 lt:s.x<to
 le:to<=g.n
 fin:brkG g.f g.n s.x (g.n-to) to=brk g.f g.n s.x
def roI (g:RoG):Inv:=⟨RoS,fun s=>∃ B,RoP g B s/\B+g.n<=4294967295,fun s=>⟨[(0,.own 0 0),(1,.int .i64 g.y),(2,bd1 g.n g.f),(6,.int .i64 s.x)],gaO s.G 1 1⟩,fun s=>g.n-s.x⟩
def roIJ (g:RoG) (s:RoS):Inv:=⟨Nat,fun to=>s.x<g.n/\RoJ g s to,fun to=>⟨[(0,.own 0 0),(1,.int .i64 g.y),(2,bd1 g.n g.f),(6,.int .i64 s.x),(7,.int .i64 to)],gaO s.G 1 1⟩,fun to=>g.n-to⟩
noncomputable def ak9:FSpec:=af4 40 [.arg 0,.cell 0 0,.cell 0 1,.cell 0 2] roD (fun g=>[.own 0 0,.int .i64 g.y,bd1 g.n g.f])
 (fun g=>gaO g.G 0 0) (fun g=>∃ B,Gok B g.G/\B+g.n<=4294967295)
 (fun _=> .tup 0 (lst []))
 (fun g=>gaO (rowA g.G g.y g.n g.f) 1 1)
theorem cc2:aa9 Tw.prog ak9:=by
 refine ae4 (specs:=[bR6]) (ac7 ⟨b18,trivial⟩) (eqs:=eqI) (all_eq bc5) Aff.mixed Tw.func40 rfl (by kernel_rfl) (fun _ _=>by kernel_rfl) (fun g=>(⟨[(1,.nest (roI g) (fun s=>[(3,.inv (roIJ g s))]))],[]⟩:Ann)) false (fun g=>li (by kernel_rfl)) ?_;rintro g ⟨B,hB,hle⟩;refine af7 (B:=let T4:=fun p:Prop=>True/\True/\True/\True/\p;let A:=Sx.Ask;let z21:=(7:Nat);let z20:=(6:Nat);let z19:=(5:Nat);let z18:=(4:Nat);let z17:=(3:Nat);let z16:=(2:Nat);let z12:=(((True/\True)/\True)/\True);let z10:=(1:Nat);let z9:=(0:Nat);let z27:=(z9+(z9+z10+z10+z10+z10+z10));let z26:=(z9+(z9+z10+z10+z10+z10+z10+z10));let z25:=(z9+(z9+z10+z10+z10+z10+z10+z10+z10));let z8:=(rowA g.G g.y g.n g.f);let z5:=(IntKind.i64=IntKind.i64);let q5:=fun p:Int=>A z5/\A (p=p);let z14:=(q5 g.y);let z4:=(IntKind.u8=IntKind.u8);let q4:=fun p:Int=>A z4/\A (p=p);let z2:=(A (g.n=g.n)/\∀ i:Nat,i<g.n->(chp True (fun j:Nat=>q4 (g.f i j)) 7)/\q4 (g.f i z21));True/\(∃ g_1:RoS,A ((roI g).pre g_1)/\True/\(A (z9=z9)/\z14/\z2/\(A z5/\A ((0:Int)=(↑g_1.x:Int)))/\True)/\(z12/\A (g.G.full=g_1.G.full))/\(∀ (l:List Int),l.length=(8:Nat)->A (g.G.has l=g_1.G.has l)/\((g_1.G.has l||false)=true->A z5/\A (g.G.val l=g_1.G.val l)))/\(A (g.G.n=g_1.G.n)/\(∀ i:Nat,i<g_1.G.n->A (g.G.m i=g_1.G.m i)/\∀ (i':Nat),i'<g_1.G.m i->((True/\A z5/\A ((g.G.p i i').y=(g_1.G.p i i').y))/\A z5/\A ((g.G.p i i').x0=(g_1.G.p i i').x0))/\A z5/\A ((g.G.p i i').x1=(g_1.G.p i i').x1))/\∀ i:Nat,i<g_1.G.n->True)/\(A (g.G.n=g_1.G.n)/\∀ i:Nat,i<g_1.G.n->(((((((True/\A z4/\A (g.G.ink i z9=g_1.G.ink i z9))/\A z4/\A (g.G.ink i z10=g_1.G.ink i z10))/\A z4/\A (g.G.ink i z16=g_1.G.ink i z16))/\A z4/\A (g.G.ink i z17=g_1.G.ink i z17))/\A z4/\A (g.G.ink i z18=g_1.G.ink i z18))/\A z4/\A (g.G.ink i z19=g_1.G.ink i z19))/\A z4/\A (g.G.ink i z20=g_1.G.ink i z20))/\A z4/\A (g.G.ink i z21=g_1.G.ink i z21))/\True)/\∀ g_1:RoS,let z28:=(roIJ g g_1);let z15:=(z12/\A (g_1.G.full=g_1.G.full));let z11:=(∀ (l:List Int),l.length=(8:Nat)->A (g_1.G.has l=g_1.G.has l)/\((g_1.G.has l||false)=true->q5 (g_1.G.val l)));let z7:=(↑g_1.x:Int);let z23:=(q5 z7);let z22:=((0:Int)<=z7/\z7<(↑g.n:Int));let z6:=(A (g_1.G.n=g_1.G.n)/\(∀ i:Nat,i<g_1.G.n->A (g_1.G.m i=g_1.G.m i)/\∀ (i':Nat),let z24:=(g_1.G.p i i'); i'<g_1.G.m i->((True/\q5 z24.y)/\q5 z24.x0)/\q5 z24.x1)/\∀ i:Nat,i<g_1.G.n->True);let z3:=(A (g_1.G.n=g_1.G.n)/\∀ i:Nat,i<g_1.G.n->(chp True (fun j:Nat=>q4 (g_1.G.ink i j)) 7)/\q4 (g_1.G.ink i z21)); (roI g).pre g_1->T4 (Br (decide (z7<(↑g.n:Int))) (True/\A ((-9223372036854775808:Int)<=z7+(1:Int)/\z7+(1:Int)<=(9223372036854775807:Int))/\True/\(∃ g_2:Nat,A (z28.pre g_2)/\True/\(A (z9=z9)/\z14/\z2/\z23/\(A z5/\A (z7+(1:Int)=(↑g_2:Int)))/\True)/\z15/\z11/\z6/\z3/\True)/\∀ g_2:Nat,let z13:=(↑g_2:Int);let z1:=((True/\(A (z9=z9)/\(chp True (fun j:Nat=>q4 (g.f z7.toNat (z9+j))) 8)/\z14/\z23/\(q5 z13)/\True)/\z15/\z11/\z6/\z3/\True)/\A (Gok (4294967295:Nat) g_1.G));let z0:=(Gat.nxt g_1.G (fun (j:Nat)=>g.f z7.toNat (z9+j)) (Rn.mk g.y z7 z13)); z28.pre g_2->T4 (True/\Br (decide (z13<(↑g.n:Int))) (True/\True/\A ((0:Int)<=z13/\z13<(↑g.n:Int))/\True/\True/\True/\A z22/\True/\True/\True/\Br (decide (g.f z13.toNat (z9+z9)=g.f z7.toNat (z9+z9))&&(decide (g.f z13.toNat (z9+(z9+z10))=g.f z7.toNat (z9+(z9+z10)))&&(decide (g.f z13.toNat (z9+(z9+z10+z10))=g.f z7.toNat (z9+(z9+z10+z10)))&&(decide (g.f z13.toNat (z9+(z9+z10+z10+z10))=g.f z7.toNat (z9+(z9+z10+z10+z10)))&&(decide (g.f z13.toNat (z9+(z9+z10+z10+z10+z10))=g.f z7.toNat (z9+(z9+z10+z10+z10+z10)))&&(decide (g.f z13.toNat z27=g.f z7.toNat z27)&&(decide (g.f z13.toNat z26=g.f z7.toNat z26)&&(decide (g.f z13.toNat z25=g.f z7.toNat z25)&&true)))))))) (True/\A ((-9223372036854775808:Int)<=z13+(1:Int)/\z13+(1:Int)<=(9223372036854775807:Int))/\True/\∃ (g':Nat),A (z28.pre g')/\True/\((A (z9=z9)/\z14/\z2/\z23/\(A z5/\A (z13+(1:Int)=(↑g':Int)))/\True)/\z15/\z11/\z6/\z3/\True)/\A (z28.meas g'<z28.meas g_2)) (True/\True/\True/\A z22/\T4 (z1/\True/\True/\∃ (g':RoS),A ((roI g).pre g')/\True/\((A (z9=z9)/\z14/\z2/\(A z5/\A (z13=(↑g'.x:Int)))/\True)/\(z12/\A (z0.full=g'.G.full))/\(∀ (l:List Int),l.length=(8:Nat)->A (z0.has l=g'.G.has l)/\((g'.G.has l||false)=true->A z5/\A (z0.val l=g'.G.val l)))/\(A (z0.n=g'.G.n)/\(∀ i:Nat,i<g'.G.n->A (z0.m i=g'.G.m i)/\∀ (i':Nat),i'<g'.G.m i->((True/\A z5/\A ((z0.p i i').y=(g'.G.p i i').y))/\A z5/\A ((z0.p i i').x0=(g'.G.p i i').x0))/\A z5/\A ((z0.p i i').x1=(g'.G.p i i').x1))/\∀ i:Nat,i<g'.G.n->True)/\(A (z0.n=g'.G.n)/\∀ i:Nat,i<g'.G.n->(((((((True/\A z4/\A (z0.ink i z9=g'.G.ink i z9))/\A z4/\A (z0.ink i z10=g'.G.ink i z10))/\A z4/\A (z0.ink i z16=g'.G.ink i z16))/\A z4/\A (z0.ink i z17=g'.G.ink i z17))/\A z4/\A (z0.ink i z18=g'.G.ink i z18))/\A z4/\A (z0.ink i z19=g'.G.ink i z19))/\A z4/\A (z0.ink i z20=g'.G.ink i z20))/\A z4/\A (z0.ink i z21=g'.G.ink i z21))/\True)/\A ((roI g).meas g'<(roI g).meas g_1)))) (T4 (A z22/\T4 (z1/\True/\True/\∃ (g':RoS),A ((roI g).pre g')/\True/\((A (z9=z9)/\z14/\z2/\(A z5/\A (z13=(↑g'.x:Int)))/\True)/\(z12/\A (z0.full=g'.G.full))/\(∀ (l:List Int),l.length=(8:Nat)->A (z0.has l=g'.G.has l)/\((g'.G.has l||false)=true->A z5/\A (z0.val l=g'.G.val l)))/\(A (z0.n=g'.G.n)/\(∀ i:Nat,i<g'.G.n->A (z0.m i=g'.G.m i)/\∀ (i':Nat),i'<g'.G.m i->((True/\A z5/\A ((z0.p i i').y=(g'.G.p i i').y))/\A z5/\A ((z0.p i i').x0=(g'.G.p i i').x0))/\A z5/\A ((z0.p i i').x1=(g'.G.p i i').x1))/\∀ i:Nat,i<g'.G.n->True)/\(A (z0.n=g'.G.n)/\∀ i:Nat,i<g'.G.n->(((((((True/\A z4/\A (z0.ink i z9=g'.G.ink i z9))/\A z4/\A (z0.ink i z10=g'.G.ink i z10))/\A z4/\A (z0.ink i z16=g'.G.ink i z16))/\A z4/\A (z0.ink i z17=g'.G.ink i z17))/\A z4/\A (z0.ink i z18=g'.G.ink i z18))/\A z4/\A (z0.ink i z19=g'.G.ink i z19))/\A z4/\A (z0.ink i z20=g'.G.ink i z20))/\A z4/\A (z0.ink i z21=g'.G.ink i z21))/\True)/\A ((roI g).meas g'<(roI g).meas g_1)))))) (True/\True/\(True/\True)/\(z12/\A (g_1.G.full=z8.full))/\(∀ (l:List Int),l.length=(8:Nat)->A (g_1.G.has l=z8.has l)/\((z8.has l||false)=true->A z5/\A (g_1.G.val l=z8.val l)))/\(A (g_1.G.n=z8.n)/\(∀ i:Nat,i<z8.n->A (g_1.G.m i=z8.m i)/\∀ (i':Nat),i'<z8.m i->((True/\A z5/\A ((g_1.G.p i i').y=(z8.p i i').y))/\A z5/\A ((g_1.G.p i i').x0=(z8.p i i').x0))/\A z5/\A ((g_1.G.p i i').x1=(z8.p i i').x1))/\∀ i:Nat,i<z8.n->True)/\(A (g_1.G.n=z8.n)/\∀ i:Nat,i<z8.n->(((((((True/\A z4/\A (g_1.G.ink i z9=z8.ink i z9))/\A z4/\A (g_1.G.ink i z10=z8.ink i z10))/\A z4/\A (g_1.G.ink i z16=z8.ink i z16))/\A z4/\A (g_1.G.ink i z17=z8.ink i z17))/\A z4/\A (g_1.G.ink i z18=z8.ink i z18))/\A z4/\A (g_1.G.ink i z19=z8.ink i z19))/\A z4/\A (g_1.G.ink i z20=z8.ink i z20))/\A z4/\A (g_1.G.ink i z21=z8.ink i z21))/\True))) (by kernel_rfl) ?_;simp only [chp];simp only [cln,ly,xb];simp only [Nat.reduceAdd,same8,lM,xN];have step:∀ {s:RoS}{B:Nat}{to:Nat},RoP g B s->s.x<g.n->brk g.f g.n s.x=to->RoP g B ⟨to,nxt s.G (g.f s.x) ⟨g.y,s.x,to⟩⟩:=fun {s B to} P hx hto=>by
  have hb:=(bn9 (f:=g.f) hx).1;subst hto;refine ⟨hb.2,aM1 (bT8 P.ok _ _) (by show B+s.x+1<=B+brk g.f g.n s.x; omega),?_⟩;rw [<-P.fin];obtain ⟨k,hk⟩:∃ k,g.n-s.x=k+1:=⟨g.n-s.x-1,by omega⟩
  rw [hk];rw [as2,ln hx];exact a65 g.f g.y g.n (g.n-brk g.f g.n s.x) k (brk g.f g.n s.x) _ (by omega) (by omega)
 have done:∀ {s:RoS}{to:Nat},RoJ g s to->(to<g.n->kOf (g.f to)≠kOf (g.f s.x))->brk g.f g.n s.x=to:=fun {s to} J h=>by
  rw [<-J.fin];cases hm:g.n-to with
  | zero=>rfl
  | succ m=>
   unfold brkG;rw [lr (fun hc=>h hc.1 hc.2)]
 have nextI:∀ {s:RoS}{to:Nat}(hs:∃ B,RoP g B s/\B+g.n<=4294967295),s.x<g.n->RoJ g s to->(to<g.n->kOf (g.f to)≠kOf (g.f s.x))->(roI g).pre ⟨to,nxt s.G (g.f s.x) ⟨g.y,s.x,to⟩⟩:=fun {s to} hs hx J h=>by
  obtain ⟨B,P,hB⟩:=hs;exact ⟨B,step P hx (done J h),hB⟩
 have gk:∀ {s:RoS},(∃ B,RoP g B s/\B+g.n<=4294967295)->Gok 4294967295 s.G:=fun {s} hs=>by
  obtain ⟨B,P,hB⟩:=hs;have:=P.le
  exact aM1 P.ok (by omega)
 refine ⟨⟨⟨0,g.G⟩,⟨B,⟨lE _,by rw [lV]; exact hB,?_⟩,hle⟩,rfl,bA7 _⟩,fun s hs=>⟨fun hx=>⟨by omega,⟨s.x+1,⟨by omega,by omega,by omega,?_⟩,by omega⟩,fun to hto=>?_⟩,fun hx=>?_⟩⟩
 ·show rowG g.f g.y g.n (g.n-0) 0 g.G=_;rw [bl0];rfl
 ·rfl
 ·obtain ⟨hx',J⟩:=hto;have hx:s.x<g.n:=hx';have J1:=J.lt;have J2:=J.le;have hm:∀ G',(roI g).meas ⟨to,G'⟩<(roI g).meas s:=fun G'=>by show g.n-to<g.n-s.x; omega
  refine ⟨fun hlt=>⟨by omega,by omega,fun he=>⟨by omega,to+1,⟨hx,by omega,by omega,?_⟩,by omega,by show g.n-(to+1)<g.n-to; omega⟩,fun he=>⟨by omega,gk hs,⟨to,nxt s.G (g.f s.x) ⟨g.y,s.x,to⟩⟩,nextI hs hx J (fun _=>he),⟨rfl,bA7 _⟩,hm _⟩⟩,fun hge=>⟨by omega,gk hs,⟨to,nxt s.G (g.f s.x) ⟨g.y,s.x,to⟩⟩,nextI hs hx J (fun h=>absurd h (by omega)),⟨rfl,bA7 _⟩,hm _⟩⟩;rw [<-J.fin];obtain ⟨k,hk⟩:∃ k,g.n-to=k+1:=⟨g.n-to-1,by omega⟩
  rw [hk,show g.n-(to+1)=k by omega];show _=brkG g.f g.n s.x (k+1) to;conv=>rhs; unfold brkG
  rw [ln ⟨by omega,he⟩]
 ·obtain ⟨B',P,hB'⟩:=hs;have h1:=P.le;have h2:s.x=g.n:=by omega
  have h3:=P.fin;rw [h2,ur] at h3;have h3:s.G=rowA g.G g.y g.n g.f:=h3;rw [<-h3];exact bA7 _
structure Pcs where
 n:Nat
 m:Nat->Nat
 p:Nat->Nat->Rn
 ink:Nat->Vec
def pcC (P:Pcs) (i j:Nat):SV:=match j with
 | 0=> .sl (P.m i) 3 (fun k=>lst (rnL (P.p i k)))
 | j+1=> .int .u8 (P.ink i j)
def pcS (P:Pcs):SV:= .sl P.n 9 (pcC P)
def pcD (s:SV):Pcs:=match s with
 | .sl n _ f=>⟨n,fun i=>aG6 (f i 0),fun i=>rgD (f i 0),fun i j=>Sx.intOf (f i (j+1))⟩
 | _=>⟨0,fun _=>0,fun _ _=>⟨0,0,0⟩,fun _ _=>0⟩
def Gt.P (G:Gt):Pcs:=⟨bif G.full then 0 else G.n,G.m,G.p,G.ink⟩
def pcA (G:Gt):SV:= .tup 2 (lst [pcS (Gt.P G),.int .i64 (bif G.full then 2 else 0)])
def piI (G:Gt):Inv:=⟨Nat,fun i=>G.full=false/\i<=G.n,fun i=>⟨[(0,.own 0 0),(4,.osl 4 0),(14,.osl 3 0),(15,.int .i64 G.n),(16,.int .i64 i)],
 [.cells 4 (lst [.omap 1,.osl 2 0,.osl 3 0,.bool G.full]) 101,.mpi (.arr 8 .u8) false G.has (fun l=> .int .i64 (G.val l)),
   .srow 0 G.n 1 (bc7 3 G.m (fun k i=>lst (rnL (G.p k i))) (fun _=>lst [])),.row 0 G.n 8 (fun i j=> .int .u8 (G.ink i j)) 33,
   .row 0 i 9 (pcC ⟨G.n,G.m,G.p,G.ink⟩) 35]⟩,fun i=>G.n-i⟩
def bk4:FSpec:=af4 41 [.arg 0,.cell 0 0,.cell 0 1,.cell 0 2] (fun l os=>gtD os) (fun _=>[.own 0 0])
 (fun G=>gaO G 0 0) (fun G=>G.n<=4096) (fun G=>pcA G)
 (fun _=>[.dead,.dead,.dead,.dead])
theorem bC5:aa9 Tw.prog bk4:=by
 refine ae4 (specs:=[]) (ac7 trivial) (eqs:=[]) (fun _ _ h=>(lx h).elim) Aff.mixed Tw.func41 rfl (by kernel_rfl) (fun _ _=>by kernel_rfl) (fun G=>(⟨[(5,.inv (piI G))],[(4,[.own 4 35 9,.give 2])]⟩:Ann)) false (fun g=>li (by kernel_rfl)) ?_;rintro G hG;refine af7 (B:=let A:=Sx.Ask;let z12:=(9:Nat);let z9:=(↑G.n:Int);let z8:=((((True/\True)/\True)/\True)/\A (G.full=G.full));let z7:=(1:Nat);let z4:=(0:Nat);let z2:=(IntKind.i64=IntKind.i64);let q2:=fun p:Int=>A z2/\A (p=p);let z5:=(∀ (l:List Int),l.length=(8:Nat)->A (G.has l=G.has l)/\((G.has l||false)=true->q2 (G.val l)));let z3:=(A (G.n=G.n)/\∀ i:Nat,i<G.n->True/\A (G.m i=G.m i)/\∀ i_1:Nat,let z10:=(G.p i i_1); i_1<G.m i->((True/\q2 z10.y)/\q2 z10.x0)/\q2 z10.x1);let z1:=(IntKind.u8=IntKind.u8);let q1:=fun p:Int=>A z1/\A (p=p);let z0:=(A (G.n=G.n)/\∀ i:Nat,i<G.n->(chp True (fun j:Nat=>q1 (G.ink i j)) 7)/\q1 (G.ink i (7:Nat)));True/\True/\True/\True/\True/\True/\Br G.full (True/\True/\True/\True/\(((True/\A ((bif G.full then z4 else G.n)=z4))/\A z2/\A ((2:Int)=bif G.full then (2:Int) else (0:Int)))/\True)/\True/\True/\True/\True/\True) (True/\True/\True/\True/\True/\True/\True/\(∃ g:Nat,A ((piI G).pre g)/\True/\(A (z4=z4)/\True/\True/\(q2 z9)/\(A z2/\A ((0:Int)=(↑g:Int)))/\True)/\z8/\z5/\z3/\z0/\(A (z4=g)/\∀ i:Nat,i<g->((((((((True/\False)/\False)/\False)/\False)/\False)/\False)/\False)/\False)/\False)/\True)/\∀ g:Nat,let z6:=(↑g:Int); (piI G).pre g->True/\Br (decide (z6<z9)) (True/\A ((0:Int)<=z6/\z6<z9)/\A (z6.toNat<G.n)/\True/\True/\True/\True/\True/\True/\True/\True/\True/\A ((0:Int)<=z6/\z6<z9)/\True/\True/\True/\True/\True/\A (g+z7<=(9223372036854775807:Nat)/\(g+z7)*(32:Nat)<=(140737488355328:Nat))/\True/\A ((-9223372036854775808:Int)<=z6+(1:Int)/\z6+(1:Int)<=(9223372036854775807:Int))/\True/\∃ (g':Nat),A ((piI G).pre g')/\True/\((A (z4=z4)/\True/\True/\(q2 z9)/\(A z2/\A (z6+(1:Int)=(↑g':Int)))/\True)/\z8/\z5/\z3/\z0/\(A (g+z7=g')/\∀ i:Nat,i<g'->((((((((True/\A ((bif decide (i<g) then G.m i else G.m z6.toNat)=G.m i)/\∀ i_1:Nat,let z11:=(G.p i i_1); i_1<G.m i->((True/\A z2/\A ((bif decide (i<g) then z11.y else (G.p z6.toNat i_1).y)=z11.y))/\A z2/\A ((bif decide (i<g) then z11.x0 else (G.p z6.toNat i_1).x0)=z11.x0))/\A z2/\A ((bif decide (i<g) then z11.x1 else (G.p z6.toNat i_1).x1)=z11.x1))/\A z1/\A ((bif decide (i<g) then G.ink i z4 else G.ink z6.toNat (z4+(z4+(z7-z4*z12-z7))))=G.ink i z4))/\A z1/\A ((bif decide (i<g) then G.ink i z7 else G.ink z6.toNat (z4+(z4+((2:Nat)-z4*z12-z7))))=G.ink i z7))/\A z1/\A ((bif decide (i<g) then G.ink i (2:Nat) else G.ink z6.toNat (z4+(z4+((3:Nat)-z4*z12-z7))))=G.ink i (2:Nat)))/\A z1/\A ((bif decide (i<g) then G.ink i (3:Nat) else G.ink z6.toNat (z4+(z4+((4:Nat)-z4*z12-z7))))=G.ink i (3:Nat)))/\A z1/\A ((bif decide (i<g) then G.ink i (4:Nat) else G.ink z6.toNat (z4+(z4+((5:Nat)-z4*z12-z7))))=G.ink i (4:Nat)))/\A z1/\A ((bif decide (i<g) then G.ink i (5:Nat) else G.ink z6.toNat (z4+(z4+((6:Nat)-z4*z12-z7))))=G.ink i (5:Nat)))/\A z1/\A ((bif decide (i<g) then G.ink i (6:Nat) else G.ink z6.toNat (z4+(z4+((7:Nat)-z4*z12-z7))))=G.ink i (6:Nat)))/\A z1/\A ((bif decide (i<g) then G.ink i (7:Nat) else G.ink z6.toNat (z4+(z4+((8:Nat)-z4*z12-z7))))=G.ink i (7:Nat)))/\True)/\A ((piI G).meas g'<(piI G).meas g)) (True/\True/\True/\True/\True/\(((True/\A (g=bif G.full then z4 else G.n)/\∀ i:Nat,(i<bif G.full then z4 else G.n)->((((((((True/\A (G.m i=(Gt.P G).m i)/\∀ i_1:Nat,i_1<(Gt.P G).m i->((True/\A z2/\A ((G.p i i_1).y=((Gt.P G).p i i_1).y))/\A z2/\A ((G.p i i_1).x0=((Gt.P G).p i i_1).x0))/\A z2/\A ((G.p i i_1).x1=((Gt.P G).p i i_1).x1))/\A z1/\A (G.ink i z4=(Gt.P G).ink i z4))/\A z1/\A (G.ink i z7=(Gt.P G).ink i z7))/\A z1/\A (G.ink i (2:Nat)=(Gt.P G).ink i (2:Nat)))/\A z1/\A (G.ink i (3:Nat)=(Gt.P G).ink i (3:Nat)))/\A z1/\A (G.ink i (4:Nat)=(Gt.P G).ink i (4:Nat)))/\A z1/\A (G.ink i (5:Nat)=(Gt.P G).ink i (5:Nat)))/\A z1/\A (G.ink i (6:Nat)=(Gt.P G).ink i (6:Nat)))/\A z1/\A (G.ink i (7:Nat)=(Gt.P G).ink i (7:Nat)))/\A z2/\A ((0:Int)=bif G.full then (2:Int) else (0:Int)))/\True)/\True/\True/\True/\True/\True))) (by kernel_rfl) ?_;simp only [chp];simp only [cln,ly,xb];refine ⟨fun h=>by rw [h]; exact ⟨rfl,rfl⟩,fun h=>⟨⟨0,⟨h,lE _⟩,rfl,rfl,fun i hi=>absurd hi (lw _)⟩,fun k hk=>⟨fun hlt=>?_,fun hge=>?_⟩⟩⟩
 ·have hk1:=hk.1;refine ⟨by omega,by omega,by omega,by omega,by omega,k+1,⟨hk1,by omega⟩,⟨by omega,rfl,fun i hi=>?_⟩,by show G.n-(k+1)<G.n-k; omega⟩;by_cases hik:i<k
  ·simp only [lk hik,uh];repeat' (first | rfl | trivial | apply And.intro | intro _)
  ·obtain rfl:i=k:=by omega
   simp only [lm hik,cond_false];repeat' (first | rfl | trivial | apply And.intro | intro _)
 ·have hk2:k<=G.n:=hk.2;have hkn:k=G.n:=by omega
  rw [h];simp only [cond_false];refine ⟨⟨hkn,fun i hi=>?_⟩,trivial⟩;repeat' (first | rfl | trivial | apply And.intro | intro _)
def bf5:FSpec:=ac8 38 (γ:=Int×Int) (fun | [.int _ w,.int _ h]=>some (w,h) | _=>none) (fun g=>[.int .i64 g.1,.int .i64 g.2]) (fun _=>True)
 (fun g=> .bool (decide (1<=g.1)&&(decide (g.1<=256)&&(decide (1<=g.2)&&decide (g.2<=256)))))
theorem bm4:aa9 Tw.prog bf5:=by
 refine ab0 (specs:=[]) (ac7 trivial) (eqs:=[]) (fun _ _ h=>(lx h).elim) Aff.mixed Tw.func38 rfl (by kernel_rfl) (fun _ _=>by kernel_rfl) (fun g=>A0) (fun g=>li (by kernel_rfl)) ?_;rintro ⟨w,h⟩ _;refine af7 (B:=let A:=Sx.Ask;let z0:=(decide ((1:Int)<=w)&&(decide (w<=(256:Int))&&(decide ((1:Int)<=h)&&decide (h<=(256:Int)))));True/\True/\True/\True/\Br (decide ((1:Int)<=w)) (True/\True/\True/\True/\Br (decide (w<=(256:Int))) (True/\True/\True/\True/\Br (decide ((1:Int)<=h)) (True/\True/\True/\True/\True/\A (decide (h<=(256:Int))=z0)) (True/\True/\True/\A (false=z0))) (True/\True/\True/\True/\True/\A (false=z0))) (True/\True/\True/\True/\True/\True/\True/\A (false=z0))) (by kernel_rfl) ?_;simp only [cln,ly,xb];refine ⟨fun h1=>⟨fun h2=>⟨fun h3=>?_,fun h3=>?_⟩,fun h2=>?_⟩,fun h1=>?_⟩
 ·rw [lk h1,lk h2,lk h3]; rfl
 ·rw [lm h3]; simp
 ·rw [lm h2]; simp
 ·rw [lm h1]; rfl
structure OfG where
 w:Nat
 h:Nat
 n:Nat
 f:Nat->Vec
def bG5:Gt:=⟨fun _=>false,fun _=>0,0,fun _=>0,fun _ _=>⟨0,0,0⟩,fun _ _=>0,false⟩
noncomputable def ofR (f:Nat->Vec) (W:Nat):Nat->Gt
 | 0=>bG5
 | y+1=>rowA (ofR f W y) y W (fun x=>f (y*W+x))
noncomputable def ofB (g:OfG):Gt:=ofR g.f (16*g.w) (16*g.h)
theorem cd1:∃ f,f=ofB:=⟨_,rfl⟩
noncomputable def ofA:OfG->Gt:=Classical.choose cd1
theorem of_eq:ofA=ofB:=Classical.choose_spec cd1
theorem bA9 (f:Nat->Vec) (y:Int) (len:Nat):∀ n x B G,x<=len->Gok (B+x) G->Gok (B+len) (rowG f y len n x G)
 | 0,x,B,G,h1,h2=>aM1 h2 (by omega)
 | n+1,x,B,G,h1,h2=>by
  rw [as2];split
  ·rename_i hx;have hb:=(bn9 (f:=f) hx).1;exact bA9 f y len n _ B _ hb.2 (aM1 (bT8 h2 _ _) (by omega))
  ·exact aM1 h2 (by omega)
theorem b05 {f:Nat->Vec}{y:Int}{len B:Nat}{G:Gt}(h:Gok B G):Gok (B+len) (rowA G y len f):=by
 rw [bl0];exact bA9 f y len len 0 B G (lE _) h
theorem bC8 (f:Nat->Vec) (W:Nat):∀ y,Gok (y*W) (ofR f W y)
 | 0=>⟨lE _,fun _=>lE _,fun l h=>by cases h⟩
 | y+1=>by
  rw [lL,uC];exact b05 (bC8 f W y)
structure OfS where
 y:Nat
 G:Gt
def ofI (g:OfG):Inv:=⟨OfS,fun s=>s.y<=16*g.h/\s.G=ofR g.f (16*g.w) s.y,fun s=>⟨[(0,.int .i64 g.w),(2,bd1 g.n g.f),(8,.own 0 0),(23,.int .i64 (16*g.h)),(24,.int .i64 s.y)],gaO s.G 0 0⟩,fun s=>16*g.h-s.y⟩
noncomputable def spOf:FSpec:=ac8 24 (γ:=OfG) (fun | [.int _ w,.int _ h,s]=>some ⟨w.toNat,h.toNat,aG6 s,bP5 s⟩ | _=>none) (fun g=>[.int .i64 g.w,.int .i64 g.h,bd1 g.n g.f])
 (fun g=>(1<=g.w/\g.w<=256)/\(1<=g.h/\g.h<=256)/\g.n=256*g.w*g.h) (fun g=>pcA (ofA g))
theorem cc9:aa9 Tw.prog spOf:=by
 refine ab0 (specs:=[bf5,ak9,bk4]) (ac7 ⟨bm4,cc2,bC5,trivial⟩) (eqs:=[]) (fun _ _ h=>(lx h).elim) Aff.mixed Tw.func24 rfl (by kernel_rfl) (fun _ _=>by kernel_rfl)
  (fun g=>(⟨[(3000005,.news 0 b24),(7,.inv (ofI g))],[(6,[.ownC 0 1 55 1,.deepen 2 3 43,.ownC 0 2 33 8])]⟩:Ann)) (fun g=>li (by kernel_rfl)) ?_
 rintro g ⟨hw,hh,hn⟩;refine af7 (B:=let K:=Int.ofNat;let A:=Sx.Ask;let z32:=(256:Int);let z31:=(7:Nat);let z30:=(6:Nat);let z29:=(5:Nat);let z28:=(4:Nat);let z27:=(3:Nat);let z26:=(2:Nat);let z24:=(1:Int);let z23:=(1:Nat);let z18:=(((True/\True)/\True)/\True);let z17:=(16:Int);let z15:=(↑g.h:Int);let z14:=(Gt.P (ofA g));let z13:=(↑g.w:Int);let z12:=(0:Nat);let z21:=(True/\A ((bif (ofA g).full then z12 else (ofA g).n)=z12));let z9:=(9223372036854775807:Int);let z8:=(-9223372036854775808:Int);let z4:=(IntKind.i64=IntKind.i64);let q4:=fun p:Int=>A z4/\A (p=p);let z33:=(q4 (z17*z15));let z22:=(q4 z13);let z1:=(IntKind.u8=IntKind.u8);let q1:=fun p:Int=>A z1/\A (p=p);let z5:=(A (g.n=g.n)/\∀ i:Nat,i<g.n->(chp True (fun j:Nat=>q1 (g.f i j)) 7)/\q1 (g.f i z31));True/\True/\True/\True/\((z22/\(q4 z15)/\True)/\A True)/\True/\Br (!(decide (z24<=z13)&&(decide (z13<=z32)&&(decide (z24<=z15)&&decide (z15<=z32))))) (True/\True/\True/\z21/\A z4/\A ((3:Int)=bif (ofA g).full then (2:Int) else (0:Int))) (True/\True/\True/\A (z8<=z32*z13/\z32*z13<=z9)/\True/\A (z8<=z32*z13*z15/\z32*z13*z15<=z9)/\True/\Br (decide ((↑g.n:Int)≠z32*z13*z15)) (True/\True/\True/\z21/\A z4/\A ((4:Int)=bif (ofA g).full then (2:Int) else (0:Int))) (NewsOK Tw.prog Gat.b24/\(True/\A True)/\True/\True/\A (z8<=z17*z15/\z17*z15<=z9)/\True/\(∃ g_1:OfS,A ((ofI g).pre g_1)/\(z22/\z5/\A (z12=z12)/\z33/\(A z4/\A ((0:Int)=(↑g_1.y:Int)))/\True)/\(z18/\A (false=g_1.G.full))/\(∀ (l:List Int),l.length=(8:Nat)->A (false=g_1.G.has l)/\((g_1.G.has l||false)=true->False))/\(A (z12=g_1.G.n)/\(∀ i:Nat,i<g_1.G.n->A (z12=g_1.G.m i)/\∀ (i':Nat),i'<g_1.G.m i->((True/\False)/\False)/\False)/\∀ i:Nat,i<g_1.G.n->True)/\(A (z12=g_1.G.n)/\∀ i:Nat,i<g_1.G.n->(((((((True/\False)/\False)/\False)/\False)/\False)/\False)/\False)/\False)/\True)/\∀ g_1:OfS,let z34:=(z18/\A (g_1.G.full=g_1.G.full));let z20:=(Gt.P g_1.G);let z19:=((g_1.y+z23)*(16:Nat)*g.w);let z16:=(g_1.y*(16:Nat)*g.w);let z11:=(∀ (l:List Int),l.length=(8:Nat)->A (g_1.G.has l=g_1.G.has l)/\((g_1.G.has l||false)=true->q4 (g_1.G.val l)));let z10:=(↑g_1.y:Int);let z7:=(A (g_1.G.n=g_1.G.n)/\(∀ i:Nat,i<g_1.G.n->A (g_1.G.m i=g_1.G.m i)/\∀ (i':Nat),let z25:=(g_1.G.p i i'); i'<g_1.G.m i->((True/\q4 z25.y)/\q4 z25.x0)/\q4 z25.x1)/\∀ i:Nat,i<g_1.G.n->True);let z6:=(K z19-K z16);let z3:=(A (g_1.G.n=g_1.G.n)/\∀ i:Nat,i<g_1.G.n->(chp True (fun j:Nat=>q1 (g_1.G.ink i j)) 7)/\q1 (g_1.G.ink i z31));let z0:=(rowA g_1.G z10 z6.toNat fun (i:Nat)=>g.f ((K z16).toNat+i)); (ofI g).pre g_1->True/\Br (decide (z10<z17*z15)) (True/\True/\True/\True/\True/\True/\A (z8<=z10*z17/\z10*z17<=z9)/\True/\A (z8<=z10*z17*z13/\z10*z17*z13<=z9)/\True/\A (z8<=z10+z24/\z10+z24<=z9)/\A (z8<=(z10+z24)*z17/\(z10+z24)*z17<=z9)/\True/\A (z8<=(z10+z24)*z17*z13/\(z10+z24)*z17*z13<=z9)/\A ((0:Int)<=K z16/\K z16<=K z19/\K z19<=K g.n/\K g.n<=(↑g.n:Int))/\((True/\(A (z12=z12)/\(q4 z10)/\(A (z6.toNat=z6.toNat)/\∀ i:Nat,let z2:=((K z16).toNat+i); i<z6.toNat->(chp True (fun j:Nat=>q1 (g.f z2 j)) 7)/\q1 (g.f z2 z31))/\True)/\z34/\z11/\z7/\z3/\True)/\A (∃ B:Nat,Gok B g_1.G/\B+z6.toNat<=(4294967295:Nat)))/\A (z8<=z10+z24/\z10+z24<=z9)/\True/\∃ (g':OfS),A ((ofI g).pre g')/\((z22/\z5/\A (z12=z12)/\z33/\(A z4/\A (z10+z24=(↑g'.y:Int)))/\True)/\(z18/\A (z0.full=g'.G.full))/\(∀ (l:List Int),l.length=(8:Nat)->A (z0.has l=g'.G.has l)/\((g'.G.has l||false)=true->A z4/\A (z0.val l=g'.G.val l)))/\(A (z0.n=g'.G.n)/\(∀ i:Nat,i<g'.G.n->A (z0.m i=g'.G.m i)/\∀ (i':Nat),i'<g'.G.m i->((True/\A z4/\A ((z0.p i i').y=(g'.G.p i i').y))/\A z4/\A ((z0.p i i').x0=(g'.G.p i i').x0))/\A z4/\A ((z0.p i i').x1=(g'.G.p i i').x1))/\∀ i:Nat,i<g'.G.n->True)/\(A (z0.n=g'.G.n)/\∀ i:Nat,i<g'.G.n->(((((((True/\A z1/\A (z0.ink i z12=g'.G.ink i z12))/\A z1/\A (z0.ink i z23=g'.G.ink i z23))/\A z1/\A (z0.ink i z26=g'.G.ink i z26))/\A z1/\A (z0.ink i z27=g'.G.ink i z27))/\A z1/\A (z0.ink i z28=g'.G.ink i z28))/\A z1/\A (z0.ink i z29=g'.G.ink i z29))/\A z1/\A (z0.ink i z30=g'.G.ink i z30))/\A z1/\A (z0.ink i z31=g'.G.ink i z31))/\True)/\A ((ofI g).meas g'<(ofI g).meas g_1)) (True/\((True/\(A (z12=z12)/\True)/\z34/\z11/\z7/\z3/\True)/\A (g_1.G.n<=(4096:Nat)))/\True/\True/\True/\True/\True/\(True/\A ((bif g_1.G.full then z12 else g_1.G.n)=bif (ofA g).full then z12 else (ofA g).n)/\∀ i:Nat,(i<bif (ofA g).full then z12 else (ofA g).n)->((((((((True/\A (z20.m i=z14.m i)/\∀ i_1:Nat,i_1<z14.m i->((True/\A z4/\A ((g_1.G.p i i_1).y=(z14.p i i_1).y))/\A z4/\A ((g_1.G.p i i_1).x0=(z14.p i i_1).x0))/\A z4/\A ((g_1.G.p i i_1).x1=(z14.p i i_1).x1))/\A z1/\A (z20.ink i z12=z14.ink i z12))/\A z1/\A (z20.ink i z23=z14.ink i z23))/\A z1/\A (z20.ink i z26=z14.ink i z26))/\A z1/\A (z20.ink i z27=z14.ink i z27))/\A z1/\A (z20.ink i z28=z14.ink i z28))/\A z1/\A (z20.ink i z29=z14.ink i z29))/\A z1/\A (z20.ink i z30=z14.ink i z30))/\A z1/\A (z20.ink i z31=z14.ink i z31))/\A z4/\A ((bif g_1.G.full then (2:Int) else (0:Int))=bif (ofA g).full then (2:Int) else (0:Int)))))) (by kernel_rfl) ?_;simp only [chp];simp only [cln,ly,xb];simp only [xm,ly];have hsz:(decide (1<=(g.w:Int))&&(decide ((g.w:Int)<=256)&&(decide (1<=(g.h:Int))&&decide ((g.h:Int)<=256))))=true:=by
  simp only [lu,lM]; omega
 have e3:256*g.w*g.h<=256*256*256:=uX (Nat.mul_le_mul_left _ hw.2) hh.2;have c1:(256*(g.w:Int)*g.h)=((256*g.w*g.h:Nat):Int):=by simp
 have start:∀ G:Gt,G=bG5->G.full=false/\(∀ l,G.has l=false)/\G.n=0:=by rintro G rfl; exact ⟨rfl,fun _=>rfl,rfl⟩
 refine ⟨fun hc=>(by rw [hsz] at hc; cases hc),fun _=>⟨by omega,by rw [c1]; omega,fun hc=>absurd (show (g.n:Int)=256*g.w*g.h by rw [c1,hn]) hc,fun _=>⟨cc6,by omega,⟨⟨0,bG5⟩,⟨lE _,rfl⟩,?_⟩,fun s hs=>⟨fun hlt=>?_,fun hge=>?_⟩⟩⟩⟩
 ·exact ⟨rfl,rfl,fun l _=>⟨rfl,fun h=>by cases h⟩,⟨rfl,fun i hi=>absurd hi (lw _)⟩,rfl,fun i hi=>absurd hi (lw _)⟩
 ·have hy:s.y+1<=16*g.h:=by omega
  have e1:(s.y+1)*16*g.w=s.y*16*g.w+16*g.w:=by rw [lL,uC,lL]
  have e2:(s.y+1)*16*g.w<=256*g.w*g.h:=by
   refine xc (lj _ (lj _ hy)) (Nat.le_of_eq ?_);grind
  have c2:((s.y:Int)*16*g.w)=((s.y*16*g.w:Nat):Int):=by simp
  have c3:(((s.y:Int)+1)*16*g.w)=(((s.y+1)*16*g.w:Nat):Int):=by simp
  have hl:((((s.y+1)*16*g.w:Nat):Int)-((s.y*16*g.w:Nat):Int)).toNat=16*g.w:=by omega
  have hG:s.G=ofR g.f (16*g.w) s.y:=hs.2;have hmul:s.y*(16*g.w)=s.y*16*g.w:=(Nat.mul_assoc _ _ _).symm;have hB:Gok (s.y*(16*g.w)) s.G:=hG▸bC8 g.f (16*g.w) s.y;rw [hl];refine ⟨by omega,by rw [c2]; omega,by omega,by omega,by rw [c3]; omega,by omega,⟨_,hB,by rw [hmul]; omega⟩,by omega,⟨s.y+1,rowA s.G s.y (16*g.w) fun i=>g.f (s.y*16*g.w+i)⟩,⟨hy,?_⟩,⟨by simp,bA7 _⟩,by show 16*g.h-(s.y+1)<16*g.h-s.y; omega⟩;show rowA s.G s.y (16*g.w) (fun i=>g.f (s.y*16*g.w+i))=rowA (ofR g.f (16*g.w) s.y) s.y (16*g.w) (fun x=>g.f (s.y*(16*g.w)+x));rw [hG,hmul]
 ·have hy:s.y<=16*g.h:=hs.1;have hG:s.G=ofR g.f (16*g.w) s.y:=hs.2;have e:ofA g=s.G:=by
   rw [of_eq,hG,show s.y=16*g.h by omega];rfl
  have hB:Gok (s.y*(16*g.w)) s.G:=hG▸bC8 g.f (16*g.w) s.y;rw [e];refine ⟨hB.n,⟨rfl,fun i hi=>?_⟩,rfl⟩;repeat' (first | rfl | trivial | apply And.intro | intro _)
end Gar
end Go.Proofs.Ytbkgncikjhibiaa
