import Derived.Test.YtbkgncikjhibiaaGreatM5
import Derived.Test.YtbkgncikjhibiaaGreatRows
set_option maxRecDepth 100000
set_option linter.unusedSimpArgs false
set_option linter.unusedVariables false
set_option linter.unusedSectionVars false
/- Part 6 of the texts that the law's proof leans on. -/
namespace Go.Proofs.YtbkgncikjhibiaaGreat
open _root_.Go.Proofs.YtbkgncikjhibiaaGreat.Hid
namespace Hid
open Go.RowKit Go.Conc
variable [LoopOK]
section
variable {p:Program}{F:Array Func}{α β:Type}
abbrev TM (p:Program) (F:Array Func) {α:Type}(s:Sem α):Prop:=Tame p { p with funcs:=F } s
theorem aa2 (a:α):TM p F (Pure.pure a:Sem α):= .pure a
theorem aa1 {x:Sem α}{f:α->Sem β}(h:TM p F x) (hf:∀ a,TM p F (f a)):TM p F (x >>= f):=Tame.bind h hf
theorem cg0 {x:Sem α}{f:α->β}(h:TM p F x):TM p F (f <$> x):=Tame.bind h fun a=> .pure _
theorem aw0 {k:Program->Sem α}(h:TM p F (k p)) (e:k { p with funcs:=F }=k p:=by rfl):TM p F (program >>= k):= .program e h
theorem bX0 (a:Addr):TM p F (load a):= .load fun v=> .pure v
theorem b49 (a:Addr) (v:Value):TM p F (store a v):= .store (.pure ())
theorem aJ3 (o:Obj) (nv:∀ a u,o≠.view a u:=by intro _ _ h; cases h) (np:∀ c u,o≠.pending c u:=by intro _ _ h; cases h) (nl:∀ r,o = .loop r->LoopOK.ok r:=by intro _ h; cases h):TM p F (newObj o):= .new nv np nl fun r=> .pure r
theorem bo1 (r:Nat) (o:Obj) (hs:LoopOK.set) (nv:∀ a u,o≠.view a u:=by intro _ _ h; cases h) (np:∀ c u,o≠.pending c u:=by intro _ _ h; cases h) (nc:∀ c T fz,o≠.cells c T fz:=by intro _ _ _ h; cases h) (nl:∀ r,o = .loop r->LoopOK.ok r:=by intro _ h; cases h):TM p F (setObj r o):= .setObj hs nv np nc nl (.pure ())
theorem aa6 (s:String):TM p F (stuck s:Sem α):= .halt (.stuck s)
theorem af5 (u:Unsupported) (h:∀ b,u≠.initOrder b:=by intro _ h; cases h):TM p F (unsupported u:Sem α):= .halt (.uns u h)
theorem bC6 (v:Value):TM p F (goPanic v:Sem α):= .halt (.panic v)
theorem ai8 (q:Question):TM p F (choose q):= .choose fun n=> .pure n
theorem ba5 (n:Nat):TM p F (askRoom n):=by
 unfold askRoom;split
 ·exact .noRoom (.pure ())
 ·exact .pure ()
theorem au2 {r:Nat}{k:Obj->Sem α}(h:∀ o,(∀ r,o = .loop r->LoopOK.ok r)->TM p F (k o)) (hv:∀ a u c,Jk c->k c=k (.view a u)) (hc:∀ cap cl s r cl' s' r',k (.chan cap #[] cl s r false)=k (.chan cap #[] cl' s' r' false):=by intros; rfl):TM p F (getObj r >>= k):= .getObj h (fun a u=> .inl (hv a u)) hc
theorem bi3 {r:Nat}{k:Option (TypeId×Nat)->Sem α}(h:∀ o,TM p F (k o)) (hp:∀ T n',k (some (T,n'))=k (some (T,0)):=by intros; rfl):TM p F (shape r >>= k):= .shape h fun T=> .inr (hp T)
theorem ad1 (t:TypeId):TM p F (typeInfo t):=by unfold typeInfo; (repeat' first | (with_reducible first | exact aa6 _ | exact aa2 _) | focus ((with_reducible refine aw0 ?_ ?_); rotate_left; rfl) | split)
theorem aa5 (t:TypeId):TM p F (underlying t):=by unfold underlying; (repeat' first | (with_reducible first | exact aa6 _ | exact aa2 _) | focus ((with_reducible refine aw0 ?_ ?_); rotate_left; rfl) | split)
theorem ag2 (t:TypeId):TM p F (zeroValue t):=by unfold zeroValue; (repeat' first | with_reducible exact ad1 _ | ((with_reducible refine af5 _ (h:=?_)); (intro _ h; cases h)) | (with_reducible first | exact aa2 _ | refine aa1 ?_ fun _=>?_) | split)
theorem af0 (t:TypeId):TM p F (sizeOf t):=by unfold sizeOf; (repeat' (with_reducible first | exact ad1 _ | exact aa2 _ | refine aa1 ?_ fun _=>?_))
theorem bB8 (t:TypeId):TM p F (typeStr t):=by unfold typeStr; (repeat' first | with_reducible exact ad1 _ | ((with_reducible refine af5 _ (h:=?_)); (intro _ h; cases h)) | (with_reducible first | exact aa2 _ | refine aa1 ?_ fun _=>?_) | split | dsimp only)
theorem bC4 (t:TypeId):TM p F (isAgg t):=by unfold isAgg; (repeat' first | (with_reducible first | exact aa5 _ | exact aa2 _ | refine aa1 ?_ fun _=>?_) | split)
theorem as2 (a:Addr):∀ (n i:Nat) (acc:Array Value),TM p F (loadCellsFrom a i n acc)
 | 0,_,_=> .pure _
 | n+1,i,acc=>aa1 (bX0 _) fun _=>as2 a n _ _
theorem aL9 (a:Addr) (n:Nat):TM p F (loadCells a n):=as2 a n 0 #[]
theorem ak6 (a:Addr):∀ (vs:List Value) (i:Nat),TM p F (storeCells a vs i)
 | [],_=> .pure _
 | v::vs,i=>aa1 (b49 _ _) fun _=>ak6 a vs _
theorem az6 (t:TypeId) (a:Addr):TM p F (loadVar t a):=by unfold loadVar; (repeat' first | (with_reducible first | exact aL9 _ _ | exact bC4 _ | exact af0 _ | exact bX0 _ | exact aa2 _ | refine aa1 ?_ fun _=>?_) | split)
theorem bu6 (t:TypeId) (a:Addr) (v:Value):TM p F (storeVar t a v):=by unfold storeVar; (repeat' first | (with_reducible first | exact ak6 _ _ _ | exact af0 _ | exact aa6 _ | refine aa1 ?_ fun _=>?_) | split)
theorem aJ2 (t:TypeId) (c:Array Value):TM p F (newRow t c):=by unfold newRow; (repeat' first | ((with_reducible refine aJ3 _ (nv:=?_) (np:=?_) (nl:=?_))<;>first | (intro _ _ _ h; cases h; done) | (intro _ _ h; cases h; done) | (intro _ h; cases h; done)) | (with_reducible first | exact aa2 _ | refine aa1 ?_ fun _=>?_))
theorem aY6 (t:TypeId) (v:Value):TM p F (newVar t v):=by unfold newVar; (repeat' with_reducible exact aJ2 _ _)
theorem bQ4 (t:TypeId):TM p F (elemOf t):=by unfold elemOf; (repeat' first | (with_reducible first | exact aa5 _ | exact aa6 _ | exact aa2 _ | refine aa1 ?_ fun _=>?_) | split)
theorem aG4 (t:TypeId) (c:Array Value) (o:Nat):TM p F (part t c o):=by unfold part; (repeat' first | (with_reducible first | exact bC4 _ | exact af0 _ | exact aa6 _ | exact aa2 _ | refine aa1 ?_ fun _=>?_) | split)
theorem ab2 (e:RuntimeError):TM p F (runtimePanic e:Sem α):=by
 unfold runtimePanic;refine aw0 ?_;dsimp only
 (repeat' first | (with_reducible first | exact bQ4 _ | exact aY6 _ _ | exact bC6 _ | refine aa1 ?_ fun _=>?_) | split)
theorem aq3 (k:IntKind) (x y:Int) (c:BoundsCode):TM p F (boundsPanic k x y c:Sem α):=by unfold boundsPanic; (repeat' first | (with_reducible first | exact ab2 _ | exact ai8 _ | exact aa2 _ | refine cg0 ?_ | refine aa1 ?_ fun _=>?_) | split)
theorem az9 (v:Value):TM p F (asIntOf v):=by unfold asIntOf; (repeat' first | ((with_reducible refine af5 _ (h:=?_)); (intro _ h; cases h)) | (with_reducible first | exact aa6 _ | exact aa2 _) | split)
theorem aM1 (v:Value):TM p F (asInt v):=by unfold asInt; (repeat' (with_reducible first | exact az9 _ | exact aa2 _ | refine aa1 ?_ fun _=>?_))
theorem aJ5 (v:Value):TM p F (asBool v):=by unfold asBool; (repeat' first | (with_reducible first | exact aa6 _ | exact aa2 _) | split)
theorem b61 (v:Value):TM p F (asAgg v):=by unfold asAgg; (repeat' first | (with_reducible first | exact aa6 _ | exact aa2 _) | split)
theorem aJ6 (v:Value):TM p F (asAddr v):=by unfold asAddr; (repeat' first | (with_reducible first | exact ab2 _ | exact aa6 _ | exact aa2 _) | split)
theorem ao2 (v:Value):TM p F (Instr.sureAddr v):=by unfold Instr.sureAddr; (repeat' first | (with_reducible first | exact aa6 _ | exact aa2 _) | split)
theorem b62 (t:TypeId):TM p F (Instr.alloc t true (.tuple #[])):=by unfold Instr.alloc; (repeat' (with_reducible first | exact aY6 _ _ | exact ag2 _ | exact aa2 _ | refine aa1 ?_ fun _=>?_))
theorem t_box (t:TypeId) (v:Value):TM p F (Instr.box t v):=by unfold Instr.box; (repeat' (with_reducible first | exact aY6 _ _ | exact aa2 _ | refine aa1 ?_ fun _=>?_))
theorem ba4 (t:TypeId) (n:Nat) (ps:Array (Nat×Value)):TM p F (Instr.buildSlice t n ps):=by unfold Instr.buildSlice; (repeat' first | (with_reducible first | exact aJ2 _ _ | exact af0 _ | exact ag2 _ | exact aa5 _) | ((with_reducible refine af5 _ (h:=?_)); (intro _ h; cases h)) | (with_reducible first | exact aa6 _ | exact aa2 _ | refine aa1 ?_ fun _=>?_) | split | dsimp only)
theorem bQ1 (t:TypeId) (v:Value):TM p F (Instr.loadAt t v):=by unfold Instr.loadAt; (repeat' (with_reducible first | exact ao2 _ | exact az6 _ _ | refine aa1 ?_ fun _=>?_))
theorem bB9 (t:TypeId) (a v:Value):TM p F (Instr.storeAt t a v):=by unfold Instr.storeAt; (repeat' (with_reducible first | exact ao2 _ | exact bu6 _ _ _ | refine aa1 ?_ fun _=>?_))
theorem ba0 (x:Value) (y:Nat) (c:BoundsCode):TM p F (Instr.sliceBound x y c):=by unfold Instr.sliceBound; (repeat' first | (with_reducible first | exact az9 _ | exact aq3 _ _ _ _ | exact aa2 _ | refine aa1 ?_ fun _=>?_) | split)
theorem az5 (b:Bool) (l c:Nat) (x y z:Option Value):TM p F (Instr.sliceBounds b l c x y z):=by unfold Instr.sliceBounds; (repeat' first | (with_reducible first | exact ba0 _ _ _ | exact aa6 _ | exact aa2 _ | refine aa1 ?_ fun _=>?_) | split)
theorem b50 (t:TypeId) (v:Value) (x y z:Option Value):TM p F (Instr.slice t v x y z):=by unfold Instr.slice; (repeat' first | (with_reducible first | exact az5 _ _ _ _ _ _ | exact aJ6 _ | exact af0 _ | exact aa5 _ | exact aa6 _ | exact aa2 _ | refine aa1 ?_ fun _=>?_) | split)
theorem bC0 (t:TypeId) (v:Value) (x y z:Option Value):TM p F (Instr.sliceAt t v x y z):=by unfold Instr.sliceAt; (repeat' first | (with_reducible first | exact b50 _ _ _ _ _ | exact az5 _ _ _ _ _ _ | exact ao2 _ | exact af0 _ | exact aa5 _ | exact aa2 _ | refine aa1 ?_ fun _=>?_) | split)
theorem bC5 (t:TypeId) (x y:Value):TM p F (Instr.indexAt t x y):=by unfold Instr.indexAt; (repeat' first | (with_reducible first | exact ao2 _ | exact az9 _ | exact aq3 _ _ _ _ | exact af0 _ | exact aa5 _) | ((with_reducible refine af5 _ (h:=?_)); (intro _ h; cases h)) | (with_reducible first | exact aa6 _ | exact aa2 _ | refine aa1 ?_ fun _=>?_) | split | dsimp only)
theorem b52 (t:TypeId) (x y:Value):TM p F (Instr.index t x y):=by unfold Instr.index; (repeat' first | (with_reducible first | exact az9 _ | exact aq3 _ _ _ _ | exact aG4 _ _ _ | exact af0 _ | exact aa5 _ | exact aa6 _ | exact aa2 _ | refine aa1 ?_ fun _=>?_) | split)
theorem b53 (t:TypeId) (x:Value) (i:Nat):TM p F (Instr.field t x i):=by unfold Instr.field; (repeat' first | (with_reducible first | exact b61 _ | exact aG4 _ _ _ | exact aa5 _ | exact aa6 _ | refine aa1 ?_ fun _=>?_) | split)
theorem bi5 (t:TypeId) (x y:Value):TM p F (Instr.makeSlice t x y):=by unfold Instr.makeSlice; (repeat' first | (with_reducible first | exact aM1 _ | exact ab2 _ | exact aJ2 _ _ | exact af0 _ | exact ag2 _ | exact aa5 _ | exact ad1 _ | exact ba5 _ | exact ai8 _ | exact aa6 _ | exact aa2 _ | refine aa1 ?_ fun _=>?_) | split | dsimp only)
theorem bC2 (t:TypeId) (r:Option Value):TM p F (Instr.makeMap t r):=by unfold Instr.makeMap; (repeat' first | (with_reducible first | exact aM1 _ | exact aa5 _ | exact aa6 _) | ((with_reducible refine aJ3 _ (nv:=?_) (np:=?_) (nl:=?_))<;>first | (intro _ _ _ h; cases h; done) | (intro _ _ h; cases h; done) | (intro _ h; cases h; done)) | (with_reducible first | exact aa2 _ | refine aa1 ?_ fun _=>?_) | split)
theorem bu7 (t:TypeId) (r:Value):TM p F (Instr.makeChan t r):=by unfold Instr.makeChan; (repeat' first | (with_reducible first | exact aM1 _ | exact ab2 _ | exact aa5 _ | exact ad1 _ | exact aa6 _) | ((with_reducible refine aJ3 _ (nv:=?_) (np:=?_) (nl:=?_))<;>first | (intro _ _ _ h; cases h; done) | (intro _ _ h; cases h; done) | (intro _ h; cases h; done)) | (with_reducible first | exact aa2 _ | refine aa1 ?_ fun _=>?_) | split)
theorem bC8 (v:Value) (i:Nat):TM p F (Instr.extract v i):=by unfold Instr.extract; (repeat' first | (with_reducible first | exact aa6 _ | exact aa2 _) | split)
theorem bi6 {γ:Type}{f:α->β->Sem (ForInStep β)}:∀ (l:List α) (_:∀ a∈l,∀ b,TM p F (f a b)) (b:β),TM p F (forIn l b f)
 | [],_,b=>aa2 _
 | a::l,h,b=>by
  rw [List.forIn_cons];refine aa1 (h a (by simp) b) fun r=>?_
  cases r with
  | done b=>exact aa2 _
  | yield b=>exact bi6 (γ:=γ) l (fun a ha=>h a (by simp [ha])) b
theorem aZ0 {f:α->β->Sem (ForInStep β)}(l:Array α) (h:∀ a∈l,∀ b,TM p F (f a b)) (b:β):TM p F (forIn l b f):=by
 rw [<-Array.forIn_toList];exact bi6 (γ:=Unit) _ (fun a ha=>h a (xC.1 ha)) _
theorem aY9 {f:Nat->β->Sem (ForInStep β)}(h:∀ a b,TM p F (f a b)) (r:Std.Legacy.Range) (b:β):TM p F (forIn r b f):=by
 rw [Std.Legacy.Range.forIn_eq_forIn_range'];exact bi6 (γ:=Unit) _ (fun a _=>h a) _
theorem bW9 {γ:Type}{f:α->Sem γ}(h:∀ a,TM p F (f a)):∀ (l:List α),TM p F (l.mapM f)
 | []=>by rw [List.mapM_nil]; exact aa2 _
 | a::l=>by
  rw [uZ];exact aa1 (h a) fun _=>aa1 (bW9 h l) fun _=>aa2 _
theorem bC1 {γ:Type}{f:α->Sem γ}(h:∀ a,TM p F (f a)) (l:Array α):TM p F (l.mapM f):=by
 rw [Array.mapM_eq_mapM_toList];exact cg0 (bW9 h _)
theorem bo0 (r:Nat) {f:Option (Addr×TypeId)->Sem α}(h:∀ x,TM p F (f x)) (hn:∀ x q w es a w' es',(f (some x)).runT q w es≠(.ok a w',es')):TM p F (viewAt r >>= f):=by
 show TM p F (Sem.shape r _);refine Tame.shape (fun o=>?_) fun T=> .inr fun n'=>rfl
 cases o with
 | some x=>exact h none
 | none=>
  show TM p F (Sem.getObj r _);refine Tame.getObj (fun o _=>?_) (fun a u=> .inr (hn (a,u) _)) fun _ _ _ _ _ _ _=>rfl
  cases o<;>first | exact h none | exact h (some _)
theorem aU4 (r:Nat):TM p F (numberAt r):=by unfold numberAt; (repeat' first | with_reducible exact aa2 _ | focus ((with_reducible refine au2 (fun _ _=>?_) ?_ ?_); rotate_left; (intro _ _ c hc; cases hc<;>rfl); intros; rfl) | focus ((with_reducible refine bi3 (fun _=>?_) ?_); rotate_left; intros; rfl) | split)
theorem bP9 (a:Addr):TM p F (noView a):=by
 unfold noView;refine bo0 _ (fun x=>?_) fun x q w es b w' es' hr=>by cases hr
 cases x
 ·exact aa2 _
 ·exact af5 _
theorem bu9 (a:Addr) (b:Bool):TM p F (asNumber a b):=by unfold asNumber; (repeat' first | ((with_reducible refine aJ3 _ (nv:=?_) (np:=?_) (nl:=?_))<;>first | (intro _ _ _ h; cases h; done) | (intro _ _ h; cases h; done) | (intro _ h; cases h; done)) | (with_reducible first | exact aa2 _ | refine aa1 ?_ fun _=>?_))
theorem an7 (a:Addr):TM p F (behindNumber a):=by unfold behindNumber; (repeat' (with_reducible first | exact aU4 _ | exact aa2 _ | refine aa1 ?_ fun _=>?_))
theorem at5:∀ (d:Nat) (t:TypeId) (o:Nat),byteOfCell { p with funcs:=F } d t o=byteOfCell p d t o
 | 0,_,_=>rfl
 | d+1,t,o=>by
  unfold byteOfCell;have ih:=at5 d;simp only [ih];rfl
theorem aJ4 (a:Addr):TM p F (byteOf a):=by
 unfold byteOf;split
 ·exact aa2 _
 ·refine aw0 ?_ ?_
  ·(repeat' first | (with_reducible first | exact bP9 _ | exact aa6 _ | exact aa2 _) | focus ((with_reducible refine bi3 (fun _=>?_) ?_); rotate_left; intros; rfl) | with_reducible refine aa1 ?_ fun _=>?_ | split | dsimp only)
  ·simp only [at5]; rfl
theorem bP8 (a:Addr) (i j:Nat):TM p F (partAt a i j):=by unfold partAt; (repeat' (with_reducible first | exact aJ4 _ | exact aa2 _ | refine aa1 ?_ fun _=>?_))
theorem aG7 (a:Addr) (f:Field):TM p F (fieldPlace a f):=by unfold fieldPlace; (repeat' first | (with_reducible first | exact bP8 _ _ _ | exact af0 _ | exact aa2 _ | refine aa1 ?_ fun _=>?_) | split)
theorem bC7 (t:TypeId) (v:Value) (i:Nat):TM p F (Instr.fieldAt t v i):=by unfold Instr.fieldAt; (repeat' first | (with_reducible first | exact aG7 _ _ | exact ao2 _ | exact aa5 _ | exact aa6 _ | exact aa2 _ | refine aa1 ?_ fun _=>?_) | split)
theorem b59 (t:TypeId) (ps:Array (Nat×Value)):TM p F (Instr.build t ps):=by
 unfold Instr.build
 (repeat' first | (with_reducible first | refine bC1 (fun _=>?_) _ | exact af0 _ | exact ag2 _ | exact aa5 _ | exact aa6 _ | exact aa2 _ | refine aa1 ?_ fun _=>?_) | split)
theorem aD4 (e:Bool):∀ (n:Nat) (t:TypeId) (v:Value),TM p F (Instr.checkKey e n t v)
 | 0,_,_=>by unfold Instr.checkKey; (repeat' ((with_reducible refine af5 _ (h:=?_)); (intro _ h; cases h)))
 | n+1,t,v=>by
  have ih:=aD4 e n;unfold Instr.checkKey
  (repeat' first | (with_reducible first | refine aY9 (fun _ _=>?_) _ _ | refine aZ0 _ (fun _ _ _=>?_) _ | exact ab2 _ | exact aG4 _ _ _ | exact bB8 _ | exact af0 _ | exact aa5 _ | exact ad1 _ | exact aa6 _ | exact aa2 _ | refine aa1 ?_ fun _=>?_) | split | dsimp only)
  all_goals exact ih _ _
theorem bO1:∀ (n:Nat) (t u:TypeId),Program.alikeButTags { p with funcs:=F } n t u=p.alikeButTags n t u
 | 0,_,_=>rfl
 | n+1,t,u=>by
  have ih:=bO1 n;unfold Program.alikeButTags;simp only [ih]
theorem aZ3 (t:TypeId):Program.stoodInHeld { p with funcs:=F } t=p.stoodInHeld t:=by
 have h:=fun t u=>bO1 (F:=F) (p:=p) p.depth t u
 have h':∀ t u,Program.alikeButTags { p with funcs:=F } (Program.depth { p with funcs:=F }) t u=p.alikeButTags p.depth t u:=h;unfold Program.stoodInHeld Program.stoodInAs;simp only [h'];rfl
theorem ar1:∀ (n:Nat) (t:TypeId),Program.eqGuardType { p with funcs:=F } n t=p.eqGuardType n t
 | 0,_=>rfl
 | n+1,t=>by
  have ih:=ar1 n;unfold Program.eqGuardType;simp only [ih];rfl
theorem bB7 {t:TypeId}{f:TypeDesc->Sem α}(h:∀ d,p.underlying t=some d->TM p F (f d)):TM p F (underlying t >>= f):=by
 have e : (underlying t >>= f) = Sem.program fun q => ((match q.underlying t with | some d => (Pure.pure d : Sem TypeDesc) | none => stuck "no such type") >>= f) := rfl
 rw [e];refine .program rfl ?_;cases hd:p.underlying t with
 | none=>exact aa6 _
 | some d=>exact h d hd
def eqT (p:Program):Nat->TypeId->Bool
 | 0,_=>false
 | d+1,t=>match p.underlying t with
  | some (.pointer _) | some .unsafePointer | some (.interface _)=>false
  | some (.struct fs)=>fs.all fun f=>eqT p d f.type
  | some (.array _ e)=>eqT p d e
  | _=>true
theorem aM0:∀ (n d:Nat) (t:TypeId) (x y:Value),eqT p n t=true->TM p F (Op.equalIn d t x y)
 | 0,_,_,_,_,h=>by simp [eqT] at h
 | _+1,0,_,_,_,_=>by unfold Op.equalIn; (repeat' ((with_reducible refine af5 _ (h:=?_)); (intro _ h; cases h)))
 | n+1,d+1,t,x,y,h=>by
  have ih:=fun t x y=>aM0 n d t x y
  unfold Op.equalIn;refine bB7 fun ds hds=>?_
  simp only [eqT,hds] at h;split;all_goals first
   | (simp at h; done)
   | (refine aw0 ?_ (by simp only [aZ3])
      (repeat' first | (with_reducible first | refine aZ0 _ (fun _ _ _=>?_) _ | exact aG4 _ _ _) | ((with_reducible refine af5 _ (h:=?_)); (intro _ h; cases h)) | (with_reducible first | exact aa2 _ | refine aa1 ?_ fun _=>?_) | split | dsimp only)
      all_goals exact ih _ _ _ (Array.all_eq_true_iff_forall_mem.1 h _ ‹_›))
   | ((repeat' first | (with_reducible first | exact aJ4 _ | exact an7 _ | exact ad1 _) | ((with_reducible refine af5 _ (h:=?_)); (intro _ h; cases h)) | (with_reducible first | exact aa6 _ | exact aa2 _) | focus ((with_reducible refine aw0 ?_ ?_); rotate_left; rfl) | with_reducible refine aa1 ?_ fun _=>?_ | split); done)
   | ((repeat' first | (with_reducible first | refine aY9 (fun _ _=>?_) _ _ | exact aG4 _ _ _ | exact af0 _ | exact aa2 _ | refine aa1 ?_ fun _=>?_) | split | dsimp only); exact ih _ _ _ h)
theorem aw7:∀ (d:Nat) (t:TypeId) (x y:Value),TM p F (Op.eqGuardIn d t x y)
 | 0,_,_,_=>by unfold Op.eqGuardIn; (repeat' ((with_reducible refine af5 _ (h:=?_)); (intro _ h; cases h)))
 | d+1,t,x,y=>by
  have ih:=aw7 d;unfold Op.eqGuardIn
  (repeat' first | (with_reducible first | refine aY9 (fun _ _=>?_) _ _ | refine aZ0 _ (fun _ _ _=>?_) _ | exact aG4 _ _ _ | exact af0 _ | exact aa5 _ | exact aa2 _ | refine aa1 ?_ fun _=>?_) | split | dsimp only)
  all_goals exact ih _ _ _
theorem bu8 (t:TypeId) (x y:Operand) (a b:Value):TM p F (match a,b with
 | .nilIface,.nilIface=>
  if (x matches .const _)||(y matches .const _) then pure () else do
  if ← Op.eqGuardIn Op.maxDepth t a b then unsupported (.noEntry "binop/eql: two nil values of an interface type with methods, neither of them the literal nil")
 | .agg _,.agg _=>do
  if !(← program).eqGuardType (← program).depth t then pure () else do
  if ← Op.eqGuardIn Op.maxDepth t a b then unsupported (.noEntry "binop/eql: two nil values of an interface type with methods, in a part of a struct or an array")
 | _,_=>pure ()):=by
 split
 ·(repeat' first | with_reducible exact aw7 _ _ _ _ | ((with_reducible refine af5 _ (h:=?_)); (intro _ h; cases h)) | (with_reducible first | exact aa2 _ | refine aa1 ?_ fun _=>?_) | split)
 ·have e:(fun q:Program=>q.eqGuardType q.depth t) { p with funcs:=F }=(fun q:Program=>q.eqGuardType q.depth t) p:=ar1 p.depth t;refine Tame.program (k := fun q => Sem.program fun r => if !q.eqGuardType r.depth t then pure () else do if ← Op.eqGuardIn Op.maxDepth t (.agg _) (.agg _) then unsupported (.noEntry "binop/eql: two nil values of an interface type with methods, in a part of a struct or an array")) ?_ (.program rfl ?_)
  ·simp only [ar1]
  ·(repeat' first | with_reducible exact aw7 _ _ _ _ | ((with_reducible refine af5 _ (h:=?_)); (intro _ h; cases h)) | (with_reducible first | exact aa2 _ | refine aa1 ?_ fun _=>?_) | split)
 ·exact aa2 _
theorem bC9 (op:BinOp) (t:TypeId) (x y:Operand) (a b:Value):TM p F (eqGuard op t x y a b):=by
 unfold eqGuard;cases op<;>first | exact aa2 _ | exact bu8 t x y a b
theorem a73 (q:Program) (d:Nat) (e:TypeId) (o:Nat) (b:Int):cellAtBytes q d e 0 o b=none:=by
 unfold cellAtBytes;simp only [xx];split
 ·rfl
 ·cases byteOfCell q d e (o % q.cellsOf e) with
  | none=>rfl
  | some h=>
   have hc:∀ z:Int,(decide (z<0)||decide (z>=Int.ofNat 0))=true:=fun z=>by
    have:Int.ofNat 0=0:=rfl
    rw [xd,lL,lL];omega
   simp only [Option.bind_eq_bind,lag];rw [lm (hc _)];rfl
theorem aI2:∀ (d:Nat) (t:TypeId) (o:Nat),cellOfByte { p with funcs:=F } d t o=cellOfByte p d t o
 | 0,_,_=>rfl
 | d+1,t,o=>by
  unfold cellOfByte;have ih:=aI2 d;simp only [ih];rfl
theorem a71 (d:Nat) (e:TypeId) (c o:Nat) (b:Int):cellAtBytes { p with funcs:=F } d e c o b=cellAtBytes p d e c o b:=by
 unfold cellAtBytes;simp only [at5,aI2];rfl
inductive Loose {α:Type}:Sem α->Prop
 | pure (a:α):Loose (.pure a)
 | shape {r k} (h:∀ o,Loose (k o)):Loose (.shape r k)
 | frozen {a k} (h:∀ b,Loose (k b)):Loose (.frozen a k)
def bO9 {α:Type}(s:Sem α):Prop:=∀ q w es a w' es',s.runT q w es≠(.ok a w',es')
theorem bO9.bind {x:Sem α}{f:α->Sem β}(h:∀ a,bO9 (f a)):bO9 (x >>= f):=by
 intro q w es a w' es' hr;rw [show (x >>= f)=x.bind f from rfl,Sem.runT_bind'] at hr;split at hr
 ·exact h _ _ _ _ _ _ _ hr
 ·cases hr
theorem Loose.tame {x:Sem α}(hx:Loose x) {f:α->Sem β}(hf:∀ a,TM p F (f a)) (hn:∀ a,bO9 (f a)):TM p F (x >>= f):=by
 induction hx with
 | pure a=>exact hf a
 | @shape r k h ih=>
  refine Tame.shape (k:=fun o=>k o >>= f) ih fun T=> .inl ?_
  exact fun w es a w' es'=>bO9.bind (x:=k (some (T,0))) hn p w es a w' es'
 | frozen h ih=>exact .frozen ih
theorem Loose.bind {x:Sem α}(hx:Loose x) {f:α->Sem β}(hf:∀ a,Loose (f a)):Loose (x >>= f):=by
 induction hx with
 | pure a=>exact hf a
 | shape h ih=>exact .shape ih
 | frozen h ih=>exact .frozen ih
theorem aO3 (a:Addr) (n:Nat):Loose (Builtin.holdsCells a n):=by
 unfold Builtin.holdsCells;refine .shape fun o=>?_
 show Loose (match o with | some (_,m)=>_ | none=>_);split<;>exact .pure _
theorem bJ1 (s n:Nat) (b:Option Addr) (x:Value):Loose (match x with
   | .slice (some c) _ _=>do pure (!(← Builtin.holdsCells c (n*s))||b.any (·.block==c.block))
   | _=>(pure false:Sem Bool)):=by
 split
 ·exact (aO3 _ _).bind fun _=> .pure _
 ·exact .pure _
theorem bd5 (s n:Nat) (b:Option Addr) (x:Value) (t:Bool):Loose (if (!t)=true then pure true else match x with
   | .slice (some c) _ _=>do pure (!(← Builtin.holdsCells c (n*s))||b.any (·.block==c.block))
   | _=>(pure false:Sem Bool)):=by
 split
 ·exact .pure _
 ·exact bJ1 s n b x
theorem aS5 (s l n:Nat) (b:Option Addr) (x:Value):Loose (Builtin.mayShare s l n b x):=by
 unfold Builtin.mayShare;cases b with
 | none=>exact bd5 s n none x true
 | some a=>exact (aO3 _ _).bind fun c=>Loose.bind (x:=frozen _) (.frozen fun d=> .pure d) fun d=>bd5 s n (some a) x (c&&!d)
theorem aL7 (ts:Array TypeId) (t:TypeId) (xs:Array Value):TM p F (Builtin.unsafeAdd_ ts t xs):=by
 have key:∀ (a:Addr) (n:Int),TM p F (do
   let some (e, cells) ← shape a.block | unsupported (.unsafePointer "Add")
   let q ← program
   match cellAtBytes q q.depth e (cells / q.cellsOf e) a.off n with
   | some off=>pure (.pointer (some { a with off }))
   | none => (unsupported (.unsafePointer "Add") : Sem Value)) := fun a n => by
  refine Tame.shape (fun o=>?_) fun T=> .inl ?_
  ·cases o with
   | none=>exact af5 _
   | some x=>
    obtain ⟨e,cells⟩:=x;refine aw0 (k:=fun q=>match cellAtBytes q q.depth e (cells / q.cellsOf e) a.off n with
     | some off=>pure (.pointer (some { a with off }))
     | none => (unsupported (.unsafePointer "Add") : Sem Value)) ?_ ?_
    ·(repeat' first | ((with_reducible refine af5 _ (h:=?_)); (intro _ h; cases h)) | with_reducible exact aa2 _ | split)
    ·simp only [a71]; rfl
  ·intro w es v w' es' hr;simp only [program,Bind.bind,Sem.bind,Sem.runT,Nat.zero_div,a73,unsupported] at hr;cases hr
 rcases xs with ⟨_ | ⟨v,_ | ⟨u,_ | ⟨z,l⟩⟩⟩⟩
 ·exact aa6 _
 ·cases v<;>exact aa6 _
 ·cases v with
  | pointer ptr=>
   show TM p F (asInt u >>= _);refine aa1 (aM1 _) fun n=>?_
   dsimp only;split
   ·split
    ·refine bo0 _ (fun c=>?_) fun x q w es b w' es' hr=>by cases hr
     split
     ·exact aa1 (af5 _) fun _=>aa2 _
     ·exact aa2 _
    ·refine aa1 (af5 _) fun _=>?_
     split
     ·refine aa1 (af5 _) fun _=>?_
      split
      ·exact key _ _
      ·exact af5 _
     ·split
      ·exact key _ _
      ·exact af5 _
   ·split
    ·refine aa1 (af5 _) fun _=>?_
     split
     ·exact key _ _
     ·exact af5 _
    ·split
     ·exact key _ _
     ·exact af5 _
  | _=>exact aa6 _
 ·cases v<;>exact aa6 _
theorem aU6 (op:BinOp) (k:IntKind) (x y:Int):TM p F (Op.intArith op k x y):=by unfold Op.intArith; (repeat' first | (with_reducible first | exact aa6 _ | exact aa2 _) | split)
theorem bQ2 (op:BinOp) (k:IntKind) (x y:Int):TM p F (Op.intDiv op k x y):=by unfold Op.intDiv; (repeat' first | (with_reducible first | exact ab2 _ | exact aa6 _ | exact aa2 _) | split)
theorem ba1 (op:BinOp) (k:IntKind) (x y:Int):TM p F (Op.intBits op k x y):=by unfold Op.intBits; (repeat' first | (with_reducible first | exact aa6 _ | exact aa2 _) | split)
theorem bQ3 (op:BinOp) (x y:Int):TM p F (Op.intCmp op x y):=by unfold Op.intCmp; (repeat' first | (with_reducible first | exact aa6 _ | exact aa2 _) | split)
theorem b51 (op:BinOp) (k:IntKind) (x:Int) (j:IntKind) (y:Int):TM p F (Op.shift op k x j y):=by unfold Op.shift; (repeat' first | (with_reducible first | exact ab2 _ | exact aa6 _ | exact aa2 _) | split)
theorem aD2 (op:BinOp) (x y:ByteArray):TM p F (Op.stringOp op x y):=by unfold Op.stringOp; (repeat' first | ((with_reducible refine af5 _ (h:=?_)); (intro _ h; cases h)) | (with_reducible first | exact aa6 _ | exact aa2 _) | split)
theorem aL8 (a b:Addr):TM p F (Op.twoPlaces a b):=by unfold Op.twoPlaces; (repeat' first | with_reducible exact aJ4 _ | ((with_reducible refine af5 _ (h:=?_)); (intro _ h; cases h)) | with_reducible exact aa2 _ | focus ((with_reducible refine aw0 ?_ ?_); rotate_left; rfl) | with_reducible refine aa1 ?_ fun _=>?_ | split)
theorem bD4 (k:IntKind) (a b:Addr):TM p F (Op.addrSub k a b):=by unfold Op.addrSub; (repeat' (with_reducible first | exact aL8 _ _ | exact aa2 _ | refine aa1 ?_ fun _=>?_))
theorem bD6 (op:BinOp) (a b:Addr):TM p F (Op.addrCmp op a b):=by unfold Op.addrCmp; (repeat' first | with_reducible exact aL8 _ _ | ((with_reducible refine af5 _ (h:=?_)); (intro _ h; cases h)) | (with_reducible first | exact aa2 _ | refine aa1 ?_ fun _=>?_) | split)
theorem bD5 (k:IntKind) (a:Addr) (n:Int):TM p F (Op.addrMod k a n):=by unfold Op.addrMod; (repeat' first | (with_reducible first | exact aJ4 _ | exact ad1 _) | ((with_reducible refine af5 _ (h:=?_)); (intro _ h; cases h)) | with_reducible exact aa2 _ | focus ((with_reducible refine bi3 (fun _=>?_) ?_); rotate_left; intros; rfl) | with_reducible refine aa1 ?_ fun _=>?_ | split | dsimp only)
theorem aY7 (t:TypeId) (x y:Value):TM p F (movedNumber t x y):=by unfold movedNumber; (repeat' first | (with_reducible first | exact aL7 _ _ _ | exact an7 _ | exact bu9 _ _ | exact aa5 _) | ((with_reducible refine af5 _ (h:=?_)); (intro _ h; cases h)) | (with_reducible first | exact aa2 _ | refine aa1 ?_ fun _=>?_) | split)
theorem aS0 (t:TypeId) (x y:Value):TM p F (movedPointer t x y):=by unfold movedPointer; (repeat' first | (with_reducible first | exact aL7 _ _ _ | exact aU4 _) | ((with_reducible refine af5 _ (h:=?_)); (intro _ h; cases h)) | with_reducible refine aa1 ?_ fun _=>?_ | split)
theorem aG5 (op:BinOp) (k:FloatKind) (x y:Nat):TM p F (Op.floatArith op k x y):=by unfold Op.floatArith; (repeat' first | (with_reducible first | exact ai8 _ | exact aa6 _ | exact aa2 _ | refine aa1 ?_ fun _=>?_) | split | dsimp only)
theorem aU7 (op:BinOp) (k:FloatKind) (x y:Nat):TM p F (Op.floatCmp op k x y):=by unfold Op.floatCmp; (repeat' first | (with_reducible first | exact aa6 _ | exact aa2 _) | split)
theorem t_f2f (s:FloatKind) (x:Nat) (d:FloatKind):TM p F (Conv.floatToFloat s x d):=by unfold Conv.floatToFloat; (repeat' first | (with_reducible first | exact ai8 _ | exact aa2 _ | refine aa1 ?_ fun _=>?_) | split | dsimp only)
theorem az8 (op:BinOp) (k:FloatKind) (x y:Nat):TM p F (Op.Complex.arith op k x y):=by unfold Op.Complex.arith; (repeat' first | (with_reducible first | exact aG5 _ _ _ _ | exact aa6 _ | exact aa2 _ | refine aa1 ?_ fun _=>?_) | split)
theorem bX1 (op:BinOp) (k:FloatKind) (x y:Nat):TM p F (Op.Complex.cmp op k x y):=by unfold Op.Complex.cmp; (repeat' (with_reducible first | exact aU7 _ _ _ _ | exact aJ5 _ | refine aa1 ?_ fun _=>?_))
theorem b58 (s:FloatKind) (x:Nat) (d:FloatKind):TM p F (Op.Complex.conv s x d):=by unfold Op.Complex.conv; (repeat' first | (with_reducible first | exact t_f2f _ _ _ | exact aa6 _ | exact aa2 _ | refine aa1 ?_ fun _=>?_) | split)
theorem bD3 (x y:Nat):TM p F (Op.Complex.add x y):=az8 _ _ _ _
theorem bD0 (x y:Nat):TM p F (Op.Complex.sub x y):=az8 _ _ _ _
theorem bD2 (x y:Nat):TM p F (Op.Complex.mul x y):=az8 _ _ _ _
theorem cg1 (x y:Nat):TM p F (Op.Complex.quo x y):=az8 _ _ _ _
theorem b55 (a b c d:Nat):TM p F (Op.Complex.product a b c d):=by unfold Op.Complex.product; (repeat' (with_reducible first | exact bD2 _ _ | exact bD0 _ _ | exact bD3 _ _ | exact aa2 _ | refine aa1 ?_ fun _=>?_))
theorem b57 (s a b c d:Nat):TM p F (Op.Complex.corrected s a b c d):=by unfold Op.Complex.corrected; (repeat' (with_reducible first | exact bD2 _ _ | exact bD0 _ _ | exact bD3 _ _ | exact aa2 _ | refine aa1 ?_ fun _=>?_))
theorem b54 (a b c d:Nat):TM p F (Op.Complex.quotient a b c d):=by unfold Op.Complex.quotient; (repeat' first | (with_reducible first | exact b57 _ _ _ _ _ | exact cg1 _ _ | exact bD2 _ _ | exact bD0 _ _ | exact bD3 _ _ | exact bX1 _ _ _ _ | exact aa2 _ | refine aa1 ?_ fun _=>?_) | split | dsimp only)
theorem bi7 (op:BinOp) (k:FloatKind) (a b c d:Nat):TM p F (Op.complexOp op k a b c d):=by unfold Op.complexOp; (repeat' first | (with_reducible first | exact b54 _ _ _ _ | exact b55 _ _ _ _ | exact b58 _ _ _ | exact bX1 _ _ _ _ | exact az8 _ _ _ _ | exact aa6 _ | exact aa2 _ | refine aa1 ?_ fun _=>?_) | split)
theorem b60 (op:BinOp) (t:TypeId) (x y:Value) (h:(op = .eql\/op = .neq)->∃ n,eqT p n t=true):TM p F (binOp op t x y):=by
 have he:(op = .eql\/op = .neq)->TM p F (Op.equal t x y):=fun ho=>(h ho).elim fun n hn=>aM0 n _ t x y hn
 unfold binOp;split;all_goals first
  | (refine aa1 (he (.inl rfl)) fun _=>aa2 _)
  | (refine aa1 (he (.inr rfl)) fun _=>aa2 _)
  | ((repeat' first | (with_reducible first | exact bi7 _ _ _ _ _ _ | exact aU7 _ _ _ _ | exact aG5 _ _ _ _ | exact aS0 _ _ _ | exact aY7 _ _ _ | exact bD5 _ _ _ | exact bD6 _ _ _ | exact bD4 _ _ _ | exact aD2 _ _ _ | exact b51 _ _ _ _ _ | exact bQ3 _ _ _ | exact ba1 _ _ _ _ | exact bQ2 _ _ _ _ | exact aU6 _ _ _ _ | exact an7 _ | exact aa5 _) | ((with_reducible refine af5 _ (h:=?_)); (intro _ h; cases h)) | (with_reducible first | exact aa6 _ | refine aa1 ?_ fun _=>?_) | split); done)
theorem b48 (op:UnOp) (x:Value):TM p F (Op.unary op x):=by unfold Op.unary; (repeat' first | (with_reducible first | exact ba1 _ _ _ _ | exact aU6 _ _ _ _) | ((with_reducible refine af5 _ (h:=?_)); (intro _ h; cases h)) | (with_reducible first | exact aa6 _ | exact aa2 _) | split)
theorem bC3 (v:Value):TM p F (Builtin.lenOf v):=by unfold Builtin.lenOf; (repeat' first | (with_reducible first | exact aa6 _ | exact aa2 _) | split)
theorem as3 (s n:Nat) (v:Value):TM p F (Builtin.firstCells s n v):=by unfold Builtin.firstCells; (repeat' first | (with_reducible first | exact aL9 _ _ | exact aa6 _ | exact aa2 _) | split)
theorem cg2 (ts:Array TypeId) (t:TypeId) (xs:Array Value):TM p F (Builtin.copy_ ts t xs):=by unfold Builtin.copy_; (repeat' first | (with_reducible first | exact as3 _ _ _ | exact bC3 _ | exact ak6 _ _ _ | exact af0 _ | exact aa5 _ | exact aa6 _ | exact aa2 _ | refine aa1 ?_ fun _=>?_) | split)
theorem b56 (hs:LoopOK.set) (ts:Array TypeId) (t:TypeId) (xs:Array Value):TM p F (Builtin.clear_ ts t xs):=by unfold Builtin.clear_; (repeat' first | (with_reducible first | exact ak6 _ _ _ | exact ag2 _ | exact aa5 _ | exact aa6 _) | ((with_reducible refine bo1 _ _ (by assumption) (nv:=?_) (np:=?_) (nc:=?_) (nl:=?_))<;>first | (intro _ _ _ h; cases h; done) | (intro _ _ h; cases h; done) | (intro _ h; cases h; done)) | with_reducible exact aa2 _ | focus ((with_reducible refine au2 (fun _ _=>?_) ?_ ?_); rotate_left; (intro _ _ c hc; cases hc<;>rfl); intros; rfl) | with_reducible refine aa1 ?_ fun _=>?_ | split)
theorem t_len (ts:Array TypeId) (t:TypeId) (xs:Array Value):TM p F (Builtin.len_ ts t xs):=by unfold Builtin.len_; (repeat' first | (with_reducible first | exact aa5 _ | exact aa6 _ | exact aa2 _) | focus ((with_reducible refine au2 (fun _ _=>?_) ?_ ?_); rotate_left; (intro _ _ c hc; cases hc<;>rfl); intros; rfl) | with_reducible refine aa1 ?_ fun _=>?_ | split)
theorem t_cap (ts:Array TypeId) (t:TypeId) (xs:Array Value):TM p F (Builtin.cap_ ts t xs):=by unfold Builtin.cap_; (repeat' first | (with_reducible first | exact aa5 _ | exact aa6 _ | exact aa2 _) | focus ((with_reducible refine au2 (fun _ _=>?_) ?_ ?_); rotate_left; (intro _ _ c hc; cases hc<;>rfl); intros; rfl) | with_reducible refine aa1 ?_ fun _=>?_ | split)
theorem aZ2 {γ:Type}{f:β->α->Sem β}(h:∀ b a,TM p F (f b a)):∀ (l:List α) (b:β),TM p F (l.foldlM f b)
 | [],b=>by rw [List.foldlM_nil]; exact aa2 _
 | a::l,b=>by
  rw [List.foldlM_cons];exact aa1 (h b a) fun _=>aZ2 (γ:=γ) h l _
theorem cf9 (x y:Value):TM p F (Builtin.max2 x y):=by unfold Builtin.max2; (repeat' first | (with_reducible first | exact aD2 _ _ _ | exact aJ5 _ | exact ai8 _) | ((with_reducible refine af5 _ (h:=?_)); (intro _ h; cases h)) | (with_reducible first | exact aa6 _ | exact aa2 _ | refine aa1 ?_ fun _=>?_) | split)
theorem cf8 (x y:Value):TM p F (Builtin.min2 x y):=by unfold Builtin.min2; (repeat' first | (with_reducible first | exact aD2 _ _ _ | exact aJ5 _ | exact ai8 _) | ((with_reducible refine af5 _ (h:=?_)); (intro _ h; cases h)) | (with_reducible first | exact aa6 _ | exact aa2 _ | refine aa1 ?_ fun _=>?_) | split)
theorem t_max (ts:Array TypeId) (t:TypeId) (xs:Array Value):TM p F (Builtin.max_ ts t xs):=by
 unfold Builtin.max_;split
 ·exact aa6 _
 ·exact aZ2 (γ:=Unit) cf9 _ _
theorem t_min (ts:Array TypeId) (t:TypeId) (xs:Array Value):TM p F (Builtin.min_ ts t xs):=by
 unfold Builtin.min_;split
 ·exact aa6 _
 ·exact aZ2 (γ:=Unit) cf8 _ _
theorem aY8:TM p F (mark .noRoom):= .noRoom (.pure ())
theorem bQ6 (s l n : Nat) (b : Option Addr) (x : Value) {γ : Type} (z : Bool) : TM p F (if z then runtimePanic (.error "growslice: len out of range") else do
   if !(← Builtin.mayShare s l n b x) then mark .noRoom
   (unsupported (.resourceLimit "append: a slice or a string whose bytes no memory bears") : Sem γ)) := by
 split
 ·(repeat' with_reducible exact ab2 _)
 ·refine (aS5 s l n b x).tame (fun c=>?_) fun c=>?_
  ·(repeat' first | with_reducible exact aY8 | ((with_reducible refine af5 _ (h:=?_)); (intro _ h; cases h)) | with_reducible refine aa1 ?_ fun _=>?_ | split)
  ·intro q w es a w' es' hr;cases c<;>simp [mark,unsupported,Sem.runT,Sem.run,bind,Sem.bind] at hr
theorem bQ5 (ts:Array TypeId) (t:TypeId) (xs:Array Value):TM p F (Builtin.append_ ts t xs):=by
 unfold Builtin.append_;split
 ·rename_i sType s x _;refine aa1 (aa5 _) fun d=>?_
  split
  ·rename_i elem;split
   ·rename_i base sLen sCap;refine aa1 (af0 _) fun size=>?_
    extract_lets j1 jp
    have hp:∀ z,TM p F (jp z):=by
     intro zeros;simp (config:={ zeta:=false,zetaHave:=false }) only [jp]
     extract_lets jn
     have hn:∀ n,TM p F (jn n):=by
      intro n;simp (config:={ zeta:=false,zetaHave:=false }) only [jn]
      extract_lets app need js jb ja
      have happ:TM p F app:=by simp only [app]; (repeat' first | (with_reducible first | exact as3 _ _ _ | exact ag2 _ | exact aa2 _ | refine aa1 ?_ fun _=>?_) | split)
      have hs:∀ u,TM p F (js u):=by
       intro u;simp (config:={ zeta:=false,zetaHave:=false }) only [js]
       exact aa2 _
      have hb:∀ u,TM p F (jb u):=by
       intro u;simp (config:={ zeta:=false,zetaHave:=false }) only [jb]
       refine aa1 (ai8 _) fun nc=>aa1 (ad1 _) fun ti=>aa1 (ba5 _) fun _=>aa1 (as3 _ _ _) fun old=>aa1 happ fun new=>aa1 (ag2 _) fun z=>?_
       (repeat' (with_reducible first | exact aJ2 _ _ | exact aa2 _ | refine aa1 ?_ fun _=>?_))
      have ha:∀ u,TM p F (ja u):=by
       intro u;simp (config:={ zeta:=false,zetaHave:=false }) only [ja]
       refine aa1 (ad1 _) fun ti=>?_
       split
       ·exact aa1 (bQ6 size base n _ x zeros) hb
       ·exact hb ()
      split
      ·refine aa1 happ fun new=>?_
       split
       ·exact aa1 (ak6 _ _ _) hs
       ·exact hs ()
      ·refine aa1 (ad1 _) fun ti=>?_
       split
       ·exact aa1 (ab2 _) ha
       ·exact ha ()
     split
     ·refine aa1 (aM1 _) fun i=>?_
      extract_lets l jd jc
      have hd:∀ u,TM p F (jd u):=by
       intro u;simp (config:={ zeta:=false,zetaHave:=false }) only [jd]
       exact aa1 (aa2 _) hn
      have hc:∀ u,TM p F (jc u):=by
       intro u;simp (config:={ zeta:=false,zetaHave:=false }) only [jc]
       refine aa1 (ad1 _) fun ti=>?_
       split
       ·refine aa1 (ai8 _) fun m=>aa1 (ab2 _) hd
       ·exact hd ()
      split
      ·exact aa1 (ab2 _) hc
      ·exact hc ()
     ·exact aa1 (bC3 _) hn
    split
    ·exact aa1 (aa5 _) fun d=>aa1 (aa2 _) hp
    ·exact aa1 (aa2 _) hp
   ·exact aa6 _
  ·exact aa6 _
 ·exact aa6 _
end
end Hid
namespace Hid
open Go.RowKit Go.Conc
variable [LoopOK]
section
variable {p:Program}{F:Array Func}{α β:Type}
theorem ba2 (s:FloatKind) (x:Nat) (k:IntKind):TM p F (Conv.floatToInt s x k):=by unfold Conv.floatToInt; (repeat' first | (with_reducible first | exact ai8 _ | exact aa2 _ | refine aa1 ?_ fun _=>?_) | split)
theorem bD1 {src dst:TypeId}{j k:IntKind}(hs:p.underlying src=some (.int j)) (hd:p.underlying dst=some (.int k)) (x:Value):TM p F (convert src dst x):=by
 unfold convert;refine bB7 fun a ha=>bB7 fun b hb=>?_
 rw [hs] at ha;rw [hd] at hb;cases ha;cases hb;cases x with
 | int i n=>exact aa2 _
 | float s b=>exact ba2 s b k
 | pointer a=>cases a<;>exact af5 _
 | _=>exact af5 _
theorem aG6 {n:Nat}{kt:TypeId}(h:eqT p n kt=true) (k:Value):∀ (l:List MapEntry) (i:Nat),TM p F (Instr.findAsking kt k l i)
 | [],_=>aa2 _
 | e::l,i=>by
  unfold Instr.findAsking;refine aa1 (aM0 n _ kt k e.key h) fun b=>?_
  split
  ·exact aa2 _
  ·exact aG6 h k l (i+1)
theorem ba3 {n:Nat}{kt:TypeId}(h:eqT p n kt=true) (k:Value) (l:List MapEntry):TM p F (Instr.findKey kt k l):=by
 unfold Instr.findKey;refine aa1 (aa5 _) fun d=>?_
 split
 ·exact aa2 _
 ·exact aG6 h k l 0
theorem bQ0 {n:Nat}{t kt et:TypeId}(ht:p.underlying t=some (.map kt et)) (h:eqT p n kt=true) (x i:Value) (ok:Bool):TM p F (Instr.lookup t x i ok):=by
 have hk:=fun (k:Value) l=>ba3 (F:=F) h k l
 have hc:=fun (e:Bool) n t (v:Value)=>aD4 (p:=p) (F:=F) e n t v
 unfold Instr.lookup;refine bB7 fun d hd=>?_
 rw [ht] at hd;cases hd;dsimp only
 (repeat' first | (with_reducible first | exact ag2 _ | exact aa6 _ | exact aa2 _) | focus ((with_reducible refine au2 (fun _ _=>?_) ?_ ?_); rotate_left; (intro _ _ c hc; cases hc<;>rfl); intros; rfl) | with_reducible refine aa1 ?_ fun _=>?_ | split)
 all_goals first | exact hc _ _ _ _ | exact hk _ _ | skip
theorem aS1 (a b:Value):TM p F (Instr.keyThatStays a b):=by unfold Instr.keyThatStays; (repeat' first | (with_reducible first | exact ai8 _ | exact aa2 _ | refine aa1 ?_ fun _=>?_) | split)
theorem bi4 (hs:LoopOK.set) {n:Nat}{t kt et:TypeId}(ht:p.underlying t=some (.map kt et)) (h:eqT p n kt=true) (m k v:Value):TM p F (Instr.mapUpdate t m k v):=by
 have hk:=fun (k:Value) l=>ba3 (F:=F) h k l
 have hc:=fun (e:Bool) n t (v:Value)=>aD4 (p:=p) (F:=F) e n t v
 have hy:=fun a b=>aS1 (p:=p) (F:=F) a b
 unfold Instr.mapUpdate;refine bB7 fun d hd=>?_
 rw [ht] at hd;cases hd;dsimp only
 (repeat' first | (with_reducible first | exact ab2 _ | exact aa6 _) | ((with_reducible refine bo1 _ _ (by assumption) (nv:=?_) (np:=?_) (nc:=?_) (nl:=?_))<;>first | (intro _ _ _ h; cases h; done) | (intro _ _ h; cases h; done) | (intro _ h; cases h; done)) | focus ((with_reducible refine au2 (fun _ _=>?_) ?_ ?_); rotate_left; (intro _ _ c hc; cases hc<;>rfl); intros; rfl) | with_reducible refine aa1 ?_ fun _=>?_ | split)
 all_goals first | exact hc _ _ _ _ | exact hk _ _ | exact hy _ _ | skip
theorem aD3 (t:TypeId) (x:Place):TM p F (Place.get t x):=by unfold Place.get; (repeat' first | (with_reducible first | exact az6 _ _ | exact aa2 _) | split)
theorem aZ1:∀ (l:List FieldStep) (t:TypeId) (x:Place),TM p F (follow l t x)
 | [],_,_=>aa2 _
 | s::l,t,x=>by
  have ih:=aZ1 l;unfold follow
  (repeat' first | (with_reducible first | exact aD3 _ _ | exact aG7 _ _ | exact aJ6 _ | exact aG4 _ _ _ | exact aa5 _ | exact aa6 _ | refine aa1 ?_ fun _=>?_) | split)
  all_goals exact ih _ _
theorem t_ssa (ts : Array TypeId) (t : TypeId) (v : Value) (s : String) : TM p F (Builtin.ssaWrapNilChk_ ts t #[v, strVal "", strVal s]) := by
 show TM p F (match v with
  | .pointer (some _)=>pure v
  | .pointer none=>_
  | _ => stuck "ssa:wrapnilchk: pointer expected")
 cases v with
 | pointer a=>
  cases a with
  | some a=>exact aa2 _
  | none=>dsimp only; (repeat' first | (with_reducible first | exact ab2 _ | exact aa5 _ | exact ad1 _ | exact ai8 _) | ((with_reducible refine af5 _ (h:=?_)); (intro _ h; cases h)) | (with_reducible first | exact aa6 _ | refine aa1 ?_ fun _=>?_) | split)
 | _=>exact aa6 _
theorem aG3 (t:TypeId) (x:Place) (b:Bool) (w:Option String):TM p F (receiverAt t x b w):=by unfold receiverAt; (repeat' first | (with_reducible first | exact t_ssa _ _ _ _ | exact aD3 _ _ | exact aJ6 _ | exact az6 _ _ | exact aa5 _ | exact aa6 _ | exact aa2 _ | refine aa1 ?_ fun _=>?_) | split)
theorem aY5 (t:TypeId) (v:Value) (l:Array FieldStep) (b:Bool):TM p F (receiverVia t v l b):=by unfold receiverVia; (repeat' (with_reducible first | exact aG3 _ _ _ _ | exact aZ1 _ _ _ | refine aa1 ?_ fun _=>?_))
theorem bo2:∀ (n:Nat) (t:TypeId) (v:Value) (s:String),TM p F (method n t v s)
 | 0,_,_,_=>af5 _
 | n+1,t,v,s=>by
  have ih:=bo2 n;unfold method
  (repeat' first | (with_reducible first | exact aG3 _ _ _ _ | exact aZ1 _ _ _ | exact aD3 _ _ | exact ab2 _ | exact ad1 _ | exact aa6 _ | exact aa2 _ | refine aa1 ?_ fun _=>?_) | split)
  all_goals exact ih _ _ _
theorem az7:∀ (l:List FieldStep) (t:TypeId) (x:Option Value),TM p F (followBlind l t x)
 | [],_,_=>aa2 _
 | s::l,t,x=>by
  have ih:=az7 l;unfold followBlind
  (repeat' first | (with_reducible first | exact aG4 _ _ _ | exact aa5 _ | exact aa6 _ | exact aa2 _ | refine aa1 ?_ fun _=>?_) | split)
  all_goals exact ih _ _
theorem aU5:∀ (n:Nat) (t:TypeId) (v:Value) (s:String),TM p F (nilAhead n t v s)
 | 0,_,_,_=>aa2 _
 | n+1,t,v,s=>by
  have ih:=aU5 n;unfold nilAhead
  (repeat' first | (with_reducible first | exact az7 _ _ _ | exact aa5 _ | exact ad1 _ | exact aa6 _ | exact aa2 _ | refine aa1 ?_ fun _=>?_) | split)
  all_goals exact ih _ _ _
abbrev TN (p:Program) (F:Array Func) (s:Sem Next):Prop:=TameN p { p with funcs:=F } s
theorem n_v {s:Sem Value}(h:TM p F s):TN p F (do pure (.value (← s))):= .bind h fun v=> .val v
theorem n_u {s:Sem Unit}(h:TM p F s):TN p F (do s; pure .skip):= .bind h fun _=> .skip
theorem aW0 {s:Sem α}{f:α->Sem Next}(h:TM p F s) (hf:∀ a,TN p F (f a)):TN p F (s >>= f):= .bind h hf
theorem aE2 (s:String):TN p F (stuck s):= .bind (β:=Empty) (s:=stuck s) (f:=fun e=>e.elim) (aa6 s) fun e=>e.elim
theorem bS9:TN p F (runtimePanic .nilDeref):= .bind (β:=Empty) (s:=runtimePanic .nilDeref) (f:=fun e=>e.elim) (ab2 _) fun e=>e.elim
theorem aH3 (hf:∀ f,LoopOK.fn f) (v:Value) (s:String) (args:Array Value):TN p F (callMethod v s args):=by
 unfold callMethod;split
 ·rename_i t v;exact aW0 (s:=program >>= fun q=>method (q.types.size+Made.depth) t v s) (aw0 (bo2 _ _ _ _) rfl) fun x=> .call x.1 (#[x.2]++args) (hf _)
 ·exact bS9
 ·exact aE2 _
theorem b98 (hl:∀ r,¬ LoopOK.ok r) (l:Nat) (args:Array Value):TN p F (Instr.yield l args):=by
 show TN p F (Sem.getObj l _);refine .obj (fun o ho=>?_) (fun a u=> .inr fun w es x w' es' hr=>by cases hr) (by intros; rfl);cases o with
 | loop r=>exact (hl r (ho r rfl)).elim
 | _=>exact aE2 _
theorem aV9 (hf:∀ f,LoopOK.fn f) (hl:∀ r,¬ LoopOK.ok r) (fn:Fn) (cap args:Array Value):TN p F (invoke (.fn fn cap) args):=by
 cases fn with
 | func f=>exact .call f _ (hf _)
 | method s=>
  simp only [invoke];split
  ·exact aH3 hf _ _ _
  ·exact aE2 _
 | methodOf t s=>
  simp only [invoke];split
  ·refine aW0 (aa5 _) fun d=>?_
   exact aH3 hf _ _ _
  ·exact aE2 _
 | via t path f b=>
  simp only [invoke];split
  ·exact aW0 (aY5 _ _ _ _) fun v=> .call _ _ (hf _)
  ·exact aE2 _
 | yield l=>exact b98 hl l args
def b41 (p:Program) (t:TypeId):Bool:=match p.underlying t with | some (.int _)=>true | _=>false
def bT0 (p:Program) (t:TypeId):Bool:=match p.underlying t with | some (.map k _)=>eqT p 8 k | _=>false
def biOK (full:Bool):Builtin->Bool
 | .append | .cap | .copy | .len | .max | .min=>true
 | .clear=>full
 | _=>false
def bM6 (full:Bool) (J:FuncId->Bool) (c:Call):Bool:=match c.callee with
 | .builtin b=>biOK full b
 | .value (.func f)=>full||J f
 | _=>full
def opOK (p:Program) (full:Bool) (J:FuncId->Bool) (o:Oper):Bool:=match o.op with
 | .move _ | .assign _ | .pick _ _ _ | .alloc _ | .box _ _ | .build _ _ | .buildSlice _ _ _ | .load _ _ | .store _ _ _ | .nilCheck _ | .unOp _ _ _ | .makeFunc _ _ _ | .makeMap _ _ | .makeChan _ _ | .makeSlice _ _ _
 | .slice _ _ _ _ _ | .fieldAddr _ _ _ | .field _ _ _ | .indexAddr _ _ _ | .index _ _ _ | .extract _ _=>true
 | .binOp op t _ _ _=>match op with | .eql | .neq=>eqT p 8 t | _=>true
 | .convert s d _=>b41 p s&&b41 p d
 | .lookup t _ _ _=>bT0 p t
 | .mapUpdate t _ _ _=>full&&bT0 p t
 | .call c=>bM6 full J c
 | _=>false
theorem bI7 {full:Bool}(hs:full=true->LoopOK.set) {b:Builtin}(hb:biOK full b=true) (ts:Array TypeId) (t:TypeId) (cs:Array Bool) (xs:Array Value):TN p F (builtin b ts t cs xs):=by
 unfold builtin;cases b<;>first
  | (cases hb; done)
  | exact n_v (bQ5 _ _ _)
  | exact n_v (t_cap _ _ _)
  | exact n_v (b56 (hs hb) _ _ _)
  | exact n_v (cg2 _ _ _)
  | exact n_v (t_len _ _ _)
  | exact n_v (t_max _ _ _)
  | exact n_v (t_min _ _ _)
theorem cm9 {full:Bool}{J:FuncId->Bool}(hs:full=true->LoopOK.set) (hf:full=true->∀ f,LoopOK.fn f) (hJ:∀ f,J f=true->LoopOK.fn f) (hl:∀ r,¬ LoopOK.ok r) (ρ:Operand->Value) (hρ:∀ f,ρ (.func f) = .func (.func f) #[] #[]) (c:Call) (t:TypeId) (h:bM6 full J c=true):TN p F (do let d ← resolve ρ c t; invoke d.target d.args):=by
 obtain ⟨cal,args,ats⟩:=c;cases cal with
 | builtin b=>exact bI7 hs h _ _ _ _
 | invoke r s=>exact aV9 (hf h) hl (.method s) #[] _
 | value f=>
  have key:full=true->TN p F (Deferred.ofValue (ρ f) (args.map ρ) >>= fun d=>invoke d.target d.args):=fun hh=>by
   unfold Deferred.ofValue;cases ρ f with
   | func fn first cap=>exact aV9 (hf hh) hl fn _ _
   | nilFunc=>show TN p F (runtimePanic .nilDeref); exact bS9
   | _=>exact aE2 _
  show TN p F (Deferred.ofValue (ρ f) _ >>= _);cases f with
  | func g=>
   rw [hρ];simp only [bM6,xd] at h;exact .call g _ (h.elim (fun e=>hf e g) (hJ g))
  | _=>exact key h
theorem bY9 {full:Bool}{J:FuncId->Bool}(hs:full=true->LoopOK.set) (hf:full=true->∀ f,LoopOK.fn f) (hJ:∀ f,J f=true->LoopOK.fn f) (hl:∀ r,¬ LoopOK.ok r) {o:Oper}(h:opOK p full J o=true):OpT p { p with funcs:=F } o:=by
 intro ρ hρ;obtain ⟨dst,op,ty,ps,af,gd⟩:=o;unfold execOp;cases op<;>try (exfalso; simp [opOK] at h; done)
 case move x=>exact .val _
 case assign x=>exact .val _
 case pick c a b=>exact aW0 (aJ5 _) fun _=> .val _
 case alloc t=>exact n_v (b62 _)
 case box t x=>exact n_v (t_box _ _)
 case build t ps=>exact n_v (b59 _ _)
 case buildSlice t n ps=>exact n_v (ba4 _ _ _)
 case load t a=>exact n_v (bQ1 _ _)
 case store t a x=>exact n_u (bB9 _ _ _)
 case unOp op t x=>exact n_v (b48 _ _)
 case makeFunc f a b=>exact n_v (aa2 _)
 case makeMap t r=>exact n_v (bC2 _ _)
 case makeChan t r=>exact n_v (bu7 _ _)
 case makeSlice t l c=>exact n_v (bi5 _ _ _)
 case slice t x a b c=>exact n_v (bC0 _ _ _ _ _)
 case fieldAddr t x i=>exact n_v (bC7 _ _ _)
 case field t x i=>exact n_v (b53 _ _ _)
 case indexAddr t x i=>exact n_v (bC5 _ _ _)
 case index t x i=>exact n_v (b52 _ _ _)
 case extract x i=>exact n_v (bC8 _ _)
 case nilCheck x=>
  dsimp only;split;all_goals first | exact bS9 | exact .val _ | skip
  split
  ·exact bS9
  ·rename_i t w _;refine aW0 (s:=program >>= fun q=>nilAhead (q.types.size+Made.depth) t w _) (aw0 (aU5 _ _ _ _) rfl) fun b=>?_
   split
   ·exact aW0 (af5 _) fun _=> .val _
   ·exact .val _
  ·exact .val _
 case binOp op t x y z=>
  refine n_v (aa1 (bC9 _ _ _ _ _ _) fun _=>b60 _ _ _ _ fun ho=>⟨8,?_⟩);rcases ho with rfl | rfl<;>exact h
 case convert s d x=>
  simp only [opOK,lu,b41] at h;obtain ⟨h1,h2⟩:=h;split at h1
  ·split at h2
   ·exact n_v (bD1 ‹_› ‹_› _)
   ·cases h2
  ·cases h1
 case lookup t x i ok=>
  simp only [opOK,bT0] at h;split at h
  ·exact n_v (bQ0 ‹_› h _ _ _)
  ·cases h
 case mapUpdate t m k v=>
  simp only [opOK,bT0,lu] at h;obtain ⟨h0,h⟩:=h;split at h
  ·exact n_u (bi4 (hs h0) ‹_› h _ _ _)
  ·cases h
 case call c=>exact cm9 hs hf hJ hl ρ hρ c ty h
def al4 (p:Program) (full:Bool) (J:FuncId->Bool):Code->Bool
 | .region _ ops _=>ops.toList.all (opOK p full J)
 | .seq x y=>al4 p full J x&&al4 p full J y
 | .cond _ x y=>al4 p full J x&&al4 p full J y
 | .block _ c=>al4 p full J c
 | .loop c=>al4 p full J c
 | .scope c=>al4 p full J c
 | .rangeFunc .. | .goto _=>false
 | _=>true
theorem bM3 {full:Bool}{J:FuncId->Bool}(hs:full=true->LoopOK.set) (hf:full=true->∀ f,LoopOK.fn f) (hJ:∀ f,J f=true->LoopOK.fn f) (hl:∀ r,¬ LoopOK.ok r):∀ {c:Code},al4 p full J c=true->at9 p { p with funcs:=F } c:=by
 intro c;induction c with
 | region i ops d=>exact fun h o ho=>bY9 hs hf hJ hl (xa.1 h o ho)
 | seq x y ix iy=>exact fun h=>by simp only [al4,lu] at h; exact ⟨ix h.1,iy h.2⟩
 | cond t x y ix iy=>exact fun h=>by simp only [al4,lu] at h; exact ⟨ix h.1,iy h.2⟩
 | block i c ih=>exact fun h=>ih h
 | loop c ih=>exact fun h=>ih h
 | scope c ih=>exact fun h=>ih h
 | rangeFunc _ _ _ _=>exact fun h=>by cases h
 | goto _=>exact fun h=>by cases h
 | _=>exact fun _=>trivial
theorem bb7 (fn:Func) (t:Array Value):TM p F (results fn t):=by
 unfold results;refine aa1 (bC1 (fun r=>?_) _) fun _=>aa2 _
 split
 ·exact aa2 _
 ·exact aa1 (aJ6 _) fun _=>az6 _ _
theorem bG6 {full:Bool}{J:FuncId->Bool}(hst:full=true->LoopOK.set) (hfn:full=true->∀ f,LoopOK.fn f) (hJ:∀ f,J f=true->LoopOK.fn f) (hJ':∀ f,LoopOK.fn f->full=true\/J f=true)
  (hl : ∀ r, ¬ LoopOK.ok r) (hs : p.funcs.size = F.size) (hb : ∀ (f : FuncId) (fn : Func), p.funcs[f]? = some fn → ∃ b Fn, fn.body = some b ∧ (full = true ∨ J f = true → al4 p full J b = true) ∧ (fn.name == "runtime.NumGoroutine") = false ∧ F[f]? = some Fn ∧ Fn = { fn with body := Fn.body }) : Pair p { p with funcs := F } := by
 refine ⟨⟨rfl,fun f fn hf=>?_,hs⟩,fun f fn b hJf hf hb'=>?_,fun f fn t _=>bb7 fn t,fun f fn hf=>?_⟩
 ·obtain ⟨b,Fn,h1,_,_,h4,h5⟩:=hb f fn hf;exact ⟨b,Fn,h1,h4,h5⟩
 ·obtain ⟨b',Fn,h1,h2,_⟩:=hb f fn hf;rw [hb'] at h1;cases h1;exact bM3 hst hfn hJ hl (h2 (hJ' f hJf))
 ·obtain ⟨b',Fn,_,_,h3,_⟩:=hb f fn hf;exact h3
end
end Hid
namespace Hid
open Go Go.Proofs
def jobF (f:FuncId):Bool:=f==41||f==66
noncomputable instance noLoops:LoopOK:=⟨fun _=>False,True,fun _=>True⟩
@[reducible] noncomputable def aO8:LoopOK:=⟨fun _=>False,False,fun f=>jobF f=true⟩
noncomputable def op1 (d : Option Tmp) (op : Op) (t : TypeId) : Oper := { dst := d, op, type := t, pos := "", after := #[], guard := none }
noncomputable def no1 (d:Tmp) (t:TypeId):Oper:=op1 (some d) (.box t (.const (.agg #[]))) 0
noncomputable def ax3:Array Oper:=#[op1 (some 17) (.call { callee:= .builtin .len,args:=#[.tmp 0],argTypes:=#[22] }) 3,op1 (some 18) (.call { callee:= .builtin .len,args:=#[.tmp 3],argTypes:=#[32] }) 3,
 op1 (some 22) (.binOp .lss 3 (.tmp 1) (.const (.int .i64 0)) 3) 4,op1 (some 23) (.binOp .lss 3 (.tmp 2) (.const (.int .i64 0)) 3) 4,op1 (some 24) (.binOp .lss 3 (.tmp 4) (.const (.int .i64 0)) 3) 4,op1 (some 21) (.binOp .eql 3 (.tmp 5) (.const (.int .i64 1)) 3) 4,op1 (some 25) (.binOp .leq 3 (.tmp 18) (.const (.int .i64 8)) 3) 4]
noncomputable def opsT1:Array Oper:=#[no1 6 22,no1 7 3,no1 8 3,no1 9 32,no1 10 3,op1 (some 12) (.assign (.const (.slice none 0 0))) 60]
noncomputable def opsT2:Array Oper:=#[op1 (some 19) (.makeSlice 60 (.tmp 18) (.tmp 18)) 60,no1 13 60]
noncomputable def opsT3:Array Oper:=#[op1 (some 20) (.makeChan 78 (.const (.int .i64 0))) 78,no1 14 78]
noncomputable def opsT4:Array Oper:=#[no1 15 88]
noncomputable def opsT5:Array Oper:=#[op1 (some 29) (.move (.const (.int .i64 0))) 3]
noncomputable def ck5:Array Oper:=#[op1 (some 30) (.binOp .lss 3 (.tmp 29) (.tmp 18) 3) 4]
noncomputable def bH0:Array Oper:=#[op1 (some 26) (.indexAddr 32 (.tmp 3) (.tmp 29)) 0,op1 (some 31) (.load 3 (.tmp 26)) 3,
 op1 (some 33) (.call { callee:= .value (.func 41),args:=#[.tmp 0,.tmp 1,.tmp 2,.tmp 31,.tmp 4],argTypes:=#[22,3,3,3,3] }) 62,op1 (some 35) (.indexAddr 60 (.tmp 19) (.tmp 29)) 0,op1 none (.store 62 (.tmp 35) (.tmp 33)) 0]
noncomputable def opsT8:Array Oper:=#[op1 (some 34) (.binOp .add 3 (.tmp 29) (.const (.int .i64 1)) 3) 3,op1 (some 29) (.move (.tmp 34)) 3]
noncomputable def opsT9:Array Oper:=#[op1 (some 12) (.assign (.tmp 19)) 60]
noncomputable def bz6:Code:= .seq (.region 10 ck5 false) (.seq (.cond (.tmp 30) .skip (.exit 2)) (.seq (.region 12 bH0 false) (.region 13 opsT8 false)))
noncomputable def b47:Code:= .seq (.region 16 opsT9 false) .ret
noncomputable def as7:Code:=
 .seq (.region 90 ax3 false) <| .seq (.cond (.tmp 21) .skip (.refuse "more than one goroutine")) <| .seq (.cond (.tmp 25) .skip (.refuse "more than eight inks")) <|
 .seq (.region 0 opsT1 false) <| .seq (.region 1 opsT2 false) <| .seq (.region 2 opsT3 false) <| .seq (.region 3 opsT4 false) <|
 .seq (.region 9 opsT5 false) <| .seq (.block 2 (.loop bz6)) b47
noncomputable def keepB (i:Nat):Bool:=!(i∈[0,1,27,38,39,40,42,53,54,55,56,57,58,61,64,65,67,68,70,71,79,80,81,82,83,113,114,115,116,117,118,119,120,121,122,123,124,125,126,127,128])
noncomputable def twf (i : Nat) (f : Func) : Func := if i = 27 then { f with body := some as7 } else if keepB i then f else { f with body := some (.refuse "") }
noncomputable def twp:Program:={ Tryz.prog with funcs:=Tryz.prog.funcs.mapIdx twf }
theorem bB2 (i:Nat):twp.funcs[i]?=(Tryz.prog.funcs[i]?).map (twf i):=by simp [twp]
theorem bI6:Tryz.prog.funcs.size=129:=by kernel_rfl
noncomputable def okAt (i:Nat):Bool:=match Tryz.prog.funcs[i]? with
 | some f => (match (twf i f).body with | some b => al4 twp true (fun _ => true) b && (!jobF i || al4 twp false jobF b) | none => false) && !(f.name == "runtime.NumGoroutine")
 | none=>false
theorem bZ5:(List.range 129).all okAt=true:=by kernel_rfl
theorem cf4 (i:Nat) (f:Func):f={ twf i f with body:=f.body }:=by
 unfold twf;split
 ·rfl
 ·split<;>rfl
theorem aG2 [LoopOK] {full:Bool}{J:FuncId->Bool}(hst:full=true->LoopOK.set) (hfn:full=true->∀ f,LoopOK.fn f) (hJ:∀ f,J f=true->LoopOK.fn f) (hJ':∀ f,LoopOK.fn f->full=true\/J f=true) (hl:∀ r,¬ LoopOK.ok r)
  (hc:∀ f b,(full=true\/J f=true)->(al4 twp true (fun _=>true) b&&(!jobF f||al4 twp false jobF b))=true->al4 twp full J b=true):Pair twp Tryz.prog:=by
 have h:Pair twp { twp with funcs:=Tryz.prog.funcs }:=by
  refine bG6 hst hfn hJ hJ' hl (by simp [twp]) fun f fn hf=>?_
  rw [bB2] at hf;obtain ⟨g,hg,rfl⟩:=xk.1 hf;have hlt:f<129:=by
   exact Nat.lt_of_lt_of_eq (lh.1 hg).1 bI6
  have hk:=xa.1 bZ5 f (lH.2 hlt);unfold okAt at hk;rw [hg] at hk;rw [lu,uD] at hk;obtain ⟨h1,h2⟩:=hk;split at h1
  ·rename_i b hb;refine ⟨b,g,hb,fun hx=>hc f b hx h1,?_,hg,cf4 f g⟩;rw [<-h2];unfold twf;split
   ·rfl
   ·split<;>rfl
  ·cases h1
 exact h
theorem az2:Pair twp Tryz.prog:=aG2 (full:=true) (J:=fun _=>true) (fun _=>trivial) (fun _ _=>trivial) (fun _ _=>trivial) (fun _ _=> .inl rfl) (fun _ h=>h) fun f b _ h=>(lu _ _▸h).1
theorem a13:@Pair aO8 twp Tryz.prog:=@aG2 aO8 false jobF (fun h=>by cases h) (fun h=>by cases h) (fun _ h=>h) (fun _ h=> .inr h) (fun _ h=>h) fun f b hx h=>by
 rw [lu,xd] at h;rcases h.2 with h2 | h2
 ·rcases hx with hx | hx
  ·cases hx
  ·rw [hx] at h2; cases h2
 ·exact h2
theorem as4 (k:FuncId) (h:Tryz.prog.funcs[k]?≠twp.funcs[k]?):(k=27/\∃ Fn:Func,Tryz.prog.funcs[k]?=some Fn/\Fn.body.isSome)\/∃ fn s,twp.funcs[k]?=some fn/\fn.body=some (.refuse s):=by
 rw [bB2] at h ⊢;cases hg:Tryz.prog.funcs[k]? with
 | none=>rw [hg] at h; exact absurd rfl h
 | some g=>
  rw [hg] at h;by_cases hk:k=27
  ·subst hk;refine .inl ⟨rfl,g,rfl,?_⟩;rw [Tryz.func27] at hg;cases hg;rfl
  ·right;refine ⟨_, "", rfl, ?_⟩;simp only [lB,twf,lr hk] at h ⊢;split
   ·rename_i hkb; rw [lm hkb] at h; exact absurd rfl h
   ·rfl
end Hid
section
open Go Go.Proofs
noncomputable def Tw.prog:Program:=twp
namespace Tw
@[simp] theorem call46:∀ (args:Array Value) (w:World),Sem.run prog (callFunc 46 args) w=.ok (.enter 46 args) w:=by intros;kernel_rfl
@[simp] theorem eqGuardType48:prog.eqGuardType prog.depth 48=Bool.false:=by kernel_rfl
@[simp] theorem eqGuardType93:prog.eqGuardType prog.depth 93=Bool.false:=by kernel_rfl
theorem func4:prog.funcs[4]?=some Tryz.f4:=by kernel_rfl
theorem func5:prog.funcs[5]?=some Tryz.f5:=by kernel_rfl
theorem func6:prog.funcs[6]?=some Tryz.f6:=by kernel_rfl
theorem func7:prog.funcs[7]?=some Tryz.f7:=by kernel_rfl
theorem func9:prog.funcs[9]?=some Tryz.f9:=by kernel_rfl
theorem func10:prog.funcs[10]?=some Tryz.f10:=by kernel_rfl
theorem func11:prog.funcs[11]?=some Tryz.f11:=by kernel_rfl
theorem func12:prog.funcs[12]?=some Tryz.f12:=by kernel_rfl
theorem func13:prog.funcs[13]?=some Tryz.f13:=by kernel_rfl
theorem func14:prog.funcs[14]?=some Tryz.f14:=by kernel_rfl
theorem func15:prog.funcs[15]?=some Tryz.f15:=by kernel_rfl
theorem func16:prog.funcs[16]?=some Tryz.f16:=by kernel_rfl
theorem func17:prog.funcs[17]?=some Tryz.f17:=by kernel_rfl
theorem func19:prog.funcs[19]?=some Tryz.f19:=by kernel_rfl
theorem func20:prog.funcs[20]?=some Tryz.f20:=by kernel_rfl
theorem func21:prog.funcs[21]?=some Tryz.f21:=by kernel_rfl
theorem func22:prog.funcs[22]?=some Tryz.f22:=by kernel_rfl
theorem func23:prog.funcs[23]?=some Tryz.f23:=by kernel_rfl
theorem func24:prog.funcs[24]?=some Tryz.f24:=by kernel_rfl
theorem func25:prog.funcs[25]?=some Tryz.f25:=by kernel_rfl
theorem func26:prog.funcs[26]?=some Tryz.f26:=by kernel_rfl
theorem func28:prog.funcs[28]?=some Tryz.f28:=by kernel_rfl
theorem func29:prog.funcs[29]?=some Tryz.f29:=by kernel_rfl
theorem func30:prog.funcs[30]?=some Tryz.f30:=by kernel_rfl
theorem func31:prog.funcs[31]?=some Tryz.f31:=by kernel_rfl
theorem func32:prog.funcs[32]?=some Tryz.f32:=by kernel_rfl
theorem func33:prog.funcs[33]?=some Tryz.f33:=by kernel_rfl
theorem func34:prog.funcs[34]?=some Tryz.f34:=by kernel_rfl
theorem func35:prog.funcs[35]?=some Tryz.f35:=by kernel_rfl
theorem func36:prog.funcs[36]?=some Tryz.f36:=by kernel_rfl
theorem func37:prog.funcs[37]?=some Tryz.f37:=by kernel_rfl
theorem func41:prog.funcs[41]?=some Tryz.f41:=by kernel_rfl
theorem func43:prog.funcs[43]?=some Tryz.f43:=by kernel_rfl
theorem func44:prog.funcs[44]?=some Tryz.f44:=by kernel_rfl
theorem func45:prog.funcs[45]?=some Tryz.f45:=by kernel_rfl
theorem func46:prog.funcs[46]?=some Tryz.f46:=by kernel_rfl
theorem func47:prog.funcs[47]?=some Tryz.f47:=by kernel_rfl
theorem func48:prog.funcs[48]?=some Tryz.f48:=by kernel_rfl
theorem func49:prog.funcs[49]?=some Tryz.f49:=by kernel_rfl
theorem func50:prog.funcs[50]?=some Tryz.f50:=by kernel_rfl
theorem func51:prog.funcs[51]?=some Tryz.f51:=by kernel_rfl
theorem func52:prog.funcs[52]?=some Tryz.f52:=by kernel_rfl
theorem func66:prog.funcs[66]?=some Tryz.f66:=by kernel_rfl
theorem func72:prog.funcs[72]?=some Tryz.f72:=by kernel_rfl
theorem func73:prog.funcs[73]?=some Tryz.f73:=by kernel_rfl
theorem func74:prog.funcs[74]?=some Tryz.f74:=by kernel_rfl
theorem func75:prog.funcs[75]?=some Tryz.f75:=by kernel_rfl
theorem func76:prog.funcs[76]?=some Tryz.f76:=by kernel_rfl
theorem func77:prog.funcs[77]?=some Tryz.f77:=by kernel_rfl
theorem func78:prog.funcs[78]?=some Tryz.f78:=by kernel_rfl
theorem func84:prog.funcs[84]?=some Tryz.f84:=by kernel_rfl
theorem func85:prog.funcs[85]?=some Tryz.f85:=by kernel_rfl
theorem func86:prog.funcs[86]?=some Tryz.f86:=by kernel_rfl
theorem func87:prog.funcs[87]?=some Tryz.f87:=by kernel_rfl
theorem func88:prog.funcs[88]?=some Tryz.f88:=by kernel_rfl
theorem func89:prog.funcs[89]?=some Tryz.f89:=by kernel_rfl
theorem func90:prog.funcs[90]?=some Tryz.f90:=by kernel_rfl
theorem func91:prog.funcs[91]?=some Tryz.f91:=by kernel_rfl
theorem func92:prog.funcs[92]?=some Tryz.f92:=by kernel_rfl
theorem func93:prog.funcs[93]?=some Tryz.f93:=by kernel_rfl
theorem func94:prog.funcs[94]?=some Tryz.f94:=by kernel_rfl
theorem func95:prog.funcs[95]?=some Tryz.f95:=by kernel_rfl
theorem func96:prog.funcs[96]?=some Tryz.f96:=by kernel_rfl
theorem func97:prog.funcs[97]?=some Tryz.f97:=by kernel_rfl
theorem func98:prog.funcs[98]?=some Tryz.f98:=by kernel_rfl
theorem func99:prog.funcs[99]?=some Tryz.f99:=by kernel_rfl
theorem func100:prog.funcs[100]?=some Tryz.f100:=by kernel_rfl
theorem func101:prog.funcs[101]?=some Tryz.f101:=by kernel_rfl
theorem func102:prog.funcs[102]?=some Tryz.f102:=by kernel_rfl
theorem func103:prog.funcs[103]?=some Tryz.f103:=by kernel_rfl
theorem func104:prog.funcs[104]?=some Tryz.f104:=by kernel_rfl
theorem func105:prog.funcs[105]?=some Tryz.f105:=by kernel_rfl
theorem func106:prog.funcs[106]?=some Tryz.f106:=by kernel_rfl
theorem func107:prog.funcs[107]?=some Tryz.f107:=by kernel_rfl
theorem func108:prog.funcs[108]?=some Tryz.f108:=by kernel_rfl
theorem func109:prog.funcs[109]?=some Tryz.f109:=by kernel_rfl
theorem func110:prog.funcs[110]?=some Tryz.f110:=by kernel_rfl
theorem func111:prog.funcs[111]?=some Tryz.f111:=by kernel_rfl
theorem func112:prog.funcs[112]?=some Tryz.f112:=by kernel_rfl
@[simp] theorem isAgg0:∀ (w:World),Sem.run prog (Go.isAgg 0) w=.ok Bool.false w:=by intros;kernel_rfl
@[simp] theorem isAgg3:∀ (w:World),Sem.run prog (Go.isAgg 3) w=.ok Bool.false w:=by intros;kernel_rfl
@[simp] theorem isAgg4:∀ (w:World),Sem.run prog (Go.isAgg 4) w=.ok Bool.false w:=by intros;kernel_rfl
@[simp] theorem isAgg5:∀ (w:World),Sem.run prog (Go.isAgg 5) w=.ok Bool.false w:=by intros;kernel_rfl
@[simp] theorem isAgg9:∀ (w:World),Sem.run prog (Go.isAgg 9) w=.ok Bool.false w:=by intros;kernel_rfl
@[simp] theorem isAgg33:∀ (w:World),Sem.run prog (Go.isAgg 33) w=.ok Bool.false w:=by intros;kernel_rfl
@[simp] theorem isAgg83:∀ (w:World),Sem.run prog (Go.isAgg 83) w=.ok Bool.false w:=by intros;kernel_rfl
@[simp] theorem isAgg86:∀ (w:World),Sem.run prog (Go.isAgg 86) w=.ok Bool.false w:=by intros;kernel_rfl
@[simp] theorem isAgg91:∀ (w:World),Sem.run prog (Go.isAgg 91) w=.ok Bool.false w:=by intros;kernel_rfl
@[simp] theorem isAgg96:∀ (w:World),Sem.run prog (Go.isAgg 96) w=.ok Bool.false w:=by intros;kernel_rfl
@[simp] theorem isAgg100:∀ (w:World),Sem.run prog (Go.isAgg 100) w=.ok Bool.false w:=by intros;kernel_rfl
@[simp] theorem isAgg112:∀ (w:World),Sem.run prog (Go.isAgg 112) w=.ok Bool.false w:=by intros;kernel_rfl
@[simp] theorem isAgg126:∀ (w:World),Sem.run prog (Go.isAgg 126) w=.ok Bool.false w:=by intros;kernel_rfl
@[simp] theorem isAgg139:∀ (w:World),Sem.run prog (Go.isAgg 139) w=.ok Bool.false w:=by intros;kernel_rfl
@[simp] theorem isAgg140:∀ (w:World),Sem.run prog (Go.isAgg 140) w=.ok Bool.false w:=by intros;kernel_rfl
@[simp] theorem isAgg148:∀ (w:World),Sem.run prog (Go.isAgg 148) w=.ok Bool.false w:=by intros;kernel_rfl
@[simp] theorem isAgg151:∀ (w:World),Sem.run prog (Go.isAgg 151) w=.ok Bool.false w:=by intros;kernel_rfl
@[simp] theorem isAgg158:∀ (w:World),Sem.run prog (Go.isAgg 158) w=.ok Bool.false w:=by intros;kernel_rfl
@[simp] theorem isAgg159:∀ (w:World),Sem.run prog (Go.isAgg 159) w=.ok Bool.false w:=by intros;kernel_rfl
theorem ntmps5:Tryz.f5.ntmps=21:=Tryz.ntmps5
theorem ntmps45:Tryz.f45.ntmps=26:=Tryz.ntmps45
theorem ntmps46:Tryz.f46.ntmps=18:=Tryz.ntmps46
theorem ntmps77:Tryz.f77.ntmps=17:=Tryz.ntmps77
@[simp] theorem runUnderlying32:∀ (w:World),Sem.run prog (Go.underlying 32) w=.ok (TypeDesc.slice 3) w:=by intros;kernel_rfl
end Tw
@[simp] theorem Tw.runUnderlying48 : ∀ (w : Go.World), Go.Sem.run Tw.prog (Go.underlying 48) w = Go.Result.ok (Go.TypeDesc.struct #[{ name := "Y", type := 3, offset := 0, embedded := Bool.false, tag := "", pkgPath := "", byteOffset := 0 }, { name := "X0", type := 3, offset := 1, embedded := Bool.false, tag := "", pkgPath := "", byteOffset := 8 }, { name := "X1", type := 3, offset := 2, embedded := Bool.false, tag := "", pkgPath := "", byteOffset := 16 }]) w := by first | (intros; kernel_rfl) | exact Tryz.runUnderlying48
@[simp] theorem Tw.runUnderlying93 : ∀ (w : Go.World), Go.Sem.run Tw.prog (Go.underlying 93) w = Go.Result.ok (Go.TypeDesc.struct #[{ name := "Run", type := 48, offset := 0, embedded := Bool.true, tag := "", pkgPath := "", byteOffset := 0 }, { name := "piece", type := 3, offset := 3, embedded := Bool.false, tag := "", pkgPath := "printworks/flat", byteOffset := 24 }]) w := by first | (intros; kernel_rfl) | exact Tryz.runUnderlying93
namespace Tw
@[simp] theorem sizeOf0:∀ (w:World),Sem.run prog (Go.sizeOf 0) w=.ok 1 w:=by intros;kernel_rfl
@[simp] theorem sizeOf3:∀ (w:World),Sem.run prog (Go.sizeOf 3) w=.ok 1 w:=by intros;kernel_rfl
@[simp] theorem sizeOf4:∀ (w:World),Sem.run prog (Go.sizeOf 4) w=.ok 1 w:=by intros;kernel_rfl
@[simp] theorem sizeOf5:∀ (w:World),Sem.run prog (Go.sizeOf 5) w=.ok 1 w:=by intros;kernel_rfl
@[simp] theorem sizeOf9:∀ (w:World),Sem.run prog (Go.sizeOf 9) w=.ok 1 w:=by intros;kernel_rfl
@[simp] theorem sizeOf33:∀ (w:World),Sem.run prog (Go.sizeOf 33) w=.ok 1 w:=by intros;kernel_rfl
@[simp] theorem sizeOf48:∀ (w:World),Sem.run prog (Go.sizeOf 48) w=.ok 3 w:=by intros;kernel_rfl
@[simp] theorem sizeOf83:∀ (w:World),Sem.run prog (Go.sizeOf 83) w=.ok 1 w:=by intros;kernel_rfl
@[simp] theorem sizeOf86:∀ (w:World),Sem.run prog (Go.sizeOf 86) w=.ok 1 w:=by intros;kernel_rfl
@[simp] theorem sizeOf91:∀ (w:World),Sem.run prog (Go.sizeOf 91) w=.ok 1 w:=by intros;kernel_rfl
@[simp] theorem sizeOf96:∀ (w:World),Sem.run prog (Go.sizeOf 96) w=.ok 1 w:=by intros;kernel_rfl
@[simp] theorem sizeOf100:∀ (w:World),Sem.run prog (Go.sizeOf 100) w=.ok 1 w:=by intros;kernel_rfl
@[simp] theorem sizeOf112:∀ (w:World),Sem.run prog (Go.sizeOf 112) w=.ok 1 w:=by intros;kernel_rfl
@[simp] theorem sizeOf126:∀ (w:World),Sem.run prog (Go.sizeOf 126) w=.ok 1 w:=by intros;kernel_rfl
@[simp] theorem sizeOf139:∀ (w:World),Sem.run prog (Go.sizeOf 139) w=.ok 1 w:=by intros;kernel_rfl
@[simp] theorem sizeOf140:∀ (w:World),Sem.run prog (Go.sizeOf 140) w=.ok 1 w:=by intros;kernel_rfl
@[simp] theorem sizeOf148:∀ (w:World),Sem.run prog (Go.sizeOf 148) w=.ok 1 w:=by intros;kernel_rfl
@[simp] theorem sizeOf151:∀ (w:World),Sem.run prog (Go.sizeOf 151) w=.ok 1 w:=by intros;kernel_rfl
@[simp] theorem sizeOf158:∀ (w:World),Sem.run prog (Go.sizeOf 158) w=.ok 1 w:=by intros;kernel_rfl
@[simp] theorem sizeOf159:∀ (w:World),Sem.run prog (Go.sizeOf 159) w=.ok 1 w:=by intros;kernel_rfl
@[simp] theorem stoodInHeld48:prog.stoodInHeld 48=Bool.false:=by kernel_rfl
@[simp] theorem stoodInHeld93:prog.stoodInHeld 93=Bool.false:=by kernel_rfl
@[simp] theorem type0:prog.types[0]?=some Tryz.t0:=by kernel_rfl
@[simp] theorem type3:prog.types[3]?=some Tryz.t3:=by kernel_rfl
@[simp] theorem type4:prog.types[4]?=some Tryz.t4:=by kernel_rfl
@[simp] theorem type32:prog.types[32]?=some Tryz.t32:=by kernel_rfl
@[simp] theorem type48:prog.types[48]?=some Tryz.t48:=by kernel_rfl
@[simp] theorem type62:prog.types[62]?=some Tryz.t62:=by kernel_rfl
@[simp] theorem type91:prog.types[91]?=some Tryz.t91:=by kernel_rfl
@[simp] theorem type93:prog.types[93]?=some Tryz.t93:=by kernel_rfl
@[simp] theorem type96:prog.types[96]?=some Tryz.t96:=by kernel_rfl
@[simp] theorem type100:prog.types[100]?=some Tryz.t100:=by kernel_rfl
@[simp] theorem underlying0:prog.underlying 0=some (TypeDesc.tuple #[]):=by kernel_rfl
@[simp] theorem underlying3:prog.underlying 3=some (TypeDesc.int IntKind.i64):=by kernel_rfl
@[simp] theorem underlying4:prog.underlying 4=some TypeDesc.bool:=by kernel_rfl
@[simp] theorem underlying5:prog.underlying 5=some (TypeDesc.int IntKind.u8):=by kernel_rfl
@[simp] theorem underlying9:prog.underlying 9=some TypeDesc.string:=by kernel_rfl
@[simp] theorem underlying32:prog.underlying 32=some (TypeDesc.slice 3):=by kernel_rfl
@[simp] theorem underlying33:prog.underlying 33=some (TypeDesc.slice 48):=by kernel_rfl
end Tw
@[simp] theorem Tw.underlying48 : Tw.prog.underlying 48 = Option.some (Go.TypeDesc.struct #[{ name := "Y", type := 3, offset := 0, embedded := Bool.false, tag := "", pkgPath := "", byteOffset := 0 }, { name := "X0", type := 3, offset := 1, embedded := Bool.false, tag := "", pkgPath := "", byteOffset := 8 }, { name := "X1", type := 3, offset := 2, embedded := Bool.false, tag := "", pkgPath := "", byteOffset := 16 }]) := by first | (intros; kernel_rfl) | exact Tryz.underlying48
@[simp] theorem Tw.underlying62:Tw.prog.underlying 62=some (TypeDesc.slice 5):=by kernel_rfl
@[simp] theorem Tw.underlying83:Tw.prog.underlying 83=some (TypeDesc.int IntKind.u64):=by kernel_rfl
@[simp] theorem Tw.underlying86:Tw.prog.underlying 86=some (TypeDesc.int IntKind.u32):=by kernel_rfl
@[simp] theorem Tw.underlying91:Tw.prog.underlying 91=some (TypeDesc.slice 93):=by kernel_rfl
@[simp] theorem Tw.underlying93 : Tw.prog.underlying 93 = Option.some (Go.TypeDesc.struct #[{ name := "Run", type := 48, offset := 0, embedded := Bool.true, tag := "", pkgPath := "", byteOffset := 0 }, { name := "piece", type := 3, offset := 3, embedded := Bool.false, tag := "", pkgPath := "printworks/flat", byteOffset := 24 }]) := by first | (intros; kernel_rfl) | exact Tryz.underlying93
namespace Tw
@[simp] theorem underlying96:prog.underlying 96=some (TypeDesc.func #[93,93] #[3] Bool.false):=by kernel_rfl
@[simp] theorem underlying100:prog.underlying 100=some (TypeDesc.tuple #[3,4]):=by kernel_rfl
@[simp] theorem underlying112:prog.underlying 112=some (TypeDesc.int IntKind.u64):=by kernel_rfl
@[simp] theorem underlying126:prog.underlying 126=some (TypeDesc.func #[48,48] #[3] Bool.false):=by kernel_rfl
@[simp] theorem underlying139:prog.underlying 139=some (TypeDesc.int IntKind.i64):=by kernel_rfl
@[simp] theorem underlying140:prog.underlying 140=some (TypeDesc.tuple #[3,139]):=by kernel_rfl
@[simp] theorem underlying148:prog.underlying 148=some (TypeDesc.int IntKind.u64):=by kernel_rfl
@[simp] theorem underlying151:prog.underlying 151=some (TypeDesc.pointer 3):=by kernel_rfl
@[simp] theorem underlying158:prog.underlying 158=some (TypeDesc.pointer 148):=by kernel_rfl
@[simp] theorem underlying159:prog.underlying 159=some (TypeDesc.tuple #[3,3]):=by kernel_rfl
@[simp] theorem zeroValue0:∀ (w:World),Sem.run prog (Go.zeroValue 0) w=.ok (Value.tuple #[]) w:=by intros;kernel_rfl
@[simp] theorem zeroValue3:∀ (w:World),Sem.run prog (Go.zeroValue 3) w=.ok (Value.int IntKind.i64 0) w:=by intros;kernel_rfl
@[simp] theorem zeroValue4:∀ (w:World),Sem.run prog (Go.zeroValue 4) w=.ok (Value.bool Bool.false) w:=by intros;kernel_rfl
@[simp] theorem zeroValue5:∀ (w:World),Sem.run prog (Go.zeroValue 5) w=.ok (Value.int IntKind.u8 0) w:=by intros;kernel_rfl
@[simp] theorem zeroValue9:∀ (w:World),Sem.run prog (Go.zeroValue 9) w=.ok (Value.string { data:=#[] }) w:=by intros;kernel_rfl
@[simp] theorem zeroValue33:∀ (w:World),Sem.run prog (Go.zeroValue 33) w=.ok (Value.slice none 0 0) w:=by intros;kernel_rfl
@[simp] theorem zeroValue83:∀ (w:World),Sem.run prog (Go.zeroValue 83) w=.ok (Value.int IntKind.u64 0) w:=by intros;kernel_rfl
@[simp] theorem zeroValue86:∀ (w:World),Sem.run prog (Go.zeroValue 86) w=.ok (Value.int IntKind.u32 0) w:=by intros;kernel_rfl
@[simp] theorem zeroValue91:∀ (w:World),Sem.run prog (Go.zeroValue 91) w=.ok (Value.slice none 0 0) w:=by intros;kernel_rfl
@[simp] theorem zeroValue96:∀ (w:World),Sem.run prog (Go.zeroValue 96) w=.ok Value.nilFunc w:=by intros;kernel_rfl
@[simp] theorem zeroValue100:∀ (w:World),Sem.run prog (Go.zeroValue 100) w=.ok (Value.tuple #[Value.int IntKind.i64 0,Value.bool Bool.false]) w:=by intros;kernel_rfl
@[simp] theorem zeroValue112:∀ (w:World),Sem.run prog (Go.zeroValue 112) w=.ok (Value.int IntKind.u64 0) w:=by intros;kernel_rfl
@[simp] theorem zeroValue126:∀ (w:World),Sem.run prog (Go.zeroValue 126) w=.ok Value.nilFunc w:=by intros;kernel_rfl
@[simp] theorem zeroValue139:∀ (w:World),Sem.run prog (Go.zeroValue 139) w=.ok (Value.int IntKind.i64 0) w:=by intros;kernel_rfl
@[simp] theorem zeroValue140:∀ (w:World),Sem.run prog (Go.zeroValue 140) w=.ok (Value.tuple #[Value.int IntKind.i64 0,Value.int IntKind.i64 0]) w:=by intros;kernel_rfl
@[simp] theorem zeroValue148:∀ (w:World),Sem.run prog (Go.zeroValue 148) w=.ok (Value.int IntKind.u64 0) w:=by intros;kernel_rfl
@[simp] theorem zeroValue151:∀ (w:World),Sem.run prog (Go.zeroValue 151) w=.ok (Value.pointer none) w:=by intros;kernel_rfl
@[simp] theorem zeroValue158:∀ (w:World),Sem.run prog (Go.zeroValue 158) w=.ok (Value.pointer none) w:=by intros;kernel_rfl
@[simp] theorem zeroValue159:∀ (w:World),Sem.run prog (Go.zeroValue 159) w=.ok (Value.tuple #[Value.int IntKind.i64 0,Value.int IntKind.i64 0]) w:=by intros;kernel_rfl
end Tw
end
namespace Num
open Go.RowKit
def nr (a b:Int):Int:=if b-(a-a / b*b)<=a-a / b*b then a / b+1 else a / b
def cutI (x low high:Int):Int:=low+x % (high-low+1)
theorem ap5 (x low high:Int) (h:low<=high):low<=cutI x low high/\cutI x low high<=high:=by
 unfold cutI;have h1:=Int.emod_nonneg x (b:=high-low+1) (by omega);have h2:=Int.emod_lt_of_pos x (b:=high-low+1) (by omega);omega
theorem bg6 (x n:Int) (hn:1<=n):x.tmod n % n=x % n/\ -n<x.tmod n/\x.tmod n<n:=by
 have h1:=Int.lt_tmod_of_pos x (b:=n) (by omega);have h2:=Int.tmod_lt_of_pos x (b:=n) (by omega);refine ⟨?_,h1,h2⟩;have h3:=Int.mul_tdiv_add_tmod x n;rw [<-Int.mul_add_emod_self_left n (x.tdiv n) (x.tmod n),h3]
theorem cut (x low high:Int) (w:World) (_ : -9223372036854775808<=x) (_:x<=9223372036854775807) (h1 : -2305843009213693952<=low) (h2:low<=high) (h3:high<=4611686018427387903) (h4:high-low<=4611686018427387903) :
  Calls Tw.prog 5 #[.int .i64 x,.int .i64 low,.int .i64 high] w fun e w'=>e = .returned (.int .i64 (cutI x low high))/\w=w':=by
 obtain ⟨e1,e2,e3⟩:=bg6 x (high-low+1) (by omega);have h5:=Int.emod_nonneg (x.tmod (high-low+1)) (b:=high-low+1) (by omega);have h6:=Int.emod_lt_of_pos (x.tmod (high-low+1)) (b:=high-low+1) (by omega);have H:Hid (low+x.tmod (high-low+1) % (high-low+1)=cutI x low high):=by unfold cutI; rw [e1]; rfl
 clear e1;go_enter Tw.func5,Tw.ntmps5
 go_wp2
 go_ret
 exact ⟨b75 H.out,rfl⟩
end Num
namespace Aff
open Go.RowKit Sx Num
theorem mixed:Tw.prog.follows .mixedOrders=true:=by kernel_rfl
structure Mat where
 a:Int
 b:Int
 c:Int
 d:Int
 e:Int
 f:Int
def inR (x m:Int):Bool:=decide (-m<=x)&&decide (x<=m)
def Mat.ok (m:Mat):Bool:=inR m.a 1048576&&(inR m.b 1048576&&(inR m.c 1048576&&(inR m.d 1048576&&(inR m.e 268435456&&inR m.f 268435456))))
def Mat.imgX (m:Mat) (x y:Int):Int:=nr (m.a*x+m.c*y+m.e) 4096
def Mat.imgY (m:Mat) (x y:Int):Int:=nr (m.b*x+m.d*y+m.f) 4096
def Mat.appE (m:Mat) (x y:Int):Int:=
 if m.ok=false then 3 else if (inR x 32767&&inR y 32767)=false then 3 else if (inR (m.imgX x y) 32767&&inR (m.imgY x y) 32767)=false then 10 else 0
def Mat.out (m n:Mat):Mat:=⟨nr (n.a*m.a+n.c*m.b) 4096,nr (n.b*m.a+n.d*m.b) 4096,nr (n.a*m.c+n.c*m.d) 4096,nr (n.b*m.c+n.d*m.d) 4096,nr (n.a*m.e+n.c*m.f) 4096+n.e,nr (n.b*m.e+n.d*m.f) 4096+n.f⟩
def b69:FSpec:=ab0 5 (γ:=Int×Int×Int) (fun | [.int _ x,.int _ l,.int _ h]=>some (x,l,h) | _=>none) (fun g=>[.int .i64 g.1,.int .i64 g.2.1,.int .i64 g.2.2])
 (fun g=>(-2305843009213693952<=g.2.1/\g.2.1<=g.2.2)/\g.2.2<=4611686018427387903/\g.2.2-g.2.1<=4611686018427387903) (fun g=> .int .i64 (cutI g.1 g.2.1 g.2.2))
theorem bZ4:aa7 Tw.prog b69:=by
 refine ssW (specs:=[]) trivial Tw.func5 (fun _=>A0) ?_;rintro ⟨x,low,high⟩ ⟨⟨h1,h2⟩,h3,h4⟩;simp only at h1 h2 h3 h4
 obtain ⟨e1,e2,e3⟩:=bg6 x (high-low+1) (by omega);have h5:=Int.emod_nonneg (x.tmod (high-low+1)) (b:=high-low+1) (by omega);have h6:=Int.emod_lt_of_pos (x.tmod (high-low+1)) (b:=high-low+1) (by omega);have e4:(x.tmod (high-low+1)+(high-low+1)).tmod (high-low+1)=x % (high-low+1):=by
  rw [Int.tmod_eq_emod_of_nonneg (by omega),Int.add_emod_right,e1]
 refine ad5 (B:=let A:=Aq;let z3:=(high-low+(1:Int)≠(0:Int));let z2:=(9223372036854775807:Int);let z1:=(-9223372036854775808:Int);let z0:=(high-low+(1:Int));True/\True/\True/\A (z1<=high-low/\high-low<=z2)/\A (z1<=high-low+(1:Int)/\high-low+(1:Int)<=z2)/\True/\True/\True/\True/\A z3/\True/\A (z1<=x.tmod z0+z0/\x.tmod z0+z0<=z2)/\True/\A z3/\A (z1<=low+(x.tmod z0+z0).tmod z0/\low+(x.tmod z0+z0).tmod z0<=z2)/\True/\True/\A (IntKind.i64=IntKind.i64)/\A (low+(x.tmod z0+z0).tmod z0=cutI x low high)) ?_;simp only [e4];rw [e1] at h5 h6;simp [bN5,b26,cutI];omega
end Aff
namespace Con
open Go.RowKit Sx Num Aff
def aI (x:Int):Int:=if x<0 then -x else x
structure Pt where
 x:Int
 y:Int
def ptL (p:Pt):List SV:=[.int .i64 p.x,.int .i64 p.y]
def ptS (p:Pt):SV:= .agg 2 (lst (ptL p))
structure NrG where
 a:Pt
 m:Pt
 b:Pt
def Pt.in (p:Pt) (n:Int):Prop:=(-n<=p.x/\p.x<=n)/\ -n<=p.y/\p.y<=n
def b97 (g:NrG):Prop:=((min g.a.x g.b.x-1<=g.m.x/\g.m.x<=max g.a.x g.b.x+1)/\min g.a.y g.b.y-1<=g.m.y/\g.m.y<=max g.a.y g.b.y+1)/\
 aI ((g.b.x-g.a.x)*(g.m.y-g.a.y)-(g.b.y-g.a.y)*(g.m.x-g.a.x))<=max (max (aI (g.b.x-g.a.x)) (aI (g.b.y-g.a.y))) 1
instance (g:NrG):Decidable (b97 g):=by unfold b97; infer_instance
structure Cur where
 x0:Int
 y0:Int
 x1:Int
 y1:Int
 x2:Int
 y2:Int
 w:Int
def inC (x:Int):Prop:= -32767<=x/\x<=32767
def Cur.ok (c:Cur):Prop:=((inC c.x0/\inC c.y0)/\inC c.x1/\inC c.y1)/\(inC c.x2/\inC c.y2)/\16<=c.w/\c.w<=4096
def sumC (w k n:Int):Int:=256*(n-k)*(n-k)+2*k*(n-k)*w+256*k*k
def atC (x0 x1 x2 w k n:Int):Int:=nr (256*(n-k)*(n-k)*x0+2*k*(n-k)*w*x1+256*k*k*x2) (sumC w k n)
def Cur.at (c:Cur) (k n:Int):Pt:=⟨atC c.x0 c.x1 c.x2 c.w k n,atC c.y0 c.y1 c.y2 c.w k n⟩
structure AtG where
 c:Cur
 k:Int
 n:Int
def AtG.ok (g:AtG):Prop:=g.c.ok/\(0<=g.k/\g.k<=g.n)/\1<=g.n/\g.n<=1024
def midP (c:Cur) (n k:Int):Prop:=b97 ⟨c.at k n,c.at (2*k+1) (2*n),c.at (k+1) n⟩
instance (c:Cur) (n k:Int):Decidable (midP c n k):=by unfold midP; infer_instance
structure FlG where
 c:Cur
 n:Int
end Con
namespace Rga
open Go.RowKit Sx Num Aff Con
structure Rn where
 y:Int
 x0:Int
 x1:Int
def rnL (r:Rn):List SV:=[.int .i64 r.y,.int .i64 r.x0,.int .i64 r.x1]
def rnS (r:Rn):SV:= .agg 3 (lst (rnL r))
def rnD (g:Nat->SV):Rn:=⟨Sx.intOf (g 0),Sx.intOf (g 1),Sx.intOf (g 2)⟩
def rI (L:List Rn) (i:Nat):Rn:=L.getD i ⟨0,0,0⟩
structure Rg where
 n:Nat
 f:Nat->Rn
def Rg.L (g:Rg):List Rn:=(List.range g.n).map g.f
def rgS (g:Rg):SV:= .sl g.n 3 (fun i=>lst (rnL (g.f i)))
def ax0 (L:List Rn):SV:= .sl L.length 3 (fun i=>lst (rnL (rI L i)))
def rgD:SV->Nat->Rn
 | .sl _ _ f=>fun i=>rnD (f i)
 | _=>fun _=>⟨0,0,0⟩
theorem Rg.L_of (L:List Rn):Rg.L ⟨L.length,rI L⟩=L:=by
 unfold Rg.L;apply laf
 ·simp
 ·intro i h1 h2;simp [rI,la,lw h2]
theorem Rg.len (g:Rg):g.L.length=g.n:=by simp [Rg.L]
theorem Rg.rI {g:Rg}{i:Nat}(h:i<g.n):rI g.L i=g.f i:=by
 simp [Rga.rI,Rg.L,la,h]
def okR (r:Rn):Prop:=((-8192<=r.y/\r.y<8192)/\(-8192<=r.x0/\r.x0<=8192)/\ -8192<=r.x1/\r.x1<=8192)/\r.x0<r.x1
def ltR (r s:Rn):Prop:=r.y<s.y\/(r.y=s.y/\r.x1<s.x0)
def vld (L:List Rn):Prop:=(∀ r∈L,okR r)/\L.Pairwise ltR
def aM4:FSpec:=ab0 43 (γ:=Int) (fun | [.int _ x]=>some x | _=>none) (fun x=>[.int .i64 x]) (fun _=>True) (fun x=> .bool (decide (-8192<=x)&&decide (x<8192)))
theorem bc3:aa7 Tw.prog aM4:=by
 refine ssW (specs:=[]) trivial Tw.func43 (fun g=>A0) ?_;rintro x hx;refine ad5 (B:=let z0:=(decide ((-8192:Int)<=x)&&decide (x<(8192:Int)));True/\True/\True/\True/\Br (decide ((-8192:Int)<=x)) (True/\True/\True/\True/\True/\Aq (decide (x<(8192:Int))=z0)) (True/\True/\True/\Aq (false=z0))) ?_;simp only [cln];refine ⟨fun h=>?_,fun h=>?_⟩
 ·rw [lj h]; rfl
 ·rw [lg h]; rfl
def aZ6:FSpec:=ab0 19 (γ:=Int) (fun | [.int _ x]=>some x | _=>none) (fun x=>[.int .i64 x]) (fun _=>True) (fun x=> .bool (decide (-8192<=x)&&decide (x<=8192)))
theorem bc4:aa7 Tw.prog aZ6:=by
 refine ssW (specs:=[]) trivial Tw.func19 (fun g=>A0) ?_;rintro x hx;refine ad5 (B:=let z0:=(decide ((-8192:Int)<=x)&&decide (x<=(8192:Int)));True/\True/\True/\True/\Br (decide ((-8192:Int)<=x)) (True/\True/\True/\True/\True/\Aq (decide (x<=(8192:Int))=z0)) (True/\True/\True/\Aq (false=z0))) ?_;simp only [cln];refine ⟨fun h=>?_,fun h=>?_⟩
 ·rw [lj h]; rfl
 ·rw [lg h]; rfl
def bM5 (g:Rg):Inv:=⟨Int,fun i=>0<=i/\i<=g.n,fun i=>⟨[(0,rgS g),(5,rgS g),(6,.int .i64 g.n),(7,.int .i64 i)],[]⟩,fun i=>(g.n-i).toNat⟩
def aA0:FSpec:=ab0 28 (γ:=Rg) (fun | [s]=>some ⟨aj5 s,rgD s⟩ | _=>none) (fun g=>[rgS g]) (fun g=>vld g.L/\g.n<=4294967296) (fun _=> .int .i64 0)
theorem aA7:aa7 Tw.prog aA0:=by
 refine ssW (specs:=[aM4,aZ6]) (⟨bc3,bc4,trivial⟩) Tw.func28 (fun g=>(⟨[(2,.inv (bM5 g))],[]⟩:Ann)) ?_;rintro g hg;refine ad5 (B:=let T4:=fun p:Prop=>True/\True/\True/\True/\p;let T5:=fun p:Prop=>True/\True/\True/\True/\True/\p;let K:=Br;let A:=Aq;let z11:=(↑g.n:Int);let z9:=(bM5 g);let z8:=(1:Int);let z7:=(0:Int);let z1:=(IntKind.i64=IntKind.i64);let q1:=fun p:Int=>A z1/\A (p=p);let z5:=(q1 z11);let z0:=(A (g.n=g.n)/\∀ i:Nat,i<g.n->((True/\q1 ((g.f i).y))/\q1 ((g.f i).x0))/\q1 ((g.f i).x1));T4 ((∃ g_1:Int,A (z9.pre g_1)/\(z0/\z0/\z5/\(A z1/\A (z7=g_1))/\True)/\True)/\∀ g_1:Int,let z10:=(g.f (g_1-z8).toNat);let z6:=(z7<=g_1-z8/\g_1-z8<z11);let z4:=(g.f g_1.toNat);let z3:=((-9223372036854775808:Int)<=g_1+z8/\g_1+z8<=(9223372036854775807:Int));let z2:=((-9223372036854775808:Int)<=g_1-z8/\g_1-z8<=(9223372036854775807:Int)); z9.pre g_1->True/\K (decide (g_1<z11)) (True/\A (z7<=g_1/\g_1<z11)/\T5 (True/\(((q1 z4.y)/\True)/\A True)/\True/\True/\K (!(decide ((-8192:Int)<=z4.y)&&decide (z4.y<(8192:Int)))) (T5 (A z1/\A ((3:Int)=z7))) (True/\True/\(((q1 z4.x0)/\True)/\A True)/\True/\True/\True/\K (!(decide ((-8192:Int)<=z4.x0)&&decide (z4.x0<=(8192:Int)))) (True/\True/\True/\A z1/\A ((3:Int)=z7)) (True/\True/\(((q1 z4.x1)/\True)/\A True)/\True/\True/\K (!(decide ((-8192:Int)<=z4.x1)&&decide (z4.x1<=(8192:Int)))) (True/\True/\A z1/\A ((3:Int)=z7)) (T5 (K (decide (z4.x1<=z4.x0)) (True/\True/\A z1/\A ((4:Int)=z7)) (True/\True/\True/\K (decide (z7<g_1)) (T4 (A z2/\A z6/\T5 (K (decide (z4.y<=z10.y)) (T4 (A z2/\A z6/\T4 (K (decide (z4.y<z10.y)) (T4 (A z1/\A ((18:Int)=z7))) (T4 (A z2/\A z6/\T5 (K (decide (z4.x0<=z10.x1)) (True/\True/\A z1/\A ((18:Int)=z7)) (A z3/\True/\∃ (g':Int),A (z9.pre g')/\((z0/\z0/\z5/\(A z1/\A (g_1+z8=g'))/\True)/\True)/\A (z9.meas g'<z9.meas g_1)))))))) (True/\A z3/\True/\∃ (g':Int),A (z9.pre g')/\((z0/\z0/\z5/\(A z1/\A (g_1+z8=g'))/\True)/\True)/\A (z9.meas g'<z9.meas g_1))))) (True/\True/\True/\A z3/\True/\∃ (g':Int),A (z9.pre g')/\((z0/\z0/\z5/\(A z1/\A (g_1+z8=g'))/\True)/\True)/\A (z9.meas g'<z9.meas g_1))))))))) (True/\True/\q1 z7))) ?_;simp only [cln];obtain ⟨⟨h1,h2⟩,h3⟩:=hg;have ok:∀ i,i<g.n->okR (g.f i):=fun i hi=>h1 _ (xi.2 ⟨i,lH.2 hi,rfl⟩)
 have lt:∀ i,i+1<g.n->ltR (g.f i) (g.f (i+1)):=fun i hi=>by
  have:=um.1 h2 i (i+1) (by rw [Rg.len]; omega) (by rw [Rg.len]; exact hi) (by omega)
  simpa [Rg.L] using this
 refine ⟨⟨0,⟨xl _,Int.natCast_nonneg _⟩,rfl⟩,fun i hi hlt=>?_⟩;have hi:0<=i/\i<=g.n:=hi;obtain ⟨k,rfl⟩:∃ k:Nat,i=k:=⟨i.toNat,by omega⟩
 have e1:((k:Int)).toNat=k:=rfl;have e2:((k:Int)-1).toNat=k-1:=by omega
 have hk:=ok k (by omega);obtain ⟨⟨⟨a1,a2⟩,⟨b1,b2⟩,c1,c2⟩,d1⟩:=hk;rw [e1,e2,lj a1,lj a2,lj b1,lj b2,lj c1,lj c2];have fin:(-9223372036854775808<=(k:Int)+1/\(k:Int)+1<=9223372036854775807)/\∃ g':Int,(bM5 g).pre g'/\(k:Int)+1=g'/\(bM5 g).meas g'<(bM5 g).meas (k:Int):=by
  refine ⟨by omega,(k:Int)+1,⟨by omega,by omega⟩,rfl,?_⟩;show ((g.n:Int)-(k+1)).toNat<((g.n:Int)-k).toNat;omega
 refine ⟨by omega,fun h=>absurd h (by decide),fun _=>⟨fun h=>absurd h (by decide),fun _=>⟨fun h=>absurd h (by decide),fun _=>⟨fun h=>absurd h (by omega),fun _=>⟨fun h0=>?_,fun _=>fin⟩⟩⟩⟩⟩;have hl:=lt (k-1) (by omega);rw [show k-1+1=k by omega] at hl;have q1 : -9223372036854775808<=(k:Int)-1/\(k:Int)-1<=9223372036854775807:=by clear fin; omega
 have q2:0<=(k:Int)-1/\(k:Int)-1<(g.n:Int):=by clear fin; omega
 have hl:(g.f (k-1)).y<(g.f k).y\/((g.f (k-1)).y=(g.f k).y/\(g.f (k-1)).x1<(g.f k).x0):=hl;exact ⟨q1,q2,fun hy=>⟨q1,q2,fun hy2=>absurd hl (by clear fin; omega),fun hy2=>⟨q1,q2,fun hx=>absurd hl (by clear fin; omega),fun _=>fin⟩⟩,fun _=>fin⟩
def addR (L:List Rn) (r:Rn):List Rn:=if r.x0<r.x1 then (match L.getLast? with
 | some s=>if s.y=r.y/\r.x0<=s.x1 then L.dropLast++[⟨s.y,s.x0,if r.x1>s.x1 then r.x1 else s.x1⟩] else L++[r]
 | none=>[r]) else L
theorem bY7 (L:List Rn) (r:Rn) (i:Nat) (h:i<L.length+1):rI (L++[r]) i=if i<L.length then rI L i else r:=by
 unfold rI;by_cases hi:i<L.length
 ·rw [lm hi,la,xe hi,la]
 ·rw [lr hi,show i=L.length by omega];simp
theorem bG1 (L:List Rn) (s:Rn) (i:Nat) (h:i<L.length) (h0:0<L.length):rI (L.dropLast++[s]) i=if i=L.length-1 then s else rI L i:=by
 unfold rI;by_cases hi:i=L.length-1
 ·rw [lm hi,hi];simp
 ·rw [lr hi,la,xe (by rw [xK]; omega),la,List.getElem?_dropLast,lm (by omega)]
structure AdG where
 n:Nat
 f:Nat->Rn
 r:Rn
def AdG.L (g:AdG):List Rn:=addR (Rg.L ⟨g.n,g.f⟩) g.r
def adD:List SV->List SO->Option AdG
 | [_,.int _ y,.int _ x0,.int _ x1],[_,.row _ n _ g _]=>some ⟨n,fun i=>rnD (g i),⟨y,x0,x1⟩⟩
 | _,_=>none
def aV0:FSpec:=af2 20 [.arg 0,.cell 0 0] adD (fun g=>[.own 0 0,.int .i64 g.r.y,.int .i64 g.r.x0,.int .i64 g.r.x1])
 (fun g=>[.cells 1 (lst [.osl 1 0]) 51,.row 0 g.n 3 (fun i=>lst (rnL (g.f i))) 48]) (fun g=>g.n<=4294967296)
 (fun _=> .tup 0 (lst []))
 (fun g=>[.cells 1 (lst [.osl 1 1]) 51,.row 1 g.L.length 3 (fun i=>lst (rnL (rI g.L i))) 48])
theorem aN6:aa7 Tw.prog aV0:=by
 refine smW (specs:=[]) trivial Tw.func20 (fun g=>A0) false ?_;rintro g hg;refine ad5 (B:=let T5:=fun p:Prop=>True/\True/\True/\True/\True/\p;let T10:=fun p:Prop=>True/\True/\True/\True/\True/\True/\True/\True/\True/\True/\p;let K:=Br;let A:=Aq;let z11:=(2:Nat);let z10:=(0:Nat);let z9:=(1:Nat);let z7:=(↑g.n:Int);let z5:=(True/\True);let z4:=(IntKind.i64=IntKind.i64);let z3:=(g.n+z9<=(9223372036854775807:Nat)/\(g.n+z9)*(24:Nat)<=(140737488355328:Nat));let z2:=((0:Int)<=z7-(1:Int)/\z7-(1:Int)<z7);let z1:=(z7-(1:Int));let z8:=(z1.toNat<g.n);let z6:=(g.f z1.toNat);let z0:=(A (g.n+z9=g.L.length)/\∀ i:Nat,i<g.L.length->((True/\A z4/\A ((bif decide (i<g.n) then (g.f i).y else g.r.y)=(rI g.L i).y))/\A z4/\A ((bif decide (i<g.n) then (g.f i).x0 else g.r.x0)=(rI g.L i).x0))/\A z4/\A ((bif decide (i<g.n) then (g.f i).x1 else g.r.x1)=(rI g.L i).x1));True/\True/\True/\K (decide (g.r.x1<=g.r.x0)) (True/\True/\z5/\z5/\(A (g.n=g.L.length)/\∀ i:Nat,i<g.L.length->((True/\A z4/\A ((g.f i).y=(rI g.L i).y))/\A z4/\A ((g.f i).x0=(rI g.L i).x0))/\A z4/\A ((g.f i).x1=(rI g.L i).x1))/\True) (T5 (A ((-9223372036854775808:Int)<=z7-(1:Int)/\z7-(1:Int)<=(9223372036854775807:Int))/\True/\True/\True/\True/\K (decide ((0:Int)<=z7-(1:Int))) (T5 (A z2/\True/\A z8/\True/\True/\True/\True/\K (decide (z6.y=g.r.y)) (T5 (True/\A z2/\True/\A z8/\True/\True/\K (decide (g.r.x0<=z6.x1)) (T10 (A z2/\True/\A z8/\True/\True/\A z2/\True/\A z8/\True/\True/\z5/\z5/\(A (g.n=g.L.length)/\∀ i:Nat,i<g.L.length->((True/\A z4/\A ((bif decide (i=z1.toNat/\z10+z11<=z10/\z10<z10+z11+z9) then if g.r.x1>z6.x1 then g.r.x1 else z6.x1 else (g.f i).y)=(rI g.L i).y))/\A z4/\A ((bif decide (i=z1.toNat/\z10+z11<=z9/\z9<z10+z11+z9) then if g.r.x1>z6.x1 then g.r.x1 else z6.x1 else (g.f i).x0)=(rI g.L i).x0))/\A z4/\A ((bif decide (i=z1.toNat/\z10+z11<=z11/\z11<z10+z11+z9) then if g.r.x1>z6.x1 then g.r.x1 else z6.x1 else (g.f i).x1)=(rI g.L i).x1))/\True)) (T10 (A z3/\T5 (z5/\z5/\z0/\True))))) (T10 (True/\A z3/\T5 (z5/\z5/\z0/\True))))) (T10 (True/\True/\True/\A z3/\T5 (z5/\z5/\z0/\True)))))) ?_;simp only [cln];have hlen:(Rg.L ⟨g.n,g.f⟩).length=g.n:=Rg.len _;have hget:∀ i,i<g.n->rI (Rg.L ⟨g.n,g.f⟩) i=g.f i:=fun i hi=>Rg.rI (g:=⟨g.n,g.f⟩) hi
 have hL:g.L=addR (Rg.L ⟨g.n,g.f⟩) g.r:=rfl;generalize Rg.L ⟨g.n,g.f⟩=L at hlen hget hL;rw [hL];have app:∀ (i:Nat),i<(L++[g.r]).length->((bif decide (i<g.n) then (g.f i).y else g.r.y)=(rI (L++[g.r]) i).y/\(bif decide (i<g.n) then (g.f i).x0 else g.r.x0)=(rI (L++[g.r]) i).x0)/\(bif decide (i<g.n) then (g.f i).x1 else g.r.x1)=(rI (L++[g.r]) i).x1:=fun i hi=>by
  rw [bY7 L g.r i (by simpa using hi),hlen];by_cases h:i<g.n
  ·rw [lj h,lm h,hget i h]; exact ⟨⟨rfl,rfl⟩,rfl⟩
  ·rw [lg h,lr h]; exact ⟨⟨rfl,rfl⟩,rfl⟩
 have bnd:g.n+1<=9223372036854775807/\(g.n+1)*24<=140737488355328:=by omega
 have e1:((g.n:Int)-1).toNat=g.n-1:=by omega
 rw [e1];refine ⟨fun h=>?_,fun h=>⟨by omega,fun h0=>?_,fun h0=>?_⟩⟩
 ·have e:addR L g.r=L:=lr (by omega);rw [e];exact ⟨hlen.symm,fun i hi=>by rw [hget i (by omega)]; exact ⟨⟨rfl,rfl⟩,rfl⟩⟩
 ·have hn:0<g.n:=by omega
  have hlast:L.getLast?=some (g.f (g.n-1)):=by
   rw [<-hget (g.n-1) (by omega),List.getLast?_eq_getElem?,hlen];unfold rI;rw [la,lw (show g.n-1<L.length by omega)];rfl
  have ea:addR L g.r=if (g.f (g.n-1)).y=g.r.y/\g.r.x0<=(g.f (g.n-1)).x1 then L.dropLast++[⟨(g.f (g.n-1)).y,(g.f (g.n-1)).x0,if g.r.x1>(g.f (g.n-1)).x1 then g.r.x1 else (g.f (g.n-1)).x1⟩] else L++[g.r]:=by
   unfold addR;rw [lm (by omega),hlast]
  have q1:0<=(g.n:Int)-1/\(g.n:Int)-1<g.n:=by omega
  have q2:g.n-1<g.n:=by omega
  refine ⟨q1,q2,fun hy=>⟨q1,q2,fun hx=>⟨q1,q2,q1,q2,?_⟩,fun hx=>⟨bnd,?_⟩⟩,fun hy=>⟨bnd,?_⟩⟩
  ·rw [ea,lm ⟨hy,hx⟩];refine ⟨by rw [lx,xK,xG]; omega,fun i hi=>?_⟩;rw [bG1 L _ i (by rw [lx,xK,xG] at hi; omega) (by omega),hlen];by_cases h:i=g.n-1
   ·rw [lg (by omega),lg (by omega),lj ⟨h,by omega⟩,lm h,h];exact ⟨⟨rfl,rfl⟩,rfl⟩
   ·rw [lg (by omega),lg (by omega),lg (by omega),lr h,hget i (by rw [lx,xK,xG] at hi; omega)];exact ⟨⟨rfl,rfl⟩,rfl⟩
  ·rw [ea,lr (fun h=>hx h.2)];exact ⟨by simp [hlen],app⟩
  ·rw [ea,lr (fun h=>hy h.1)];exact ⟨by simp [hlen],app⟩
 ·have hn:g.n=0:=by omega
  have eL:L=[]:=uv.1 (by omega);have ea:addR L g.r=L++[g.r]:=by
   unfold addR;rw [lm (by omega),eL];rfl
  rw [ea];exact ⟨bnd,by simp [hlen],app⟩
def orI (a b:Int):Int:=if a=0 then b else a
def spOr:FSpec:=ab0 46 (γ:=Nat->Int) (fun | [.sl _ _ f]=>some (fun i=>Sx.intOf (f i 0)) | _=>none) (fun f=>[.sl 2 1 (fun i=>lst [.int .i64 (f i)])]) (fun _=>True) (fun f=> .int .i64 (orI (f 0) (f 1)))
theorem cl2:aa7 Tw.prog spOr:=by
 refine ssW (specs:=[]) trivial Tw.func46 (fun g=>(⟨[(3,.rounds 3)],[]⟩:Ann)) ?_;rintro g hg;refine ad5 (B:=let T5:=fun p:Prop=>True/\True/\True/\True/\True/\p;let A:=Aq;let z2:=(1:Int);let z1:=(IntKind.i64=IntKind.i64);let z0:=(0:Int);T5 (True/\A (z0<=z0/\z0<(↑(2:Nat):Int))/\T5 (Br (decide (g (Int.toNat z0)≠z0)) (True/\True/\True/\A z1/\A (g (Int.toNat z0)=orI (g (0:Nat)) (g (1:Nat)))) (A ((-9223372036854775808:Int)<=z0+z2/\z0+z2<=(9223372036854775807:Int))/\True/\True/\A (z0<=z0+z2/\z0+z2<(↑(2:Nat):Int))/\T5 (Br (decide (g (z0+z2).toNat≠z0)) (True/\True/\True/\A z1/\A (g (z0+z2).toNat=orI (g (0:Nat)) (g (1:Nat)))) (A ((-9223372036854775808:Int)<=z0+z2+z2/\z0+z2+z2<=(9223372036854775807:Int))/\T5 (A z1/\A (z0=orI (g (0:Nat)) (g (1:Nat)))))))))) ?_;simp only [cln];refine ⟨by decide,fun h=>?_,fun h=>⟨by decide,by decide,fun h2=>?_,fun h2=>⟨by decide,?_⟩⟩⟩
 ·unfold orI; exact (lr h).symm
 ·have h':g 0=0:=Classical.not_not.1 h;unfold orI; exact (lm h').symm
 ·have h':g 0=0:=Classical.not_not.1 h;have h3:g 1=0:=Classical.not_not.1 h2;unfold orI; rw [lm h',h3]
structure Eg where
 y:Int
 x:Int
 who:Int
def egL (e:Eg):List SV:=[.int .i64 e.y,.int .i64 e.x,.int .i64 e.who]
structure EsG where
 g:Rg
 w:Int
def eX (f:Nat->Rn) (k:Nat):Int:=if k % 2=0 then (f (k / 2)).x0 else (f (k / 2)).x1
def eAt (f:Nat->Rn) (w:Int) (k:Nat):Eg:=⟨(f (k / 2)).y,eX f k,w⟩
def bz0 (g:EsG):Inv:=⟨Int,fun i=>0<=i/\i<=g.g.n,fun i=>⟨[(1,.int .i64 g.w),(5,.osl 0 0),(12,rgS g.g),(13,.int .i64 g.g.n),(14,.int .i64 i)],[.row 0 (2*i.toNat) 3 (fun k=>lst [.int .i64 (g.g.f (k / 2)).y,.int .i64 (eX g.g.f k),.int .i64 g.w]) 131]⟩,fun i=>(g.g.n-i).toNat⟩
def bj0:FSpec:=ab0 78 (γ:=EsG) (fun | [s,.int _ w]=>some ⟨⟨aj5 s,rgD s⟩,w⟩ | _=>none) (fun g=>[rgS g.g,.int .i64 g.w]) (fun g=>g.g.n<=4294967296) (fun g=> .sl (2*g.g.n) 3 (fun k=>lst [.int .i64 (g.g.f (k / 2)).y,.int .i64 (eX g.g.f k),.int .i64 g.w]))
theorem bq7:aa7 Tw.prog bj0:=by
 refine ssW (specs:=[]) trivial Tw.func78 (fun g=>(⟨[(3,.inv (bz0 g))],[]⟩:Ann)) ?_;rintro g hg;refine ad5 (B:=let A:=Aq;let z6:=(0:Int);let z5:=(9223372036854775807:Int);let z3:=(↑g.g.n:Int);let z2:=(2:Nat);let z0:=(IntKind.i64=IntKind.i64);let q0:=fun p:Int=>A z0/\A (p=p);let z1:=(A (g.g.n=g.g.n)/\∀ i:Nat,i<g.g.n->((True/\q0 ((g.g.f i).y))/\q0 ((g.g.f i).x0))/\q0 ((g.g.f i).x1));True/\True/\True/\A ((-9223372036854775808:Int)<=(2:Int)*z3/\(2:Int)*z3<=z5)/\A (z6<=z6/\z6<=(2:Int)*z3/\(↑(24:Nat):Int)*((2:Int)*z3)<=(140737488355328:Int)/\(2:Int)*z3<=z5)/\True/\True/\True/\True/\(∃ g_1:Int,A ((bz0 g).pre g_1)/\((q0 g.w)/\True/\z1/\(q0 z3)/\(A z0/\A (z6=g_1))/\True)/\(A (Int.toNat z6=z2*g_1.toNat)/\∀ i:Nat,i<z2*g_1.toNat->((True/\A z0/\A (z6=(g.g.f (i / z2)).y))/\A z0/\A (z6=eX g.g.f i))/\A z0/\A (z6=g.w))/\True)/\∀ g_1:Int,let z7:=(g.g.f g_1.toNat); (bz0 g).pre g_1->True/\Br (decide (g_1<z3)) (A (z6<=g_1/\g_1<z3)/\True/\True/\True/\True/\True/\True/\True/\True/\True/\True/\True/\True/\True/\True/\True/\True/\True/\A (z2*g_1.toNat+z2<=(9223372036854775807:Nat)/\(z2*g_1.toNat+z2)*(24:Nat)<=(140737488355328:Nat))/\True/\A ((-9223372036854775808:Int)<=g_1+(1:Int)/\g_1+(1:Int)<=z5)/\True/\∃ (g':Int),A ((bz0 g).pre g')/\(((q0 g.w)/\True/\z1/\(q0 z3)/\(A z0/\A (g_1+(1:Int)=g'))/\True)/\(A (z2*g_1.toNat+z2=z2*g'.toNat)/\∀ i:Nat,let z8:=(i<z2*g_1.toNat);let z4:=(i-z2*g_1.toNat=(1:Nat)); i<z2*g'.toNat->((True/\A z0/\A ((bif decide z8 then (g.g.f (i / z2)).y else bif decide z4 then z7.y else z7.y)=(g.g.f (i / z2)).y))/\A z0/\A ((bif decide z8 then eX g.g.f i else bif decide z4 then z7.x1 else z7.x0)=eX g.g.f i))/\A z0/\A ((bif decide z8 then g.w else bif decide z4 then g.w else g.w)=g.w))/\True)/\A ((bz0 g).meas g'<(bz0 g).meas g_1)) (True/\True/\True/\A (z2*g_1.toNat=z2*g.g.n)/\∀ i:Nat,i<z2*g.g.n->((True/\q0 ((g.g.f (i / z2)).y))/\q0 (eX g.g.f i))/\q0 g.w)) ?_;simp only [cln];have z0:Int.toNat 0=0:=rfl;refine ⟨by omega,by omega,⟨0,⟨xl _,Int.natCast_nonneg _⟩,rfl,rfl,fun i hi=>absurd hi (by omega)⟩,fun i hi=>?_⟩;have hi:0<=i/\i<=g.g.n:=hi;refine ⟨fun hlt=>⟨⟨hi.1,hlt⟩,by omega,by omega,i+1,⟨by omega,by omega⟩,⟨rfl,by omega,fun k hk=>?_⟩,?_⟩,fun hge=>by omega⟩
 ·have hk:k<2*(i+1).toNat:=hk;by_cases h:k<2*i.toNat
  ·rw [lj h]; exact ⟨⟨rfl,rfl⟩,rfl⟩
  ·rw [lg h];have e:k / 2=i.toNat:=by omega
   by_cases h1:k-2*i.toNat=1
   ·rw [lj h1];refine ⟨⟨by rw [e]; rfl,?_⟩,rfl⟩;unfold eX;rw [lr (by omega),e];rfl
   ·rw [lg h1];refine ⟨⟨by rw [e]; rfl,?_⟩,rfl⟩;unfold eX;rw [lm (by omega),e];rfl
 ·show ((g.g.n:Int)-(i+1)).toNat<((g.g.n:Int)-i).toNat;omega
end Rga
namespace Gat
open Go.RowKit Sx Num Aff Con Rga
def b94:NSpec:=mkNS 22 (γ:=Unit) (fun | []=>some () | _=>none) (fun _=>[]) (fun _=>True) (fun _=> .own 0 0) (fun _=>[.cells 4 (lst [.omap 1,.cap0,.cap0,.lit false]) 75,.mpi (.arr 8 .u8) false (fun _=>false) (fun _=> .any)])
theorem cl6:NewsOK Tw.prog b94:=by
 refine ba6 (specs:=[]) (at7 trivial) (eqs:=[]) (fun _ _ h=>(xf h).elim) Aff.mixed Tw.func22 rfl (by kernel_rfl) (fun _ _=>by kernel_rfl) (fun g=>A0) (fun g=>[1,0]) (fun g=>lN (by kernel_rfl)) ?_;rintro _ _;refine ad5 (B:=True/\True/\True/\True/\True/\True/\(Aq ((0:Nat)=(0:Nat))/\True)/\((((True/\True)/\True)/\True)/\Aq (false=false))/\(∀ (l:List Int),l.length=(8:Nat)->Aq (false=false)/\((false||false)=true->True))/\True) ?_;simp only [cln];done
structure AaG where
 n:Nat
 m:Nat->Nat
 p:Nat->Nat->Rn
 i:Nat
 g:AdG
def ptS (g:AaG) (v:Nat):SO:= .deep 0 g.n 1 3 g.m (fun k i=>lst (rnL (g.p k i))) (fun _=>lst []) 51 48 (some (g.i,.osl 1 v))
def aaD:List SV->List SO->Option AaG
 | [.ownAt _ _ i _ _,.int _ y,.int _ x0,.int _ x1],[.deep _ n _ _ m p _ _ _ _,.row _ len _ f _]=>some ⟨n,m,fun k j=>rnD (p k j),i,⟨len,fun j=>rnD (f j),⟨y,x0,x1⟩⟩⟩
 | _,_=>none
def bE8:FSpec:=af2 20 [.arg 0,.hole 0] aaD (fun g=>[.ownAt 0 0 g.i 1 0,.int .i64 g.g.r.y,.int .i64 g.g.r.x0,.int .i64 g.g.r.x1])
 (fun g=>[ptS g 0,.row 0 g.g.n 3 (fun i=>lst (rnL (g.g.f i))) 48]) (fun g=>g.i<g.n/\g.g.n<=4294967296)
 (fun _=> .tup 0 (lst []))
 (fun g=>[ptS g 1,.row 1 g.g.L.length 3 (fun i=>lst (rnL (rI g.g.L i))) 48])
theorem bS5:aa7 Tw.prog bE8:=by
 refine smW (specs:=[]) trivial Tw.func20 (fun g=>A0) false ?_;rintro ⟨gn,gm,gp,gi,g⟩ hg;refine ad5 (B:=let T2:=fun p:Prop=>True/\True/\p;let T4:=fun p:Prop=>True/\True/\True/\True/\p;let T5:=fun p:Prop=>True/\True/\True/\True/\True/\p;let K:=Br;let A:=Aq;let z13:=(2:Nat);let z12:=(0:Nat);let z11:=(1:Nat);let z9:=(True/\True);let z8:=(↑g.n:Int);let z6:=(gi<gn/\gi=gi);let z5:=(g.n+z11<=(9223372036854775807:Nat)/\(g.n+z11)*(24:Nat)<=(140737488355328:Nat));let z4:=((0:Int)<=z8-(1:Int)/\z8-(1:Int)<z8);let z3:=(IntKind.i64=IntKind.i64);let q3:=fun p:Int=>A z3/\A (p=p);let z2:=(z8-(1:Int));let z10:=(z2.toNat<g.n);let z7:=(g.f z2.toNat);let z1:=(A (g.n+z11=g.L.length)/\∀ i:Nat,i<g.L.length->((True/\A z3/\A ((bif decide (i<g.n) then (g.f i).y else g.r.y)=(rI g.L i).y))/\A z3/\A ((bif decide (i<g.n) then (g.f i).x0 else g.r.x0)=(rI g.L i).x0))/\A z3/\A ((bif decide (i<g.n) then (g.f i).x1 else g.r.x1)=(rI g.L i).x1));let z0:=(A (gn=gn)/\(A (gi=gi)/\True)/\(∀ i:Nat,i<gn->i≠gi->A (gm i=gm i)/\∀ (i':Nat),i'<gm i->((True/\q3 ((gp i i').y))/\q3 ((gp i i').x0))/\q3 ((gp i i').x1))/\∀ i:Nat,i<gn->True);T2 (True/\K (decide (g.r.x1<=g.r.x0)) (T2 (z9/\z0/\(A (g.n=g.L.length)/\∀ i:Nat,i<g.L.length->((True/\A z3/\A ((g.f i).y=(rI g.L i).y))/\A z3/\A ((g.f i).x0=(rI g.L i).x0))/\A z3/\A ((g.f i).x1=(rI g.L i).x1))/\True)) (T2 (True/\A z6/\True/\A ((-9223372036854775808:Int)<=z8-(1:Int)/\z8-(1:Int)<=(9223372036854775807:Int))/\T4 (K (decide ((0:Int)<=z8-(1:Int))) (T2 (True/\A z6/\True/\A z4/\True/\A z10/\T4 (K (decide (z7.y=g.r.y)) (T4 (A z6/\True/\A z4/\True/\A z10/\T2 (K (decide (g.r.x0<=z7.x1)) (T2 (True/\A z6/\T4 (A z6/\True/\A z4/\True/\A z10/\T2 (A z4/\True/\A z10/\T2 (z9/\z0/\(A (g.n=g.L.length)/\∀ i:Nat,i<g.L.length->((True/\A z3/\A ((bif decide (i=z2.toNat/\z12+z13<=z12/\z12<z12+z13+z11) then if g.r.x1>z7.x1 then g.r.x1 else z7.x1 else (g.f i).y)=(rI g.L i).y))/\A z3/\A ((bif decide (i=z2.toNat/\z12+z13<=z11/\z11<z12+z13+z11) then if g.r.x1>z7.x1 then g.r.x1 else z7.x1 else (g.f i).x0)=(rI g.L i).x0))/\A z3/\A ((bif decide (i=z2.toNat/\z12+z13<=z13/\z13<z12+z13+z11) then if g.r.x1>z7.x1 then g.r.x1 else z7.x1 else (g.f i).x1)=(rI g.L i).x1))/\True))))) (T4 (A z6/\T5 (A z5/\T2 (A z6/\T2 (z9/\z0/\z1/\True)))))))) (T5 (A z6/\T5 (A z5/\T2 (A z6/\T2 (z9/\z0/\z1/\True)))))))) (T5 (T2 (A z6/\T5 (A z5/\T2 (A z6/\T2 (z9/\z0/\z1/\True))))))))))) ?_;simp only [cln];have hin:gi<gn:=hg.1;have hg:g.n<=4294967296:=hg.2;simp only [hin,true_and];have hlen:(Rg.L ⟨g.n,g.f⟩).length=g.n:=Rg.len _;have hget:∀ i,i<g.n->rI (Rg.L ⟨g.n,g.f⟩) i=g.f i:=fun i hi=>Rg.rI (g:=⟨g.n,g.f⟩) hi
 have hL:g.L=addR (Rg.L ⟨g.n,g.f⟩) g.r:=rfl;generalize Rg.L ⟨g.n,g.f⟩=L at hlen hget hL;rw [hL];have app:∀ (i:Nat),i<(L++[g.r]).length->((bif decide (i<g.n) then (g.f i).y else g.r.y)=(rI (L++[g.r]) i).y/\(bif decide (i<g.n) then (g.f i).x0 else g.r.x0)=(rI (L++[g.r]) i).x0)/\(bif decide (i<g.n) then (g.f i).x1 else g.r.x1)=(rI (L++[g.r]) i).x1:=fun i hi=>by
  rw [bY7 L g.r i (by simpa using hi),hlen];by_cases h:i<g.n
  ·rw [lj h,lm h,hget i h]; exact ⟨⟨rfl,rfl⟩,rfl⟩
  ·rw [lg h,lr h]; exact ⟨⟨rfl,rfl⟩,rfl⟩
 have bnd:g.n+1<=9223372036854775807/\(g.n+1)*24<=140737488355328:=by omega
 have e1:((g.n:Int)-1).toNat=g.n-1:=by omega
 rw [e1];refine ⟨fun h=>?_,fun h=>⟨by omega,fun h0=>?_,fun h0=>?_⟩⟩
 ·have e:addR L g.r=L:=lr (by omega);rw [e];exact ⟨hlen.symm,fun i hi=>by rw [hget i (by omega)]; exact ⟨⟨rfl,rfl⟩,rfl⟩⟩
 ·have hn:0<g.n:=by omega
  have hlast:L.getLast?=some (g.f (g.n-1)):=by
   rw [<-hget (g.n-1) (by omega),List.getLast?_eq_getElem?,hlen];unfold rI;rw [la,lw (show g.n-1<L.length by omega)];rfl
  have ea:addR L g.r=if (g.f (g.n-1)).y=g.r.y/\g.r.x0<=(g.f (g.n-1)).x1 then L.dropLast++[⟨(g.f (g.n-1)).y,(g.f (g.n-1)).x0,if g.r.x1>(g.f (g.n-1)).x1 then g.r.x1 else (g.f (g.n-1)).x1⟩] else L++[g.r]:=by
   unfold addR;rw [lm (by omega),hlast]
  have q1:0<=(g.n:Int)-1/\(g.n:Int)-1<g.n:=by omega
  have q2:g.n-1<g.n:=by omega
  refine ⟨q1,q2,fun hy=>⟨q1,q2,fun hx=>⟨q1,q2,q1,q2,?_⟩,fun hx=>⟨bnd,?_⟩⟩,fun hy=>⟨bnd,?_⟩⟩
  ·rw [ea,lm ⟨hy,hx⟩];refine ⟨by rw [lx,xK,xG]; omega,fun i hi=>?_⟩;rw [bG1 L _ i (by rw [lx,xK,xG] at hi; omega) (by omega),hlen];by_cases h:i=g.n-1
   ·rw [lg (by omega),lg (by omega),lj ⟨h,by omega⟩,lm h,h];exact ⟨⟨rfl,rfl⟩,rfl⟩
   ·rw [lg (by omega),lg (by omega),lg (by omega),lr h,hget i (by rw [lx,xK,xG] at hi; omega)];exact ⟨⟨rfl,rfl⟩,rfl⟩
  ·rw [ea,lr (fun h=>hx h.2)];exact ⟨by simp [hlen],app⟩
  ·rw [ea,lr (fun h=>hy h.1)];exact ⟨by simp [hlen],app⟩
 ·have hn:g.n=0:=by omega
  have eL:L=[]:=uv.1 (by omega);have ea:addR L g.r=L++[g.r]:=by
   unfold addR;rw [lm (by omega),eL];rfl
  rw [ea];exact ⟨bnd,by simp [hlen],app⟩
structure Gt where
 has:List Int->Bool
 val:List Int->Int
 n:Nat
 m:Nat->Nat
 p:Nat->Nat->Rn
 ink:Nat->Nat->Int
 full:Bool
def kOf (v:Nat->Int):List Int:=[v 0,v 1,v 2,v 3,v 4,v 5,v 6,v 7]
def nul:List Int:=[0,0,0,0,0,0,0,0]
def grw (G:Gt) (k:Nat) (r:Rn):List Rn:=addR (Rg.L ⟨G.m k,G.p k⟩) r
def putP (G:Gt) (k:Nat) (L:List Rn):Gt:={ G with m:=updN G.m k L.length,p:=fun i j=>bif decide (i=k) then rI L j else G.p i j }
def fresh (G:Gt) (v:Nat->Int):Gt:={ G with has:=putH G.has (kOf v),val:=fun l=>bif decide (l=kOf v) then (G.n:Int) else G.val l,n:=G.n+1,m:=updN G.m G.n 0,ink:=fun i j=>bif decide (i<G.n) then G.ink i j else v j }
def nxtB (G:Gt) (v:Nat->Int) (r:Rn):Gt:=
 if kOf v=nul\/G.full=true then G
 else if G.has (kOf v)=true then putP G (G.val (kOf v)).toNat (grw G (G.val (kOf v)).toNat r)
 else if G.n=4096 then { G with full:=true }
 else putP (fresh G v) G.n (grw (fresh G v) G.n r)
theorem bZ9:∃ f,f=nxtB:=⟨_,rfl⟩
noncomputable def nxt:Gt->(Nat->Int)->Rn->Gt:=Classical.choose bZ9
theorem bI3:nxt=nxtB:=Classical.choose_spec bZ9
def vcS (v:Nat->Int):SV:= .agg 8 (fun j=> .int .u8 (v j))
def vcD:SV->Nat->Int
 | .agg _ g=>fun j=>Sx.intOf (g j)
 | _=>fun _=>0
def gaO (G:Gt) (v2 v3:Nat):List SO:=
 [.cells 4 (lst [.omap 1,.osl 2 v2,.osl 3 v3,.bool G.full]) 75,
   .mpi (.arr 8 .u8) false G.has (fun l=> .int .i64 (G.val l)),
   .deep v2 G.n 1 3 G.m (fun k i=>lst (rnL (G.p k i))) (fun _=>lst []) 51 48 none,
   .row v3 G.n 8 (fun i j=> .int .u8 (G.ink i j)) 26]
def gtD:List SO->Option Gt
 | [.cells _ c _,.mpi _ _ has val,.deep _ n _ _ m p _ _ _ _,.row _ _ _ ink _]=>some ⟨has,fun l=>Sx.intOf (val l),n,m,fun k j=>rnD (p k j),fun i j=>Sx.intOf (ink i j),bg8 (c 3)⟩
 | _=>none
structure Gok (B:Nat) (G:Gt):Prop where
 n:G.n<=4096
 m:∀ k,G.m k<=B
 val:∀ l,G.has l=true->0<=G.val l/\G.val l<G.n
structure GaG where
 G:Gt
 v:Nat->Int
 r:Rn
def gaD:List SV->List SO->Option GaG
 | [_,v,.int _ y,.int _ x0,.int _ x1],os=>match gtD os with
  | some G=>some ⟨G,vcD v,⟨y,x0,x1⟩⟩
  | none=>none
 | _,_=>none
theorem zer (v:Nat->Int):(decide (v 0=0)&&(decide (v 1=0)&&(decide (v 2=0)&&(decide (v 3=0)&&(decide (v 4=0)&&(decide (v 5=0)&&(decide (v 6=0)&&(decide (v 7=0)&&true))))))))=decide (kOf v=nul):=by
 rw [uS];simp [kOf,nul]
theorem br4 (v:Nat->Int):[v 0,v 1,v 2,v 3,v 4,v 5,v 6,v 7]=kOf v:=rfl
noncomputable def bX6:FSpec:=af2 37 [.arg 0,.cell 0 0,.cell 0 1,.cell 0 2] gaD (fun g=>[.own 0 0,vcS g.v,.int .i64 g.r.y,.int .i64 g.r.x0,.int .i64 g.r.x1])
 (fun g=>gaO g.G 0 0) (fun g=>Gok 4294967295 g.G)
 (fun _=> .tup 0 (lst []))
 (fun g=>gaO (nxt g.G g.v g.r) 1 1)
abbrev eqI:List (TypeId×List CK):=[(26,[.int,.int,.int,.int,.int,.int,.int,.int])]
theorem bs0:bW5 Tw.prog eqI:=⟨cc2 (m:=8) (by kernel_rfl) (by kernel_rfl) rfl (by decide) (by kernel_rfl),trivial⟩
theorem b89:aa7 Tw.prog bX6:=by
 refine aw9 (specs:=[bE8]) (at7 ⟨bS5,trivial⟩) (eqs:=eqI) (all_eq bs0) Aff.mixed Tw.func37 rfl (by kernel_rfl) (fun _ _=>by kernel_rfl) (fun g=>(⟨[(4000008,.order [0,1,2,3,4,5,6,7,9,10,11,12,13,14,8,15,16,17,18,19,20,21])],[(1000008,[.aD1 2]),(9,[.focus 2 10]),(1000009,[.aD1 2])]⟩:Ann)) false (fun g=>lN (by kernel_rfl)) ?_;rintro g hg;refine ad5 (B:=let T5:=fun p:Prop=>True/\True/\True/\True/\True/\p;let K:=Br;let A:=Aq;let z25:=(8:Nat);let z24:=(True/\True);let z23:=(0:Int);let z10:=(1:Nat);let z8:=(IntKind.u8=IntKind.u8);let z7:=(↑g.G.n:Int);let z5:=(0:Nat);let z29:=(z5+z10);let z22:=(z5+(7:Nat));let z21:=(z5+(6:Nat));let z20:=(z5+(5:Nat));let z19:=(z5+(4:Nat));let z18:=(z5+(3:Nat));let z17:=(z5+(2:Nat));let z9:=(bif decide (z7.toNat=g.G.n) then z5 else g.G.m z7.toNat);let z14:=(AdG.mk z9 (g.G.p z7.toNat) g.r);let z3:=(IntKind.i64=IntKind.i64);let q3:=fun p:Int=>A z3/\A (p=p);let z32:=(q3 g.r.y);let z31:=(q3 g.r.x1);let z30:=(q3 g.r.x0);let z2:=(nxt g.G g.v g.r);let z11:=(((z24/\True)/\True)/\A (g.G.full=z2.full));let z6:=(∀ (l:List Int),l.length=z25->A (g.G.has l=z2.has l)/\((z2.has l||false)=true->A z3/\A (g.G.val l=z2.val l)));let z4:=(A (g.G.n=z2.n)/\(∀ i:Nat,i<z2.n->A (g.G.m i=z2.m i)/\∀ (i':Nat),i'<z2.m i->((True/\A z3/\A ((g.G.p i i').y=(z2.p i i').y))/\A z3/\A ((g.G.p i i').x0=(z2.p i i').x0))/\A z3/\A ((g.G.p i i').x1=(z2.p i i').x1))/\∀ i:Nat,i<z2.n->True);let z1:=(A (g.G.n=z2.n)/\∀ i:Nat,i<z2.n->(((((((True/\A z8/\A (g.G.ink i z5=z2.ink i z5))/\A z8/\A (g.G.ink i z10=z2.ink i z10))/\A z8/\A (g.G.ink i (2:Nat)=z2.ink i (2:Nat)))/\A z8/\A (g.G.ink i (3:Nat)=z2.ink i (3:Nat)))/\A z8/\A (g.G.ink i (4:Nat)=z2.ink i (4:Nat)))/\A z8/\A (g.G.ink i (5:Nat)=z2.ink i (5:Nat)))/\A z8/\A (g.G.ink i (6:Nat)=z2.ink i (6:Nat)))/\A z8/\A (g.G.ink i (7:Nat)=z2.ink i (7:Nat)));let z0:=(bif g.G.has [g.v (z5+z5),g.v z29,g.v z17,g.v z18,g.v z19,g.v z20,g.v z21,g.v z22] then g.G.val [g.v (z5+z5),g.v z29,g.v z17,g.v z18,g.v z19,g.v z20,g.v z21,g.v z22] else z23);let z13:=(AdG.mk (g.G.m z0.toNat) (g.G.p z0.toNat) g.r);T5 (K (decide (g.v (z5+z5)=z23)&&(decide (g.v (z5+z29)=z23)&&(decide (g.v (z5+(z5+z10+z10))=z23)&&(decide (g.v (z5+(z5+z10+z10+z10))=z23)&&(decide (g.v (z5+(z5+z10+z10+z10+z10))=z23)&&(decide (g.v (z5+(z5+z10+z10+z10+z10+z10))=z23)&&(decide (g.v (z5+(z5+z10+z10+z10+z10+z10+z10))=z23)&&(decide (g.v (z5+(z5+z10+z10+z10+z10+z10+z10+z10))=z23)&&true)))))))) (True/\True/\True/\z24/\z11/\z6/\z4/\z1/\True) (T5 (K g.G.full (True/\True/\z24/\z11/\z6/\z4/\z1/\True) (T5 (T5 (True/\True/\True/\K (!g.G.has [g.v (z5+z5),g.v z29,g.v z17,g.v z18,g.v z19,g.v z20,g.v z21,g.v z22]) (T5 (True/\K (decide (z7=(4096:Int))) (T5 (True/\z24/\(((z24/\True)/\True)/\A (true=z2.full))/\z6/\z4/\z1/\True)) (T5 (T5 (T5 (T5 (T5 (True/\True/\A (g.G.n+z10<=(9223372036854775807:Nat)/\(g.G.n+z10)*(24:Nat)<=(140737488355328:Nat))/\A (g.G.n+z10<=(9223372036854775807:Nat)/\(g.G.n+z10)*z25<=(140737488355328:Nat))/\T5 (T5 (True/\A (z23<=z7/\z7<(↑(g.G.n+z10):Int))/\True/\True/\True/\(((True/\((A (z7.toNat=z7.toNat)/\A (z5=z5))/\z32/\z30/\z31/\True)/\(A (g.G.n+z10=g.G.n+z10)/\(A (z7.toNat=z7.toNat)/\True)/\(∀ i:Nat,i<g.G.n+z10->i≠z7.toNat->A ((bif decide (i=g.G.n) then z5 else g.G.m i)=bif decide (i=g.G.n) then z5 else g.G.m i)/\∀ (i':Nat),let z27:=(g.G.p i i'); (i'<bif decide (i=g.G.n) then z5 else g.G.m i)->((True/\q3 z27.y)/\q3 z27.x0)/\q3 z27.x1)/\∀ i:Nat,i<g.G.n+z10->True)/\(A (z9=bif decide (z7.toNat=g.G.n) then z5 else g.G.m z7.toNat)/\∀ i:Nat,let z15:=(g.G.p z7.toNat i); (i<bif decide (z7.toNat=g.G.n) then z5 else g.G.m z7.toNat)->((True/\q3 z15.y)/\q3 z15.x0)/\q3 z15.x1)/\True)/\A (z7.toNat<g.G.n+z10/\z9<=(4294967296:Nat)))/\True/\A (z7.toNat<g.G.n+z10)/\True)/\True/\True/\z24/\z11/\(∀ (l:List Int),let z12:=(l=[g.v (z5+z5),g.v z29,g.v z17,g.v z18,g.v z19,g.v z20,g.v z21,g.v z22]); l.length=z25->A ((decide z12||g.G.has l)=z2.has l)/\((z2.has l||false)=true->A z3/\A ((bif decide z12 then z7 else g.G.val l)=z2.val l)))/\(A (g.G.n+z10=z2.n)/\(∀ i:Nat,i<z2.n->A ((bif decide (i=z7.toNat) then z14.L.length else bif decide (i=g.G.n) then z5 else g.G.m i)=z2.m i)/\∀ (i':Nat),i'<z2.m i->((True/\A z3/\A ((bif decide (i=z7.toNat) then (rI z14.L i').y else (g.G.p i i').y)=(z2.p i i').y))/\A z3/\A ((bif decide (i=z7.toNat) then (rI z14.L i').x0 else (g.G.p i i').x0)=(z2.p i i').x0))/\A z3/\A ((bif decide (i=z7.toNat) then (rI z14.L i').x1 else (g.G.p i i').x1)=(z2.p i i').x1))/\∀ i:Nat,i<z2.n->True)/\(A (g.G.n+z10=z2.n)/\∀ i:Nat,let z26:=(i<g.G.n); i<z2.n->(((((((True/\A z8/\A ((bif decide z26 then g.G.ink i z5 else g.v (z5+(z5-z5*z25)))=z2.ink i z5))/\A z8/\A ((bif decide z26 then g.G.ink i z10 else g.v (z5+(z10-z5*z25)))=z2.ink i z10))/\A z8/\A ((bif decide z26 then g.G.ink i (2:Nat) else g.v (z5+((2:Nat)-z5*z25)))=z2.ink i (2:Nat)))/\A z8/\A ((bif decide z26 then g.G.ink i (3:Nat) else g.v (z5+((3:Nat)-z5*z25)))=z2.ink i (3:Nat)))/\A z8/\A ((bif decide z26 then g.G.ink i (4:Nat) else g.v (z5+((4:Nat)-z5*z25)))=z2.ink i (4:Nat)))/\A z8/\A ((bif decide z26 then g.G.ink i (5:Nat) else g.v (z5+((5:Nat)-z5*z25)))=z2.ink i (5:Nat)))/\A z8/\A ((bif decide z26 then g.G.ink i (6:Nat) else g.v (z5+((6:Nat)-z5*z25)))=z2.ink i (6:Nat)))/\A z8/\A ((bif decide z26 then g.G.ink i (7:Nat) else g.v (z5+((7:Nat)-z5*z25)))=z2.ink i (7:Nat)))/\True)))))))))) (T5 (A ((z23<=bif g.G.has [g.v (z5+z5),g.v z29,g.v z17,g.v z18,g.v z19,g.v z20,g.v z21,g.v z22] then g.G.val [g.v (z5+z5),g.v z29,g.v z17,g.v z18,g.v z19,g.v z20,g.v z21,g.v z22] else z23)/\z0<z7)/\True/\True/\True/\(((True/\((A (z0.toNat=z0.toNat)/\A (z5=z5))/\z32/\z30/\z31/\True)/\(A (g.G.n=g.G.n)/\(A (z0.toNat=z0.toNat)/\True)/\(∀ i:Nat,i<g.G.n->i≠z0.toNat->A (g.G.m i=g.G.m i)/\∀ (i':Nat),let z28:=(g.G.p i i'); i'<g.G.m i->((True/\q3 z28.y)/\q3 z28.x0)/\q3 z28.x1)/\∀ i:Nat,i<g.G.n->True)/\(A (g.G.m z0.toNat=g.G.m z0.toNat)/\∀ i:Nat,let z16:=(g.G.p z0.toNat i); i<g.G.m z0.toNat->((True/\q3 z16.y)/\q3 z16.x0)/\q3 z16.x1)/\True)/\A (z0.toNat<g.G.n/\g.G.m z0.toNat<=(4294967296:Nat)))/\True/\A (z0.toNat<g.G.n)/\True)/\True/\True/\z24/\z11/\z6/\(A (g.G.n=z2.n)/\(∀ i:Nat,i<z2.n->A ((bif decide (i=z0.toNat) then z13.L.length else g.G.m i)=z2.m i)/\∀ (i':Nat),i'<z2.m i->((True/\A z3/\A ((bif decide (i=z0.toNat) then (rI z13.L i').y else (g.G.p i i').y)=(z2.p i i').y))/\A z3/\A ((bif decide (i=z0.toNat) then (rI z13.L i').x0 else (g.G.p i i').x0)=(z2.p i i').x0))/\A z3/\A ((bif decide (i=z0.toNat) then (rI z13.L i').x1 else (g.G.p i i').x1)=(z2.p i i').x1))/\∀ i:Nat,i<z2.n->True)/\z1/\True))))))))) ?_;simp only [cln];simp only [Nat.reduceAdd,zer,lL,xR,lS,uD,Bool.not_eq_false',br4];rw [bI3];have same:∀ G':Gt,G'=g.G->g.G.full=G'.full/\(∀ (l:List Int),l.length=8->g.G.has l=G'.has l/\(G'.has l=true->g.G.val l=G'.val l))/\(g.G.n=G'.n/\∀ (i:Nat),i<G'.n->g.G.m i=G'.m i/\∀ (i':Nat),i'<G'.m i->((g.G.p i i').y=(G'.p i i').y/\(g.G.p i i').x0=(G'.p i i').x0)/\(g.G.p i i').x1=(G'.p i i').x1)/\
   g.G.n=G'.n/\∀ (i:Nat),i<G'.n->((((((g.G.ink i 0=G'.ink i 0/\g.G.ink i 1=G'.ink i 1)/\g.G.ink i 2=G'.ink i 2)/\g.G.ink i 3=G'.ink i 3)/\g.G.ink i 4=G'.ink i 4)/\g.G.ink i 5=G'.ink i 5)/\g.G.ink i 6=G'.ink i 6)/\g.G.ink i 7=G'.ink i 7:=by
  rintro G' rfl;exact ⟨rfl,fun l _=>⟨rfl,fun _=>rfl⟩,⟨rfl,fun i _=>⟨rfl,fun i' _=>⟨⟨rfl,rfl⟩,rfl⟩⟩⟩,rfl,fun i _=>⟨⟨⟨⟨⟨⟨⟨rfl,rfl⟩,rfl⟩,rfl⟩,rfl⟩,rfl⟩,rfl⟩,rfl⟩⟩
 have hn:=hg.n;refine ⟨fun h0=>same _ (lm (.inl h0)),fun h0=>⟨fun hf=>same _ (lm (.inr hf)),fun hf=>?_⟩⟩;have hor:¬ (kOf g.v=nul\/g.G.full=true):=fun h=>h.elim h0 (fun h=>by rw [hf] at h; cases h)
 refine ⟨fun hh=>⟨fun h4=>?_,fun h4=>?_⟩,fun hh=>?_⟩
 ·have e:nxtB g.G g.v g.r={ g.G with full:=true }:=by
   unfold nxtB;rw [lr hor,lr (by rw [hh]; decide),lm (by omega)]
  rw [e];exact ⟨rfl,(same _ rfl).2⟩
 ·have e:nxtB g.G g.v g.r=putP (fresh g.G g.v) g.G.n (grw (fresh g.G g.v) g.G.n g.r):=by
   unfold nxtB;rw [lr hor,lr (by rw [hh]; decide),lr (by omega)]
  have e0:grw (fresh g.G g.v) g.G.n g.r=AdG.L ⟨0,g.G.p g.G.n,g.r⟩:=by
   show addR (Rg.L ⟨updN g.G.m g.G.n 0 g.G.n,g.G.p g.G.n⟩) g.r=_;rw [ah5];rfl
  rw [e,e0];simp only [lF,decide_true,un];refine ⟨by omega,by omega,by omega,⟨⟨by omega,by omega⟩,by omega⟩,rfl,fun l _=>⟨rfl,fun _=>rfl⟩,⟨rfl,fun i _=>⟨rfl,fun i' _=>?_⟩⟩,rfl,fun i _=>⟨⟨⟨⟨⟨⟨⟨rfl,rfl⟩,rfl⟩,rfl⟩,rfl⟩,rfl⟩,rfl⟩,rfl⟩⟩;show (_=(bif decide (i=g.G.n) then _ else _:Rn).y/\_=(bif decide (i=g.G.n) then _ else _:Rn).x0)/\_=(bif decide (i=g.G.n) then _ else _:Rn).x1;cases decide (i=g.G.n)<;>exact ⟨⟨rfl,rfl⟩,rfl⟩
 ·have hv:=hg.val _ hh;have hm:=hg.m (g.G.val (kOf g.v)).toNat;have e:nxtB g.G g.v g.r=putP g.G (g.G.val (kOf g.v)).toNat (grw g.G (g.G.val (kOf g.v)).toNat g.r):=by
   unfold nxtB;rw [lr hor,lm hh]
  rw [e];simp only [hh,un];refine ⟨by omega,⟨⟨by omega,by omega⟩,by omega⟩,rfl,fun l _=>⟨rfl,fun _=>rfl⟩,⟨rfl,fun i _=>⟨rfl,fun i' _=>?_⟩⟩,rfl,fun i _=>⟨⟨⟨⟨⟨⟨⟨rfl,rfl⟩,rfl⟩,rfl⟩,rfl⟩,rfl⟩,rfl⟩,rfl⟩⟩;show (_=(bif decide (i=(g.G.val (kOf g.v)).toNat) then _ else _:Rn).y/\_=(bif decide (i=(g.G.val (kOf g.v)).toNat) then _ else _:Rn).x0)/\_=(bif decide (i=(g.G.val (kOf g.v)).toNat) then _ else _:Rn).x1;cases decide (i=(g.G.val (kOf g.v)).toNat)<;>exact ⟨⟨rfl,rfl⟩,rfl⟩
end Gat
end Go.Proofs.YtbkgncikjhibiaaGreat
