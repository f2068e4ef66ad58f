import Derived.Test.YtnhecfkpiojmhaaGreatM5
import Derived.Test.YtnhecfkpiojmhaaGreatRows
set_option maxRecDepth 100000
set_option linter.all false
noncomputable section
/- Part 6. -/
namespace Go.Proofs.YtnhecfkpiojmhaaGreat
open _root_.Go.Proofs.YtnhecfkpiojmhaaGreat.Hid
namespace Hid
open Go.RowKit Go.Conc
variable [LoopOK]
section
variable {p:Program}{F:Array Func}{α β:Type}
abbrev TM(p:Program)(F:Array Func){α:Type}(s:Sem α):Prop:=Tame p {p with funcs:=F} s
theorem aa2(a:α):TM p F (Pure.pure a:Sem α):= .pure a
theorem aa1{x:Sem α}{f:α->Sem β}(h:TM p F x)(hf:∀a,TM p F (f a)):TM p F (x >>= f):=Tame.bind h hf
theorem ck9{x:Sem α}{f:α->β}(h:TM p F x):TM p F (f <$> x):=Tame.bind h λa=> .pure _
theorem ax9{k:Program->Sem α}(h:TM p F (k p))(e:k {p with funcs:=F}=k p:=by rfl):TM p F (program >>= k):= .program e h
theorem b30(a:Addr):TM p F (load a):= .load λv=> .pure v
theorem ca3(a:Addr)(v:Value):TM p F (store a v):= .store (.pure ())
theorem aL3(o:Obj)(nv:∀a u,o≠.view a u:=by intro _ _ h;cases h)(np:∀c u,o≠.pending c u:=by intro _ _ h;cases h)(nl:∀r,o=.loop r->LoopOK.ok r:=by intro _ h;cases h):TM p F (newObj o):= .new nv np nl λr=> .pure r
theorem br5(r:Nat)(o:Obj)(hs:LoopOK.set)(nv:∀a u,o≠.view a u:=by intro _ _ h;cases h)(np:∀c u,o≠.pending c u:=by intro _ _ h;cases h)(nc:∀c T fz,o≠.cells c T fz:=by intro _ _ _ h;cases h)(nl:∀r,o=.loop r->LoopOK.ok r:=by intro _ h;cases h):TM p F (setObj r o):= .setObj hs nv np nc nl (.pure ())
theorem aa7(s:String):TM p F (stuck s:Sem α):= .halt (.stuck s)
theorem af5(u:Unsupported)(h:∀b,u≠.initOrder b:=by intro _ h;cases h):TM p F (unsupported u:Sem α):= .halt (.uns u h)
theorem bH1(v:Value):TM p F (goPanic v:Sem α):= .halt (.panic v)
theorem ai9(q:Question):TM p F (choose q):= .choose λn=> .pure n
theorem bc4(n:Nat):TM p F (askRoom n):=by
 unfold askRoom;split
 ·exact .noRoom (.pure ())
 ·exact .pure ()
theorem aw0{r:Nat}{k:Obj->Sem α}(h:∀o,(∀r,o=.loop r->LoopOK.ok r)->TM p F (k o))(hv:∀a u c,Jk c->k c=k (.view a u))(hc:∀cap cl s r cl' s' r',k (.chan cap #[] cl s r false)=k (.chan cap #[] cl' s' r' false):=by intros;rfl):TM p F (getObj r >>= k):= .getObj h (λa u=> .inl (hv a u)) hc
theorem bk6{r:Nat}{k:Option (TypeId×Nat)->Sem α}(h:∀o,TM p F (k o))(hp:∀T n',k (some (T,n'))=k (some (T,0)):=by intros;rfl):TM p F (shape r >>= k):= .shape h λT=> .inr (hp T)
theorem ad2(t:TypeId):TM p F (typeInfo t):=by unfold typeInfo;(repeat' first|(with_reducible first|exact aa7 _|exact aa2 _)|focus ((with_reducible refine ax9 ?_ ?_);rotate_left;rfl)|split)
theorem aa6(t:TypeId):TM p F (underlying t):=by unfold underlying;(repeat' first|(with_reducible first|exact aa7 _|exact aa2 _)|focus ((with_reducible refine ax9 ?_ ?_);rotate_left;rfl)|split)
theorem ag3(t:TypeId):TM p F (zeroValue t):=by unfold zeroValue;(repeat' first|with_reducible exact ad2 _|((with_reducible refine af5 _ (h:=?_));(intro _ h;cases h))|(with_reducible first|exact aa2 _|refine aa1 ?_ λ_=>?_)|split)
theorem af0(t:TypeId):TM p F (sizeOf t):=by unfold sizeOf;(repeat' (with_reducible first|exact ad2 _|exact aa2 _|refine aa1 ?_ λ_=>?_))
theorem bG3(t:TypeId):TM p F (typeStr t):=by unfold typeStr;(repeat' first|with_reducible exact ad2 _|((with_reducible refine af5 _ (h:=?_));(intro _ h;cases h))|(with_reducible first|exact aa2 _|refine aa1 ?_ λ_=>?_)|split|dsimp only)
theorem bG9(t:TypeId):TM p F (isAgg t):=by unfold isAgg;(repeat' first|(with_reducible first|exact aa6 _|exact aa2 _|refine aa1 ?_ λ_=>?_)|split)
theorem at4(a:Addr):∀(n i:Nat)(acc:Array Value),TM p F (loadCellsFrom a i n acc)
 |0,_,_=> .pure _
 |n+1,i,acc=>aa1 (b30 _) λ_=>at4 a n _ _
theorem aO0(a:Addr)(n:Nat):TM p F (loadCells a n):=at4 a n 0 #[]
theorem ak8(a:Addr):∀(vs:List Value)(i:Nat),TM p F (storeCells a vs i)
 | [],_=> .pure _
 |v::vs,i=>aa1 (ca3 _ _) λ_=>ak8 a vs _
theorem aB2(t:TypeId)(a:Addr):TM p F (loadVar t a):=by unfold loadVar;(repeat' first|(with_reducible first|exact aO0 _ _|exact bG9 _|exact af0 _|exact b30 _|exact aa2 _|refine aa1 ?_ λ_=>?_)|split)
theorem by9(t:TypeId)(a:Addr)(v:Value):TM p F (storeVar t a v):=by unfold storeVar;(repeat' first|(with_reducible first|exact ak8 _ _ _|exact af0 _|exact aa7 _|refine aa1 ?_ λ_=>?_)|split)
theorem aL2(t:TypeId)(c:Array Value):TM p F (newRow t c):=by unfold newRow;(repeat' first|((with_reducible refine aL3 _ (nv:=?_) (np:=?_) (nl:=?_))<;>first|(intro _ _ _ h;cases h;done)|(intro _ _ h;cases h;done)|(intro _ h;cases h;done))|(with_reducible first|exact aa2 _|refine aa1 ?_ λ_=>?_))
theorem a01(t:TypeId)(v:Value):TM p F (newVar t v):=by unfold newVar;(repeat' with_reducible exact aL2 _ _)
theorem bV6(t:TypeId):TM p F (elemOf t):=by unfold elemOf;(repeat' first|(with_reducible first|exact aa6 _|exact aa7 _|exact aa2 _|refine aa1 ?_ λ_=>?_)|split)
theorem aI2(t:TypeId)(c:Array Value)(o:Nat):TM p F (part t c o):=by unfold part;(repeat' first|(with_reducible first|exact bG9 _|exact af0 _|exact aa7 _|exact aa2 _|refine aa1 ?_ λ_=>?_)|split)
theorem ab2(e:RuntimeError):TM p F (runtimePanic e:Sem α):=by
 unfold runtimePanic;refine ax9 ?_;dsimp only
 (repeat' first|(with_reducible first|exact bV6 _|exact a01 _ _|exact bH1 _|refine aa1 ?_ λ_=>?_)|split)
theorem ar2(k:IntKind)(x y:Int)(c:BoundsCode):TM p F (boundsPanic k x y c:Sem α):=by unfold boundsPanic;(repeat' first|(with_reducible first|exact ab2 _|exact ai9 _|exact aa2 _|refine ck9 ?_|refine aa1 ?_ λ_=>?_)|split)
theorem aB5(v:Value):TM p F (asIntOf v):=by unfold asIntOf;(repeat' first|((with_reducible refine af5 _ (h:=?_));(intro _ h;cases h))|(with_reducible first|exact aa7 _|exact aa2 _)|split)
theorem aO2(v:Value):TM p F (asInt v):=by unfold asInt;(repeat' (with_reducible first|exact aB5 _|exact aa2 _|refine aa1 ?_ λ_=>?_))
theorem aL5(v:Value):TM p F (asBool v):=by unfold asBool;(repeat' first|(with_reducible first|exact aa7 _|exact aa2 _)|split)
theorem cb5(v:Value):TM p F (asAgg v):=by unfold asAgg;(repeat' first|(with_reducible first|exact aa7 _|exact aa2 _)|split)
theorem aL6(v:Value):TM p F (asAddr v):=by unfold asAddr;(repeat' first|(with_reducible first|exact ab2 _|exact aa7 _|exact aa2 _)|split)
theorem ao9(v:Value):TM p F (Instr.sureAddr v):=by unfold Instr.sureAddr;(repeat' first|(with_reducible first|exact aa7 _|exact aa2 _)|split)
theorem cb6(t:TypeId):TM p F (Instr.alloc t true (.tuple #[])):=by unfold Instr.alloc;(repeat' (with_reducible first|exact a01 _ _|exact ag3 _|exact aa2 _|refine aa1 ?_ λ_=>?_))
theorem t_box(t:TypeId)(v:Value):TM p F (Instr.box t v):=by unfold Instr.box;(repeat' (with_reducible first|exact a01 _ _|exact aa2 _|refine aa1 ?_ λ_=>?_))
theorem bc3(t:TypeId)(n:Nat)(ps:Array (Nat×Value)):TM p F (Instr.buildSlice t n ps):=by unfold Instr.buildSlice;(repeat' first|(with_reducible first|exact aL2 _ _|exact af0 _|exact ag3 _|exact aa6 _)|((with_reducible refine af5 _ (h:=?_));(intro _ h;cases h))|(with_reducible first|exact aa7 _|exact aa2 _|refine aa1 ?_ λ_=>?_)|split|dsimp only)
theorem bV3(t:TypeId)(v:Value):TM p F (Instr.loadAt t v):=by unfold Instr.loadAt;(repeat' (with_reducible first|exact ao9 _|exact aB2 _ _|refine aa1 ?_ λ_=>?_))
theorem bG4(t:TypeId)(a v:Value):TM p F (Instr.storeAt t a v):=by unfold Instr.storeAt;(repeat' (with_reducible first|exact ao9 _|exact by9 _ _ _|refine aa1 ?_ λ_=>?_))
theorem bb9(x:Value)(y:Nat)(c:BoundsCode):TM p F (Instr.sliceBound x y c):=by unfold Instr.sliceBound;(repeat' first|(with_reducible first|exact aB5 _|exact ar2 _ _ _ _|exact aa2 _|refine aa1 ?_ λ_=>?_)|split)
theorem aB1(b:Bool)(l c:Nat)(x y z:Option Value):TM p F (Instr.sliceBounds b l c x y z):=by unfold Instr.sliceBounds;(repeat' first|(with_reducible first|exact bb9 _ _ _|exact aa7 _|exact aa2 _|refine aa1 ?_ λ_=>?_)|split)
theorem ca4(t:TypeId)(v:Value)(x y z:Option Value):TM p F (Instr.slice t v x y z):=by unfold Instr.slice;(repeat' first|(with_reducible first|exact aB1 _ _ _ _ _ _|exact aL6 _|exact af0 _|exact aa6 _|exact aa7 _|exact aa2 _|refine aa1 ?_ λ_=>?_)|split)
theorem bG5(t:TypeId)(v:Value)(x y z:Option Value):TM p F (Instr.sliceAt t v x y z):=by unfold Instr.sliceAt;(repeat' first|(with_reducible first|exact ca4 _ _ _ _ _|exact aB1 _ _ _ _ _ _|exact ao9 _|exact af0 _|exact aa6 _|exact aa2 _|refine aa1 ?_ λ_=>?_)|split)
theorem bH0(t:TypeId)(x y:Value):TM p F (Instr.indexAt t x y):=by unfold Instr.indexAt;(repeat' first|(with_reducible first|exact ao9 _|exact aB5 _|exact ar2 _ _ _ _|exact af0 _|exact aa6 _)|((with_reducible refine af5 _ (h:=?_));(intro _ h;cases h))|(with_reducible first|exact aa7 _|exact aa2 _|refine aa1 ?_ λ_=>?_)|split|dsimp only)
theorem ca6(t:TypeId)(x y:Value):TM p F (Instr.index t x y):=by unfold Instr.index;(repeat' first|(with_reducible first|exact aB5 _|exact ar2 _ _ _ _|exact aI2 _ _ _|exact af0 _|exact aa6 _|exact aa7 _|exact aa2 _|refine aa1 ?_ λ_=>?_)|split)
theorem ca7(t:TypeId)(x:Value)(i:Nat):TM p F (Instr.field t x i):=by unfold Instr.field;(repeat' first|(with_reducible first|exact cb5 _|exact aI2 _ _ _|exact aa6 _|exact aa7 _|refine aa1 ?_ λ_=>?_)|split)
theorem bk8(t:TypeId)(x y:Value):TM p F (Instr.makeSlice t x y):=by unfold Instr.makeSlice;(repeat' first|(with_reducible first|exact aO2 _|exact ab2 _|exact aL2 _ _|exact af0 _|exact ag3 _|exact aa6 _|exact ad2 _|exact bc4 _|exact ai9 _|exact aa7 _|exact aa2 _|refine aa1 ?_ λ_=>?_)|split|dsimp only)
theorem bG7(t:TypeId)(r:Option Value):TM p F (Instr.makeMap t r):=by unfold Instr.makeMap;(repeat' first|(with_reducible first|exact aO2 _|exact aa6 _|exact aa7 _)|((with_reducible refine aL3 _ (nv:=?_) (np:=?_) (nl:=?_))<;>first|(intro _ _ _ h;cases h;done)|(intro _ _ h;cases h;done)|(intro _ h;cases h;done))|(with_reducible first|exact aa2 _|refine aa1 ?_ λ_=>?_)|split)
theorem bz0(t:TypeId)(r:Value):TM p F (Instr.makeChan t r):=by unfold Instr.makeChan;(repeat' first|(with_reducible first|exact aO2 _|exact ab2 _|exact aa6 _|exact ad2 _|exact aa7 _)|((with_reducible refine aL3 _ (nv:=?_) (np:=?_) (nl:=?_))<;>first|(intro _ _ _ h;cases h;done)|(intro _ _ h;cases h;done)|(intro _ h;cases h;done))|(with_reducible first|exact aa2 _|refine aa1 ?_ λ_=>?_)|split)
theorem bH3(v:Value)(i:Nat):TM p F (Instr.extract v i):=by unfold Instr.extract;(repeat' first|(with_reducible first|exact aa7 _|exact aa2 _)|split)
theorem bk9{γ:Type}{f:α->β->Sem (ForInStep β)}:∀(l:List α)(_:∀ a∈l,∀ b,TM p F (f a b))(b:β),TM p F (forIn l b f)
 | [],_,b=>aa2 _
 |a::l,h,b=>by
  rw[List.forIn_cons];refine aa1 (h a (by simp) b) λr=>?_
  cases r with
  |done b=>exact aa2 _
  |yield b=>exact bk9 (γ:=γ) l (λa ha=>h a (by simp[ha])) b
theorem a05{f:α->β->Sem (ForInStep β)}(l:Array α)(h:∀a∈l,∀b,TM p F (f a b))(b:β):TM p F (forIn l b f):=by
 rw[<-Array.forIn_toList];exact bk9 (γ:=Unit) _ (λa ha=>h a (xE.1 ha)) _
theorem a04{f:Nat->β->Sem (ForInStep β)}(h:∀a b,TM p F (f a b))(r:Std.Legacy.Range)(b:β):TM p F (forIn r b f):=by
 rw[Std.Legacy.Range.forIn_eq_forIn_range'];exact bk9 (γ:=Unit) _ (λa _=>h a) _
theorem b29{γ:Type}{f:α->Sem γ}(h:∀a,TM p F (f a)):∀(l:List α),TM p F (l.mapM f)
 | []=>by rw[List.mapM_nil];exact aa2 _
 |a::l=>by
  rw[lae];exact aa1 (h a) λ_=>aa1 (b29 h l) λ_=>aa2 _
theorem bG6{γ:Type}{f:α->Sem γ}(h:∀a,TM p F (f a))(l:Array α):TM p F (l.mapM f):=by
 rw[Array.mapM_eq_mapM_toList];exact ck9 (b29 h _)
theorem br4(r:Nat){f:Option (Addr×TypeId)->Sem α}(h:∀x,TM p F (f x))(hn:∀x q w es a w' es',(f (some x)).runT q w es≠(.ok a w',es')):TM p F (viewAt r >>= f):=by
 show TM p F (Sem.shape r _);refine Tame.shape (λo=>?_) λT=> .inr λn'=>rfl
 cases o with
 |some x=>exact h none
 |none=>
  show TM p F (Sem.getObj r _);refine Tame.getObj (λo _=>?_) (λa u=> .inr (hn (a,u) _)) λ_ _ _ _ _ _ _=>rfl
  cases o<;>first|exact h none|exact h (some _)
theorem aW1(r:Nat):TM p F (numberAt r):=by unfold numberAt;(repeat' first|with_reducible exact aa2 _|focus ((with_reducible refine aw0 (λ_ _=>?_) ?_ ?_);rotate_left;(intro _ _ c hc;cases hc<;>rfl);intros;rfl)|focus ((with_reducible refine bk6 (λ_=>?_) ?_);rotate_left;intros;rfl)|split)
theorem bV1(a:Addr):TM p F (noView a):=by
 unfold noView;refine br4 _ (λx=>?_) λx q w es b w' es' hr=>by cases hr
 cases x
 ·exact aa2 _
 ·exact af5 _
theorem bz2(a:Addr)(b:Bool):TM p F (asNumber a b):=by unfold asNumber;(repeat' first|((with_reducible refine aL3 _ (nv:=?_) (np:=?_) (nl:=?_))<;>first|(intro _ _ _ h;cases h;done)|(intro _ _ h;cases h;done)|(intro _ h;cases h;done))|(with_reducible first|exact aa2 _|refine aa1 ?_ λ_=>?_))
theorem ao4(a:Addr):TM p F (behindNumber a):=by unfold behindNumber;(repeat' (with_reducible first|exact aW1 _|exact aa2 _|refine aa1 ?_ λ_=>?_))
theorem av1:∀(d:Nat)(t:TypeId)(o:Nat),byteOfCell {p with funcs:=F} d t o=byteOfCell p d t o
 |0,_,_=>rfl
 |d+1,t,o=>by
  unfold byteOfCell;have ih:=av1 d;simp only[ih];rfl
theorem aL4(a:Addr):TM p F (byteOf a):=by
 unfold byteOf;split
 ·exact aa2 _
 ·refine ax9 ?_ ?_
  ·(repeat' first|(with_reducible first|exact bV1 _|exact aa7 _|exact aa2 _)|focus ((with_reducible refine bk6 (λ_=>?_) ?_);rotate_left;intros;rfl)|with_reducible refine aa1 ?_ λ_=>?_|split|dsimp only)
  ·simp only[av1];rfl
theorem bV0(a:Addr)(i j:Nat):TM p F (partAt a i j):=by unfold partAt;(repeat' (with_reducible first|exact aL4 _|exact aa2 _|refine aa1 ?_ λ_=>?_))
theorem aI5(a:Addr)(f:Field):TM p F (fieldPlace a f):=by unfold fieldPlace;(repeat' first|(with_reducible first|exact bV0 _ _ _|exact af0 _|exact aa2 _|refine aa1 ?_ λ_=>?_)|split)
theorem bH2(t:TypeId)(v:Value)(i:Nat):TM p F (Instr.fieldAt t v i):=by unfold Instr.fieldAt;(repeat' first|(with_reducible first|exact aI5 _ _|exact ao9 _|exact aa6 _|exact aa7 _|exact aa2 _|refine aa1 ?_ λ_=>?_)|split)
theorem cb3(t:TypeId)(ps:Array (Nat×Value)):TM p F (Instr.build t ps):=by
 unfold Instr.build
 (repeat' first|(with_reducible first|refine bG6 (λ_=>?_) _|exact af0 _|exact ag3 _|exact aa6 _|exact aa7 _|exact aa2 _|refine aa1 ?_ λ_=>?_)|split)
theorem aE9(e:Bool):∀(n:Nat)(t:TypeId)(v:Value),TM p F (Instr.checkKey e n t v)
 |0,_,_=>by unfold Instr.checkKey;(repeat' ((with_reducible refine af5 _ (h:=?_));(intro _ h;cases h)))
 |n+1,t,v=>by
  have ih:=aE9 e n;unfold Instr.checkKey
  (repeat' first|(with_reducible first|refine a04 (λ_ _=>?_) _ _|refine a05 _ (λ_ _ _=>?_) _|exact ab2 _|exact aI2 _ _ _|exact bG3 _|exact af0 _|exact aa6 _|exact ad2 _|exact aa7 _|exact aa2 _|refine aa1 ?_ λ_=>?_)|split|dsimp only)
  all_goals exact ih _ _
theorem bT4:∀(n:Nat)(t u:TypeId),Program.alikeButTags {p with funcs:=F} n t u=p.alikeButTags n t u
 |0,_,_=>rfl
 |n+1,t,u=>by
  have ih:=bT4 n;unfold Program.alikeButTags;simp only[ih]
theorem a08(t:TypeId):Program.stoodInHeld {p with funcs:=F} t=p.stoodInHeld t:=by
 have h:=λt u=>bT4 (F:=F) (p:=p) p.depth t u
 have h':∀t u,Program.alikeButTags {p with funcs:=F} (Program.depth {p with funcs:=F}) t u=p.alikeButTags p.depth t u:=h;unfold Program.stoodInHeld Program.stoodInAs;simp only[h'];rfl
theorem as4:∀(n:Nat)(t:TypeId),Program.eqGuardType {p with funcs:=F} n t=p.eqGuardType n t
 |0,_=>rfl
 |n+1,t=>by
  have ih:=as4 n;unfold Program.eqGuardType;simp only[ih];rfl
theorem bG2{t:TypeId}{f:TypeDesc->Sem α}(h:∀d,p.underlying t=some d->TM p F (f d)):TM p F (underlying t >>= f):=by
 have e:(underlying t >>= f)=Sem.program λq=>((match q.underlying t with|some d=>(Pure.pure d:Sem TypeDesc)|none=>stuck "no such type") >>= f):=rfl
 rw[e];refine .program rfl ?_;cases hd:p.underlying t with
 |none=>exact aa7 _
 |some d=>exact h d hd
def eqT(p:Program):Nat->TypeId->Bool
 |0,_=>false
 |d+1,t=>match p.underlying t with
  |some (.pointer _)|some .unsafePointer|some (.interface _)=>false
  |some (.struct fs)=>fs.all λf=>eqT p d f.type
  |some (.array _ e)=>eqT p d e
  |_=>true
theorem aO1:∀(n d:Nat)(t:TypeId)(x y:Value),eqT p n t=true->TM p F (Op.equalIn d t x y)
 |0,_,_,_,_,h=>by simp[eqT]at h
 |_+1,0,_,_,_,_=>by unfold Op.equalIn;(repeat' ((with_reducible refine af5 _ (h:=?_));(intro _ h;cases h)))
 |n+1,d+1,t,x,y,h=>by
  have ih:=λt x y=>aO1 n d t x y
  unfold Op.equalIn;refine bG2 λds hds=>?_
  simp only[eqT,hds]at h;split;all_goals first
   |(simp at h;done)
   |(refine ax9 ?_ (by simp only[a08])
     (repeat' first|(with_reducible first|refine a05 _ (λ_ _ _=>?_) _|exact aI2 _ _ _)|((with_reducible refine af5 _ (h:=?_));(intro _ h;cases h))|(with_reducible first|exact aa2 _|refine aa1 ?_ λ_=>?_)|split|dsimp only)
     all_goals exact ih _ _ _ (Array.all_eq_true_iff_forall_mem.1 h _ ‹_›))
   |((repeat' first|(with_reducible first|exact aL4 _|exact ao4 _|exact ad2 _)|((with_reducible refine af5 _ (h:=?_));(intro _ h;cases h))|(with_reducible first|exact aa7 _|exact aa2 _)|focus ((with_reducible refine ax9 ?_ ?_);rotate_left;rfl)|with_reducible refine aa1 ?_ λ_=>?_|split);done)
   |((repeat' first|(with_reducible first|refine a04 (λ_ _=>?_) _ _|exact aI2 _ _ _|exact af0 _|exact aa2 _|refine aa1 ?_ λ_=>?_)|split|dsimp only);exact ih _ _ _ h)
theorem ay4:∀(d:Nat)(t:TypeId)(x y:Value),TM p F (Op.eqGuardIn d t x y)
 |0,_,_,_=>by unfold Op.eqGuardIn;(repeat' ((with_reducible refine af5 _ (h:=?_));(intro _ h;cases h)))
 |d+1,t,x,y=>by
  have ih:=ay4 d;unfold Op.eqGuardIn
  (repeat' first|(with_reducible first|refine a04 (λ_ _=>?_) _ _|refine a05 _ (λ_ _ _=>?_) _|exact aI2 _ _ _|exact af0 _|exact aa6 _|exact aa2 _|refine aa1 ?_ λ_=>?_)|split|dsimp only)
  all_goals exact ih _ _ _
theorem bz1(t:TypeId)(x y:Operand)(a b:Value):TM p F (match a,b with
 |.nilIface,.nilIface=>
  if(x matches .const _)||(y matches .const _)then pure ()else do
  if ← Op.eqGuardIn Op.maxDepth t a b then unsupported (.noEntry "binop/eql: two nil values of an interface type with methods, neither of them the literal nil")
 |.agg _,.agg _=>do
  if !(← program).eqGuardType (← program).depth t then pure ()else do
  if ← Op.eqGuardIn Op.maxDepth t a b then unsupported (.noEntry "binop/eql: two nil values of an interface type with methods, in a part of a struct or an array")
 |_,_=>pure ()):=by
 split
 ·(repeat' first|with_reducible exact ay4 _ _ _ _|((with_reducible refine af5 _ (h:=?_));(intro _ h;cases h))|(with_reducible first|exact aa2 _|refine aa1 ?_ λ_=>?_)|split)
 ·have e:(λq:Program=>q.eqGuardType q.depth t) {p with funcs:=F}=(λq:Program=>q.eqGuardType q.depth t) p:=as4 p.depth t;refine Tame.program (k:=λq=>Sem.program λr=>if !q.eqGuardType r.depth t then pure ()else do if ← Op.eqGuardIn Op.maxDepth t (.agg _) (.agg _)then unsupported (.noEntry "binop/eql: two nil values of an interface type with methods, in a part of a struct or an array")) ?_ (.program rfl ?_)
  ·simp only[as4]
  ·(repeat' first|with_reducible exact ay4 _ _ _ _|((with_reducible refine af5 _ (h:=?_));(intro _ h;cases h))|(with_reducible first|exact aa2 _|refine aa1 ?_ λ_=>?_)|split)
 ·exact aa2 _
theorem bH4(op:BinOp)(t:TypeId)(x y:Operand)(a b:Value):TM p F (eqGuard op t x y a b):=by
 unfold eqGuard;cases op<;>first|exact aa2 _|exact bz1 t x y a b
theorem ba2(q:Program)(d:Nat)(e:TypeId)(o:Nat)(b:Int):cellAtBytes q d e 0 o b=none:=by
 unfold cellAtBytes;simp only[xz];split
 ·rfl
 ·cases byteOfCell q d e (o%q.cellsOf e)with
  |none=>rfl
  |some h=>
   have hc:∀z:Int,(decide (z<0)||decide (z>=Int.ofNat 0))=true:=λz=>by
    have:Int.ofNat 0=0:=rfl
    rw[xg,lE,lE];omega
   simp only[Option.bind_eq_bind,lan];rw[ll (hc _)];rfl
theorem aK1:∀(d:Nat)(t:TypeId)(o:Nat),cellOfByte {p with funcs:=F} d t o=cellOfByte p d t o
 |0,_,_=>rfl
 |d+1,t,o=>by
  unfold cellOfByte;have ih:=aK1 d;simp only[ih];rfl
theorem ba1(d:Nat)(e:TypeId)(c o:Nat)(b:Int):cellAtBytes {p with funcs:=F} d e c o b=cellAtBytes p d e c o b:=by
 unfold cellAtBytes;simp only[av1,aK1];rfl
inductive Loose{α:Type}:Sem α->Prop
 |pure (a:α):Loose (.pure a)
 |shape {r k} (h:∀o,Loose (k o)):Loose (.shape r k)
 |frozen {a k} (h:∀b,Loose (k b)):Loose (.frozen a k)
def bU2{α:Type}(s:Sem α):Prop:=∀q w es a w' es',s.runT q w es≠(.ok a w',es')
theorem bU2.bind{x:Sem α}{f:α->Sem β}(h:∀a,bU2 (f a)):bU2 (x >>= f):=by
 intro q w es a w' es' hr;rw[show(x >>= f)=x.bind f from rfl,Sem.runT_bind']at hr;split at hr
 ·exact h _ _ _ _ _ _ _ hr
 ·cases hr
theorem Loose.tame{x:Sem α}(hx:Loose x){f:α->Sem β}(hf:∀a,TM p F (f a))(hn:∀a,bU2 (f a)):TM p F (x >>= f):=by
 induction hx with
 |pure a=>exact hf a
 |@shape r k h ih=>
  refine Tame.shape (k:=λo=>k o >>= f) ih λT=> .inl ?_
  exactλw es a w' es'=>bU2.bind (x:=k (some (T,0))) hn p w es a w' es'
 |frozen h ih=>exact .frozen ih
theorem Loose.bind{x:Sem α}(hx:Loose x){f:α->Sem β}(hf:∀a,Loose (f a)):Loose (x >>= f):=by
 induction hx with
 |pure a=>exact hf a
 |shape h ih=>exact .shape ih
 |frozen h ih=>exact .frozen ih
theorem aQ3(a:Addr)(n:Nat):Loose (Builtin.holdsCells a n):=by
 unfold Builtin.holdsCells;refine .shape λo=>?_
 show Loose (match o with|some (_,m)=>_|none=>_);split<;>exact .pure _
theorem bN9(s n:Nat)(b:Option Addr)(x:Value):Loose (match x with
   |.slice (some c) _ _=>do pure (!(← Builtin.holdsCells c (n*s))||b.any (·.block==c.block))
   |_=>(pure false:Sem Bool)):=by
 split
 ·exact(aQ3 _ _).bind λ_=> .pure _
 ·exact .pure _
theorem bf6(s n:Nat)(b:Option Addr)(x:Value)(t:Bool):Loose (if(!t)=true then pure true else match x with
   |.slice (some c) _ _=>do pure (!(← Builtin.holdsCells c (n*s))||b.any (·.block==c.block))
   |_=>(pure false:Sem Bool)):=by
 split
 ·exact .pure _
 ·exact bN9 s n b x
theorem aU3(s l n:Nat)(b:Option Addr)(x:Value):Loose (Builtin.mayShare s l n b x):=by
 unfold Builtin.mayShare;cases b with
 |none=>exact bf6 s n none x true
 |some a=>exact(aQ3 _ _).bind λc=>Loose.bind (x:=frozen _) (.frozen λd=> .pure d) λd=>bf6 s n (some a) x (c&&!d)
theorem aN8(ts:Array TypeId)(t:TypeId)(xs:Array Value):TM p F (Builtin.unsafeAdd_ ts t xs):=by
 have key:∀(a:Addr)(n:Int),TM p F (do
   let some (e,cells) ← shape a.block|unsupported (.unsafePointer "Add")
   let q ← program
   match cellAtBytes q q.depth e (cells/q.cellsOf e) a.off n with
   |some off=>pure (.pointer (some {a with off}))
   |none=>(unsupported (.unsafePointer "Add"):Sem Value)):=λa n=>by
  refine Tame.shape (λo=>?_) λT=> .inl ?_
  ·cases o with
   |none=>exact af5 _
   |some x=>
    obtain⟨e,cells⟩:=x;refine ax9 (k:=λq=>match cellAtBytes q q.depth e (cells/q.cellsOf e) a.off n with
     |some off=>pure (.pointer (some {a with off}))
     |none=>(unsupported (.unsafePointer "Add"):Sem Value)) ?_ ?_
    ·(repeat' first|((with_reducible refine af5 _ (h:=?_));(intro _ h;cases h))|with_reducible exact aa2 _|split)
    ·simp only[ba1];rfl
  ·intro w es v w' es' hr;simp only[program,Bind.bind,Sem.bind,Sem.runT,Nat.zero_div,ba2,unsupported]at hr;cases hr
 rcases xs with⟨_|⟨v,_|⟨u,_|⟨z,l⟩⟩⟩⟩
 ·exact aa7 _
 ·cases v<;>exact aa7 _
 ·cases v with
  |pointer ptr=>
   show TM p F (asInt u >>= _);refine aa1 (aO2 _) λn=>?_
   dsimp only;split
   ·split
    ·refine br4 _ (λc=>?_) λx q w es b w' es' hr=>by cases hr
     split
     ·exact aa1 (af5 _) λ_=>aa2 _
     ·exact aa2 _
    ·refine aa1 (af5 _) λ_=>?_
     split
     ·refine aa1 (af5 _) λ_=>?_
      split
      ·exact key _ _
      ·exact af5 _
     ·split
      ·exact key _ _
      ·exact af5 _
   ·split
    ·refine aa1 (af5 _) λ_=>?_
     split
     ·exact key _ _
     ·exact af5 _
    ·split
     ·exact key _ _
     ·exact af5 _
  |_=>exact aa7 _
 ·cases v<;>exact aa7 _
theorem aW3(op:BinOp)(k:IntKind)(x y:Int):TM p F (Op.intArith op k x y):=by unfold Op.intArith;(repeat' first|(with_reducible first|exact aa7 _|exact aa2 _)|split)
theorem bV4(op:BinOp)(k:IntKind)(x y:Int):TM p F (Op.intDiv op k x y):=by unfold Op.intDiv;(repeat' first|(with_reducible first|exact ab2 _|exact aa7 _|exact aa2 _)|split)
theorem bc0(op:BinOp)(k:IntKind)(x y:Int):TM p F (Op.intBits op k x y):=by unfold Op.intBits;(repeat' first|(with_reducible first|exact aa7 _|exact aa2 _)|split)
theorem bV5(op:BinOp)(x y:Int):TM p F (Op.intCmp op x y):=by unfold Op.intCmp;(repeat' first|(with_reducible first|exact aa7 _|exact aa2 _)|split)
theorem ca5(op:BinOp)(k:IntKind)(x:Int)(j:IntKind)(y:Int):TM p F (Op.shift op k x j y):=by unfold Op.shift;(repeat' first|(with_reducible first|exact ab2 _|exact aa7 _|exact aa2 _)|split)
theorem aE7(op:BinOp)(x y:ByteArray):TM p F (Op.stringOp op x y):=by unfold Op.stringOp;(repeat' first|((with_reducible refine af5 _ (h:=?_));(intro _ h;cases h))|(with_reducible first|exact aa7 _|exact aa2 _)|split)
theorem aN9(a b:Addr):TM p F (Op.twoPlaces a b):=by unfold Op.twoPlaces;(repeat' first|with_reducible exact aL4 _|((with_reducible refine af5 _ (h:=?_));(intro _ h;cases h))|with_reducible exact aa2 _|focus ((with_reducible refine ax9 ?_ ?_);rotate_left;rfl)|with_reducible refine aa1 ?_ λ_=>?_|split)
theorem bH9(k:IntKind)(a b:Addr):TM p F (Op.addrSub k a b):=by unfold Op.addrSub;(repeat' (with_reducible first|exact aN9 _ _|exact aa2 _|refine aa1 ?_ λ_=>?_))
theorem bI1(op:BinOp)(a b:Addr):TM p F (Op.addrCmp op a b):=by unfold Op.addrCmp;(repeat' first|with_reducible exact aN9 _ _|((with_reducible refine af5 _ (h:=?_));(intro _ h;cases h))|(with_reducible first|exact aa2 _|refine aa1 ?_ λ_=>?_)|split)
theorem bI0(k:IntKind)(a:Addr)(n:Int):TM p F (Op.addrMod k a n):=by unfold Op.addrMod;(repeat' first|(with_reducible first|exact aL4 _|exact ad2 _)|((with_reducible refine af5 _ (h:=?_));(intro _ h;cases h))|with_reducible exact aa2 _|focus ((with_reducible refine bk6 (λ_=>?_) ?_);rotate_left;intros;rfl)|with_reducible refine aa1 ?_ λ_=>?_|split|dsimp only)
theorem a02(t:TypeId)(x y:Value):TM p F (movedNumber t x y):=by unfold movedNumber;(repeat' first|(with_reducible first|exact aN8 _ _ _|exact ao4 _|exact bz2 _ _|exact aa6 _)|((with_reducible refine af5 _ (h:=?_));(intro _ h;cases h))|(with_reducible first|exact aa2 _|refine aa1 ?_ λ_=>?_)|split)
theorem aT8(t:TypeId)(x y:Value):TM p F (movedPointer t x y):=by unfold movedPointer;(repeat' first|(with_reducible first|exact aN8 _ _ _|exact aW1 _)|((with_reducible refine af5 _ (h:=?_));(intro _ h;cases h))|with_reducible refine aa1 ?_ λ_=>?_|split)
theorem aI3(op:BinOp)(k:FloatKind)(x y:Nat):TM p F (Op.floatArith op k x y):=by unfold Op.floatArith;(repeat' first|(with_reducible first|exact ai9 _|exact aa7 _|exact aa2 _|refine aa1 ?_ λ_=>?_)|split|dsimp only)
theorem aW4(op:BinOp)(k:FloatKind)(x y:Nat):TM p F (Op.floatCmp op k x y):=by unfold Op.floatCmp;(repeat' first|(with_reducible first|exact aa7 _|exact aa2 _)|split)
theorem t_f2f(s:FloatKind)(x:Nat)(d:FloatKind):TM p F (Conv.floatToFloat s x d):=by unfold Conv.floatToFloat;(repeat' first|(with_reducible first|exact ai9 _|exact aa2 _|refine aa1 ?_ λ_=>?_)|split|dsimp only)
theorem aB4(op:BinOp)(k:FloatKind)(x y:Nat):TM p F (Op.Complex.arith op k x y):=by unfold Op.Complex.arith;(repeat' first|(with_reducible first|exact aI3 _ _ _ _|exact aa7 _|exact aa2 _|refine aa1 ?_ λ_=>?_)|split)
theorem b31(op:BinOp)(k:FloatKind)(x y:Nat):TM p F (Op.Complex.cmp op k x y):=by unfold Op.Complex.cmp;(repeat' (with_reducible first|exact aW4 _ _ _ _|exact aL5 _|refine aa1 ?_ λ_=>?_))
theorem cb2(s:FloatKind)(x:Nat)(d:FloatKind):TM p F (Op.Complex.conv s x d):=by unfold Op.Complex.conv;(repeat' first|(with_reducible first|exact t_f2f _ _ _|exact aa7 _|exact aa2 _|refine aa1 ?_ λ_=>?_)|split)
theorem bH8(x y:Nat):TM p F (Op.Complex.add x y):=aB4 _ _ _ _
theorem bH5(x y:Nat):TM p F (Op.Complex.sub x y):=aB4 _ _ _ _
theorem bH7(x y:Nat):TM p F (Op.Complex.mul x y):=aB4 _ _ _ _
theorem cl0(x y:Nat):TM p F (Op.Complex.quo x y):=aB4 _ _ _ _
theorem ca9(a b c d:Nat):TM p F (Op.Complex.product a b c d):=by unfold Op.Complex.product;(repeat' (with_reducible first|exact bH7 _ _|exact bH5 _ _|exact bH8 _ _|exact aa2 _|refine aa1 ?_ λ_=>?_))
theorem cb1(s a b c d:Nat):TM p F (Op.Complex.corrected s a b c d):=by unfold Op.Complex.corrected;(repeat' (with_reducible first|exact bH7 _ _|exact bH5 _ _|exact bH8 _ _|exact aa2 _|refine aa1 ?_ λ_=>?_))
theorem ca8(a b c d:Nat):TM p F (Op.Complex.quotient a b c d):=by unfold Op.Complex.quotient;(repeat' first|(with_reducible first|exact cb1 _ _ _ _ _|exact cl0 _ _|exact bH7 _ _|exact bH5 _ _|exact bH8 _ _|exact b31 _ _ _ _|exact aa2 _|refine aa1 ?_ λ_=>?_)|split|dsimp only)
theorem bl0(op:BinOp)(k:FloatKind)(a b c d:Nat):TM p F (Op.complexOp op k a b c d):=by unfold Op.complexOp;(repeat' first|(with_reducible first|exact ca8 _ _ _ _|exact ca9 _ _ _ _|exact cb2 _ _ _|exact b31 _ _ _ _|exact aB4 _ _ _ _|exact aa7 _|exact aa2 _|refine aa1 ?_ λ_=>?_)|split)
theorem cb4(op:BinOp)(t:TypeId)(x y:Value)(h:(op=.eql\/op=.neq)->∃n,eqT p n t=true):TM p F (binOp op t x y):=by
 have he:(op=.eql\/op=.neq)->TM p F (Op.equal t x y):=λho=>(h ho).elim λn hn=>aO1 n _ t x y hn
 unfold binOp;split;all_goals first
  |(refine aa1 (he (.inl rfl)) λ_=>aa2 _)
  |(refine aa1 (he (.inr rfl)) λ_=>aa2 _)
  |((repeat' first|(with_reducible first|exact bl0 _ _ _ _ _ _|exact aW4 _ _ _ _|exact aI3 _ _ _ _|exact aT8 _ _ _|exact a02 _ _ _|exact bI0 _ _ _|exact bI1 _ _ _|exact bH9 _ _ _|exact aE7 _ _ _|exact ca5 _ _ _ _ _|exact bV5 _ _ _|exact bc0 _ _ _ _|exact bV4 _ _ _ _|exact aW3 _ _ _ _|exact ao4 _|exact aa6 _)|((with_reducible refine af5 _ (h:=?_));(intro _ h;cases h))|(with_reducible first|exact aa7 _|refine aa1 ?_ λ_=>?_)|split);done)
theorem ca2(op:UnOp)(x:Value):TM p F (Op.unary op x):=by unfold Op.unary;(repeat' first|(with_reducible first|exact bc0 _ _ _ _|exact aW3 _ _ _ _)|((with_reducible refine af5 _ (h:=?_));(intro _ h;cases h))|(with_reducible first|exact aa7 _|exact aa2 _)|split)
theorem bG8(v:Value):TM p F (Builtin.lenOf v):=by unfold Builtin.lenOf;(repeat' first|(with_reducible first|exact aa7 _|exact aa2 _)|split)
theorem at5(s n:Nat)(v:Value):TM p F (Builtin.firstCells s n v):=by unfold Builtin.firstCells;(repeat' first|(with_reducible first|exact aO0 _ _|exact aa7 _|exact aa2 _)|split)
theorem cl1(ts:Array TypeId)(t:TypeId)(xs:Array Value):TM p F (Builtin.copy_ ts t xs):=by unfold Builtin.copy_;(repeat' first|(with_reducible first|exact at5 _ _ _|exact bG8 _|exact ak8 _ _ _|exact af0 _|exact aa6 _|exact aa7 _|exact aa2 _|refine aa1 ?_ λ_=>?_)|split)
theorem cb0(hs:LoopOK.set)(ts:Array TypeId)(t:TypeId)(xs:Array Value):TM p F (Builtin.clear_ ts t xs):=by unfold Builtin.clear_;(repeat' first|(with_reducible first|exact ak8 _ _ _|exact ag3 _|exact aa6 _|exact aa7 _)|((with_reducible refine br5 _ _ (by assumption) (nv:=?_) (np:=?_) (nc:=?_) (nl:=?_))<;>first|(intro _ _ _ h;cases h;done)|(intro _ _ h;cases h;done)|(intro _ h;cases h;done))|with_reducible exact aa2 _|focus ((with_reducible refine aw0 (λ_ _=>?_) ?_ ?_);rotate_left;(intro _ _ c hc;cases hc<;>rfl);intros;rfl)|with_reducible refine aa1 ?_ λ_=>?_|split)
theorem t_len(ts:Array TypeId)(t:TypeId)(xs:Array Value):TM p F (Builtin.len_ ts t xs):=by unfold Builtin.len_;(repeat' first|(with_reducible first|exact aa6 _|exact aa7 _|exact aa2 _)|focus ((with_reducible refine aw0 (λ_ _=>?_) ?_ ?_);rotate_left;(intro _ _ c hc;cases hc<;>rfl);intros;rfl)|with_reducible refine aa1 ?_ λ_=>?_|split)
theorem t_cap(ts:Array TypeId)(t:TypeId)(xs:Array Value):TM p F (Builtin.cap_ ts t xs):=by unfold Builtin.cap_;(repeat' first|(with_reducible first|exact aa6 _|exact aa7 _|exact aa2 _)|focus ((with_reducible refine aw0 (λ_ _=>?_) ?_ ?_);rotate_left;(intro _ _ c hc;cases hc<;>rfl);intros;rfl)|with_reducible refine aa1 ?_ λ_=>?_|split)
theorem a07{γ:Type}{f:β->α->Sem β}(h:∀b a,TM p F (f b a)):∀(l:List α)(b:β),TM p F (l.foldlM f b)
 | [],b=>by rw[List.foldlM_nil];exact aa2 _
 |a::l,b=>by
  rw[List.foldlM_cons];exact aa1 (h b a) λ_=>a07 (γ:=γ) h l _
theorem ck8(x y:Value):TM p F (Builtin.max2 x y):=by unfold Builtin.max2;(repeat' first|(with_reducible first|exact aE7 _ _ _|exact aL5 _|exact ai9 _)|((with_reducible refine af5 _ (h:=?_));(intro _ h;cases h))|(with_reducible first|exact aa7 _|exact aa2 _|refine aa1 ?_ λ_=>?_)|split)
theorem ck7(x y:Value):TM p F (Builtin.min2 x y):=by unfold Builtin.min2;(repeat' first|(with_reducible first|exact aE7 _ _ _|exact aL5 _|exact ai9 _)|((with_reducible refine af5 _ (h:=?_));(intro _ h;cases h))|(with_reducible first|exact aa7 _|exact aa2 _|refine aa1 ?_ λ_=>?_)|split)
theorem t_max(ts:Array TypeId)(t:TypeId)(xs:Array Value):TM p F (Builtin.max_ ts t xs):=by
 unfold Builtin.max_;split
 ·exact aa7 _
 ·exact a07 (γ:=Unit) ck8 _ _
theorem t_min(ts:Array TypeId)(t:TypeId)(xs:Array Value):TM p F (Builtin.min_ ts t xs):=by
 unfold Builtin.min_;split
 ·exact aa7 _
 ·exact a07 (γ:=Unit) ck7 _ _
theorem a03:TM p F (mark .noRoom):= .noRoom (.pure ())
theorem bV8(s l n:Nat)(b:Option Addr)(x:Value){γ:Type}(z:Bool):TM p F (if z then runtimePanic (.error "growslice: len out of range")else do
   if !(← Builtin.mayShare s l n b x)then mark .noRoom
   (unsupported (.resourceLimit "append: a slice or a string whose bytes no memory bears"):Sem γ)):=by
 split
 ·(repeat' with_reducible exact ab2 _)
 ·refine(aU3 s l n b x).tame (λc=>?_) λc=>?_
  ·(repeat' first|with_reducible exact a03|((with_reducible refine af5 _ (h:=?_));(intro _ h;cases h))|with_reducible refine aa1 ?_ λ_=>?_|split)
  ·intro q w es a w' es' hr;cases c<;>simp[mark,unsupported,Sem.runT,Sem.run,bind,Sem.bind]at hr
theorem bV7(ts:Array TypeId)(t:TypeId)(xs:Array Value):TM p F (Builtin.append_ ts t xs):=by
 unfold Builtin.append_;split
 ·rename_i sType s x _;refine aa1 (aa6 _) λd=>?_
  split
  ·rename_i elem;split
   ·rename_i base sLen sCap;refine aa1 (af0 _) λsize=>?_
    extract_lets j1 jp
    have hp:∀z,TM p F (jp z):=by
     intro zeros;simp (config:={zeta:=false,zetaHave:=false}) only [jp]
     extract_lets jn
     have hn:∀n,TM p F (jn n):=by
      intro n;simp (config:={zeta:=false,zetaHave:=false}) only [jn]
      extract_lets app need js jb ja
      have happ:TM p F app:=by simp only[app];(repeat' first|(with_reducible first|exact at5 _ _ _|exact ag3 _|exact aa2 _|refine aa1 ?_ λ_=>?_)|split)
      have hs:∀u,TM p F (js u):=by
       intro u;simp (config:={zeta:=false,zetaHave:=false}) only [js]
       exact aa2 _
      have hb:∀u,TM p F (jb u):=by
       intro u;simp (config:={zeta:=false,zetaHave:=false}) only [jb]
       refine aa1 (ai9 _) λnc=>aa1 (ad2 _) λti=>aa1 (bc4 _) λ_=>aa1 (at5 _ _ _) λold=>aa1 happ λnew=>aa1 (ag3 _) λz=>?_
       (repeat' (with_reducible first|exact aL2 _ _|exact aa2 _|refine aa1 ?_ λ_=>?_))
      have ha:∀u,TM p F (ja u):=by
       intro u;simp (config:={zeta:=false,zetaHave:=false}) only [ja]
       refine aa1 (ad2 _) λti=>?_
       split
       ·exact aa1 (bV8 size base n _ x zeros) hb
       ·exact hb ()
      split
      ·refine aa1 happ λnew=>?_
       split
       ·exact aa1 (ak8 _ _ _) hs
       ·exact hs ()
      ·refine aa1 (ad2 _) λti=>?_
       split
       ·exact aa1 (ab2 _) ha
       ·exact ha ()
     split
     ·refine aa1 (aO2 _) λi=>?_
      extract_lets l jd jc
      have hd:∀u,TM p F (jd u):=by
       intro u;simp (config:={zeta:=false,zetaHave:=false}) only [jd]
       exact aa1 (aa2 _) hn
      have hc:∀u,TM p F (jc u):=by
       intro u;simp (config:={zeta:=false,zetaHave:=false}) only [jc]
       refine aa1 (ad2 _) λti=>?_
       split
       ·refine aa1 (ai9 _) λm=>aa1 (ab2 _) hd
       ·exact hd ()
      split
      ·exact aa1 (ab2 _) hc
      ·exact hc ()
     ·exact aa1 (bG8 _) hn
    split
    ·exact aa1 (aa6 _) λd=>aa1 (aa2 _) hp
    ·exact aa1 (aa2 _) hp
   ·exact aa7 _
  ·exact aa7 _
 ·exact aa7 _
end
end Hid
namespace Hid
open Go.RowKit Go.Conc
variable [LoopOK]
section
variable {p:Program}{F:Array Func}{α β:Type}
theorem bc1(s:FloatKind)(x:Nat)(k:IntKind):TM p F (Conv.floatToInt s x k):=by unfold Conv.floatToInt;(repeat' first|(with_reducible first|exact ai9 _|exact aa2 _|refine aa1 ?_ λ_=>?_)|split)
theorem bH6{src dst:TypeId}{j k:IntKind}(hs:p.underlying src=some (.int j))(hd:p.underlying dst=some (.int k))(x:Value):TM p F (convert src dst x):=by
 unfold convert;refine bG2 λa ha=>bG2 λb hb=>?_
 rw[hs]at ha;rw[hd]at hb;cases ha;cases hb;cases x with
 |int i n=>exact aa2 _
 |float s b=>exact bc1 s b k
 |pointer a=>cases a<;>exact af5 _
 |_=>exact af5 _
theorem aI4{n:Nat}{kt:TypeId}(h:eqT p n kt=true)(k:Value):∀(l:List MapEntry)(i:Nat),TM p F (Instr.findAsking kt k l i)
 | [],_=>aa2 _
 |e::l,i=>by
  unfold Instr.findAsking;refine aa1 (aO1 n _ kt k e.key h) λb=>?_
  split
  ·exact aa2 _
  ·exact aI4 h k l (i+1)
theorem bc2{n:Nat}{kt:TypeId}(h:eqT p n kt=true)(k:Value)(l:List MapEntry):TM p F (Instr.findKey kt k l):=by
 unfold Instr.findKey;refine aa1 (aa6 _) λd=>?_
 split
 ·exact aa2 _
 ·exact aI4 h k l 0
theorem bV2{n:Nat}{t kt et:TypeId}(ht:p.underlying t=some (.map kt et))(h:eqT p n kt=true)(x i:Value)(ok:Bool):TM p F (Instr.lookup t x i ok):=by
 have hk:=λ(k:Value) l=>bc2 (F:=F) h k l
 have hc:=λ(e:Bool) n t (v:Value)=>aE9 (p:=p) (F:=F) e n t v
 unfold Instr.lookup;refine bG2 λd hd=>?_
 rw[ht]at hd;cases hd;dsimp only
 (repeat' first|(with_reducible first|exact ag3 _|exact aa7 _|exact aa2 _)|focus ((with_reducible refine aw0 (λ_ _=>?_) ?_ ?_);rotate_left;(intro _ _ c hc;cases hc<;>rfl);intros;rfl)|with_reducible refine aa1 ?_ λ_=>?_|split)
 all_goals first|exact hc _ _ _ _|exact hk _ _|skip
theorem aT9(a b:Value):TM p F (Instr.keyThatStays a b):=by unfold Instr.keyThatStays;(repeat' first|(with_reducible first|exact ai9 _|exact aa2 _|refine aa1 ?_ λ_=>?_)|split)
theorem bk7(hs:LoopOK.set){n:Nat}{t kt et:TypeId}(ht:p.underlying t=some (.map kt et))(h:eqT p n kt=true)(m k v:Value):TM p F (Instr.mapUpdate t m k v):=by
 have hk:=λ(k:Value) l=>bc2 (F:=F) h k l
 have hc:=λ(e:Bool) n t (v:Value)=>aE9 (p:=p) (F:=F) e n t v
 have hy:=λa b=>aT9 (p:=p) (F:=F) a b
 unfold Instr.mapUpdate;refine bG2 λd hd=>?_
 rw[ht]at hd;cases hd;dsimp only
 (repeat' first|(with_reducible first|exact ab2 _|exact aa7 _)|((with_reducible refine br5 _ _ (by assumption) (nv:=?_) (np:=?_) (nc:=?_) (nl:=?_))<;>first|(intro _ _ _ h;cases h;done)|(intro _ _ h;cases h;done)|(intro _ h;cases h;done))|focus ((with_reducible refine aw0 (λ_ _=>?_) ?_ ?_);rotate_left;(intro _ _ c hc;cases hc<;>rfl);intros;rfl)|with_reducible refine aa1 ?_ λ_=>?_|split)
 all_goals first|exact hc _ _ _ _|exact hk _ _|exact hy _ _|skip
theorem aE8(t:TypeId)(x:Place):TM p F (Place.get t x):=by unfold Place.get;(repeat' first|(with_reducible first|exact aB2 _ _|exact aa2 _)|split)
theorem a06:∀(l:List FieldStep)(t:TypeId)(x:Place),TM p F (follow l t x)
 | [],_,_=>aa2 _
 |s::l,t,x=>by
  have ih:=a06 l;unfold follow
  (repeat' first|(with_reducible first|exact aE8 _ _|exact aI5 _ _|exact aL6 _|exact aI2 _ _ _|exact aa6 _|exact aa7 _|refine aa1 ?_ λ_=>?_)|split)
  all_goals exact ih _ _
theorem t_ssa(ts:Array TypeId)(t:TypeId)(v:Value)(s:String):TM p F (Builtin.ssaWrapNilChk_ ts t #[v,strVal "",strVal s]):=by
 show TM p F (match v with
  |.pointer (some _)=>pure v
  |.pointer none=>_
  |_=>stuck "ssa:wrapnilchk: pointer expected")
 cases v with
 |pointer a=>
  cases a with
  |some a=>exact aa2 _
  |none=>dsimp only;(repeat' first|(with_reducible first|exact ab2 _|exact aa6 _|exact ad2 _|exact ai9 _)|((with_reducible refine af5 _ (h:=?_));(intro _ h;cases h))|(with_reducible first|exact aa7 _|refine aa1 ?_ λ_=>?_)|split)
 |_=>exact aa7 _
theorem aI1(t:TypeId)(x:Place)(b:Bool)(w:Option String):TM p F (receiverAt t x b w):=by unfold receiverAt;(repeat' first|(with_reducible first|exact t_ssa _ _ _ _|exact aE8 _ _|exact aL6 _|exact aB2 _ _|exact aa6 _|exact aa7 _|exact aa2 _|refine aa1 ?_ λ_=>?_)|split)
theorem a00(t:TypeId)(v:Value)(l:Array FieldStep)(b:Bool):TM p F (receiverVia t v l b):=by unfold receiverVia;(repeat' (with_reducible first|exact aI1 _ _ _ _|exact a06 _ _ _|refine aa1 ?_ λ_=>?_))
theorem br6:∀(n:Nat)(t:TypeId)(v:Value)(s:String),TM p F (method n t v s)
 |0,_,_,_=>af5 _
 |n+1,t,v,s=>by
  have ih:=br6 n;unfold method
  (repeat' first|(with_reducible first|exact aI1 _ _ _ _|exact a06 _ _ _|exact aE8 _ _|exact ab2 _|exact ad2 _|exact aa7 _|exact aa2 _|refine aa1 ?_ λ_=>?_)|split)
  all_goals exact ih _ _ _
theorem aB3:∀(l:List FieldStep)(t:TypeId)(x:Option Value),TM p F (followBlind l t x)
 | [],_,_=>aa2 _
 |s::l,t,x=>by
  have ih:=aB3 l;unfold followBlind
  (repeat' first|(with_reducible first|exact aI2 _ _ _|exact aa6 _|exact aa7 _|exact aa2 _|refine aa1 ?_ λ_=>?_)|split)
  all_goals exact ih _ _
theorem aW2:∀(n:Nat)(t:TypeId)(v:Value)(s:String),TM p F (nilAhead n t v s)
 |0,_,_,_=>aa2 _
 |n+1,t,v,s=>by
  have ih:=aW2 n;unfold nilAhead
  (repeat' first|(with_reducible first|exact aB3 _ _ _|exact aa6 _|exact ad2 _|exact aa7 _|exact aa2 _|refine aa1 ?_ λ_=>?_)|split)
  all_goals exact ih _ _ _
abbrev TN(p:Program)(F:Array Func)(s:Sem Next):Prop:=TameN p {p with funcs:=F} s
theorem n_v{s:Sem Value}(h:TM p F s):TN p F (do pure (.value (← s))):= .bind h λv=> .val v
theorem n_u{s:Sem Unit}(h:TM p F s):TN p F (do s;pure .skip):= .bind h λ_=> .skip
theorem aX8{s:Sem α}{f:α->Sem Next}(h:TM p F s)(hf:∀a,TN p F (f a)):TN p F (s >>= f):= .bind h hf
theorem aF9(s:String):TN p F (stuck s):= .bind (β:=Empty) (s:=stuck s) (f:=λe=>e.elim) (aa7 s) λe=>e.elim
theorem bY7:TN p F (runtimePanic .nilDeref):= .bind (β:=Empty) (s:=runtimePanic .nilDeref) (f:=λe=>e.elim) (ab2 _) λe=>e.elim
theorem aJ3(hf:∀f,LoopOK.fn f)(v:Value)(s:String)(args:Array Value):TN p F (callMethod v s args):=by
 unfold callMethod;split
 ·rename_i t v;exact aX8 (s:=program >>= λq=>method (q.types.size+Made.depth) t v s) (ax9 (br6 _ _ _ _) rfl) λx=> .call x.1 (#[x.2]++args) (hf _)
 ·exact bY7
 ·exact aF9 _
theorem cf1(hl:∀r,¬ LoopOK.ok r)(l:Nat)(args:Array Value):TN p F (Instr.yield l args):=by
 show TN p F (Sem.getObj l _);refine .obj (λo ho=>?_) (λa u=> .inr λw es x w' es' hr=>by cases hr) (by intros;rfl);cases o with
 |loop r=>exact(hl r (ho r rfl)).elim
 |_=>exact aF9 _
theorem aX7(hf:∀f,LoopOK.fn f)(hl:∀r,¬ LoopOK.ok r)(fn:Fn)(cap args:Array Value):TN p F (invoke (.fn fn cap) args):=by
 cases fn with
 |func f=>exact .call f _ (hf _)
 |method s=>
  simp only[invoke];split
  ·exact aJ3 hf _ _ _
  ·exact aF9 _
 |methodOf t s=>
  simp only[invoke];split
  ·refine aX8 (aa6 _) λd=>?_
   exact aJ3 hf _ _ _
  ·exact aF9 _
 |via t path f b=>
  simp only[invoke];split
  ·exact aX8 (a00 _ _ _ _) λv=> .call _ _ (hf _)
  ·exact aF9 _
 |yield l=>exact cf1 hl l args
def b95(p:Program)(t:TypeId):Bool:=match p.underlying t with|some (.int _)=>true|_=>false
def bY8(p:Program)(t:TypeId):Bool:=match p.underlying t with|some (.map k _)=>eqT p 8 k|_=>false
def biOK(full:Bool):Builtin->Bool
 |.append|.cap|.copy|.len|.max|.min=>true
 |.clear=>full
 |_=>false
def bR7(full:Bool)(J:FuncId->Bool)(c:Call):Bool:=match c.callee with
 |.builtin b=>biOK full b
 |.value (.func f)=>full||J f
 |_=>full
def opOK(p:Program)(full:Bool)(J:FuncId->Bool)(o:Oper):Bool:=match o.op with
 |.move _|.assign _|.pick _ _ _|.alloc _|.box _ _|.build _ _|.buildSlice _ _ _|.load _ _|.store _ _ _|.nilCheck _|.unOp _ _ _|.makeFunc _ _ _|.makeMap _ _|.makeChan _ _|.makeSlice _ _ _
 |.slice _ _ _ _ _|.fieldAddr _ _ _|.field _ _ _|.indexAddr _ _ _|.index _ _ _|.extract _ _=>true
 |.binOp op t _ _ _=>match op with|.eql|.neq=>eqT p 8 t|_=>true
 |.convert s d _=>b95 p s&&b95 p d
 |.lookup t _ _ _=>bY8 p t
 |.mapUpdate t _ _ _=>full&&bY8 p t
 |.call c=>bR7 full J c
 |_=>false
theorem bN6{full:Bool}(hs:full=true->LoopOK.set){b:Builtin}(hb:biOK full b=true)(ts:Array TypeId)(t:TypeId)(cs:Array Bool)(xs:Array Value):TN p F (builtin b ts t cs xs):=by
 unfold builtin;cases b<;>first
  |(cases hb;done)
  |exact n_v (bV7 _ _ _)
  |exact n_v (t_cap _ _ _)
  |exact n_v (cb0 (hs hb) _ _ _)
  |exact n_v (cl1 _ _ _)
  |exact n_v (t_len _ _ _)
  |exact n_v (t_max _ _ _)
  |exact n_v (t_min _ _ _)
theorem cr2{full:Bool}{J:FuncId->Bool}(hs:full=true->LoopOK.set)(hf:full=true->∀f,LoopOK.fn f)(hJ:∀f,J f=true->LoopOK.fn f)(hl:∀r,¬ LoopOK.ok r)(ρ:Operand->Value)(hρ:∀f,ρ (.func f)=.func (.func f) #[] #[])(c:Call)(t:TypeId)(h:bR7 full J c=true):TN p F (do let d ← resolve ρ c t;invoke d.target d.args):=by
 obtain⟨cal,args,ats⟩:=c;cases cal with
 |builtin b=>exact bN6 hs h _ _ _ _
 |invoke r s=>exact aX7 (hf h) hl (.method s) #[] _
 |value f=>
  have key:full=true->TN p F (Deferred.ofValue (ρ f) (args.map ρ) >>= λd=>invoke d.target d.args):=λhh=>by
   unfold Deferred.ofValue;cases ρ f with
   |func fn first cap=>exact aX7 (hf hh) hl fn _ _
   |nilFunc=>show TN p F (runtimePanic .nilDeref);exact bY7
   |_=>exact aF9 _
  show TN p F (Deferred.ofValue (ρ f) _ >>= _);cases f with
  |func g=>
   rw[hρ];simp only[bR7,xg]at h;exact .call g _ (h.elim (λe=>hf e g) (hJ g))
  |_=>exact key h
theorem b51{full:Bool}{J:FuncId->Bool}(hs:full=true->LoopOK.set)(hf:full=true->∀f,LoopOK.fn f)(hJ:∀f,J f=true->LoopOK.fn f)(hl:∀r,¬ LoopOK.ok r){o:Oper}(h:opOK p full J o=true):OpT p {p with funcs:=F} o:=by
 intro ρ hρ;obtain⟨dst,op,ty,ps,af,gd⟩:=o;unfold execOp;cases op<;>try(exfalso;simp[opOK]at h;done)
 case move x=>exact .val _
 case assign x=>exact .val _
 case pick c a b=>exact aX8 (aL5 _) λ_=> .val _
 case alloc t=>exact n_v (cb6 _)
 case box t x=>exact n_v (t_box _ _)
 case build t ps=>exact n_v (cb3 _ _)
 case buildSlice t n ps=>exact n_v (bc3 _ _ _)
 case load t a=>exact n_v (bV3 _ _)
 case store t a x=>exact n_u (bG4 _ _ _)
 case unOp op t x=>exact n_v (ca2 _ _)
 case makeFunc f a b=>exact n_v (aa2 _)
 case makeMap t r=>exact n_v (bG7 _ _)
 case makeChan t r=>exact n_v (bz0 _ _)
 case makeSlice t l c=>exact n_v (bk8 _ _ _)
 case slice t x a b c=>exact n_v (bG5 _ _ _ _ _)
 case fieldAddr t x i=>exact n_v (bH2 _ _ _)
 case field t x i=>exact n_v (ca7 _ _ _)
 case indexAddr t x i=>exact n_v (bH0 _ _ _)
 case index t x i=>exact n_v (ca6 _ _ _)
 case extract x i=>exact n_v (bH3 _ _)
 case nilCheck x=>
  dsimp only;split;all_goals first|exact bY7|exact .val _|skip
  split
  ·exact bY7
  ·rename_i t w _;refine aX8 (s:=program >>= λq=>nilAhead (q.types.size+Made.depth) t w _) (ax9 (aW2 _ _ _ _) rfl) λb=>?_
   split
   ·exact aX8 (af5 _) λ_=> .val _
   ·exact .val _
  ·exact .val _
 case binOp op t x y z=>
  refine n_v (aa1 (bH4 _ _ _ _ _ _) λ_=>cb4 _ _ _ _ λho=>⟨8,?_⟩);rcases ho with rfl|rfl<;>exact h
 case convert s d x=>
  simp only[opOK,lr,b95]at h;obtain⟨h1,h2⟩:=h;split at h1
  ·split at h2
   ·exact n_v (bH6 ‹_› ‹_› _)
   ·cases h2
  ·cases h1
 case lookup t x i ok=>
  simp only[opOK,bY8]at h;split at h
  ·exact n_v (bV2 ‹_› h _ _ _)
  ·cases h
 case mapUpdate t m k v=>
  simp only[opOK,bY8,lr]at h;obtain⟨h0,h⟩:=h;split at h
  ·exact n_u (bk7 (hs h0) ‹_› h _ _ _)
  ·cases h
 case call c=>exact cr2 hs hf hJ hl ρ hρ c ty h
def al7(p:Program)(full:Bool)(J:FuncId->Bool):Code->Bool
 |.region _ ops _=>ops.toList.all (opOK p full J)
 |.seq x y=>al7 p full J x&&al7 p full J y
 |.cond _ x y=>al7 p full J x&&al7 p full J y
 |.block _ c=>al7 p full J c
 |.loop c=>al7 p full J c
 |.scope c=>al7 p full J c
 |.rangeFunc ..|.goto _=>false
 |_=>true
theorem bR4{full:Bool}{J:FuncId->Bool}(hs:full=true->LoopOK.set)(hf:full=true->∀f,LoopOK.fn f)(hJ:∀f,J f=true->LoopOK.fn f)(hl:∀r,¬ LoopOK.ok r):∀{c:Code},al7 p full J c=true->av6 p {p with funcs:=F} c:=by
 intro c;induction c with
 |region i ops d=>exactλh o ho=>b51 hs hf hJ hl (xd.1 h o ho)
 |seq x y ix iy=>exactλh=>by simp only[al7,lr]at h;exact⟨ix h.1,iy h.2⟩
 |cond t x y ix iy=>exactλh=>by simp only[al7,lr]at h;exact⟨ix h.1,iy h.2⟩
 |block i c ih=>exactλh=>ih h
 |loop c ih=>exactλh=>ih h
 |scope c ih=>exactλh=>ih h
 |rangeFunc _ _ _ _=>exactλh=>by cases h
 |goto _=>exactλh=>by cases h
 |_=>exactλ_=>trivial
theorem bd8(fn:Func)(t:Array Value):TM p F (results fn t):=by
 unfold results;refine aa1 (bG6 (λr=>?_) _) λ_=>aa2 _
 split
 ·exact aa2 _
 ·exact aa1 (aL6 _) λ_=>aB2 _ _
theorem bL2{full:Bool}{J:FuncId->Bool}(hst:full=true->LoopOK.set)(hfn:full=true->∀f,LoopOK.fn f)(hJ:∀f,J f=true->LoopOK.fn f)(hJ':∀f,LoopOK.fn f->full=true\/J f=true)
  (hl:∀r,¬ LoopOK.ok r) (hs:p.funcs.size=F.size) (hb:∀(f:FuncId)(fn:Func),p.funcs[f]?=some fn->∃b Fn,fn.body=some b/\(full=true ∨ J f=true->al7 p full J b=true)/\(fn.name == "runtime.NumGoroutine")=false/\F[f]?=some Fn/\Fn={fn with body:=Fn.body}):Pair p {p with funcs:=F}:=by
 refine⟨⟨rfl,λf fn hf=>?_,hs⟩,λf fn b hJf hf hb'=>?_,λf fn t _=>bd8 fn t,λf fn hf=>?_⟩
 ·obtain⟨b,Fn,h1,_,_,h4,h5⟩:=hb f fn hf;exact⟨b,Fn,h1,h4,h5⟩
 ·obtain⟨b',Fn,h1,h2,_⟩:=hb f fn hf;rw[hb']at h1;cases h1;exact bR4 hst hfn hJ hl (h2 (hJ' f hJf))
 ·obtain⟨b',Fn,_,_,h3,_⟩:=hb f fn hf;exact h3
end
end Hid
namespace Hid
open Go Go.Proofs
def jobF(f:FuncId):Bool:=f==64||f==83
noncomputable instance noLoops:LoopOK:=⟨λ_=>False,True,λ_=>True⟩
@[reducible] def jobOK:LoopOK:=⟨λ_=>False,False,λf=>jobF f=true⟩
def op1(d:Option Tmp)(op:Op)(t:TypeId):Oper:={dst:=d,op,type:=t,pos := "",after:=#[],guard:=none}
def no1(d:Tmp)(t:TypeId):Oper:=op1 (some d) (.box t (.const (.agg #[]))) 0
def az1:Array Oper:=#[op1 (some 17) (.call {callee:= .builtin .len,args:=#[.tmp 0],argTypes:=#[22]}) 3,op1 (some 18) (.call {callee:= .builtin .len,args:=#[.tmp 3],argTypes:=#[48]}) 3,
 op1 (some 22) (.binOp .lss 3 (.tmp 1) (.const (.int .i64 0)) 3) 4,op1 (some 23) (.binOp .lss 3 (.tmp 2) (.const (.int .i64 0)) 3) 4,op1 (some 24) (.binOp .lss 3 (.tmp 4) (.const (.int .i64 0)) 3) 4,op1 (some 21) (.binOp .eql 3 (.tmp 5) (.const (.int .i64 1)) 3) 4,op1 (some 25) (.binOp .leq 3 (.tmp 18) (.const (.int .i64 8)) 3) 4]
def opsT1:Array Oper:=#[no1 6 22,no1 7 3,no1 8 3,no1 9 48,no1 10 3,op1 (some 12) (.assign (.const (.slice none 0 0))) 87]
def opsT2:Array Oper:=#[op1 (some 19) (.makeSlice 87 (.tmp 18) (.tmp 18)) 87,no1 13 87]
def opsT3:Array Oper:=#[op1 (some 20) (.makeChan 115 (.const (.int .i64 0))) 115,no1 14 115]
def opsT4:Array Oper:=#[no1 15 125]
def opsT5:Array Oper:=#[op1 (some 29) (.move (.const (.int .i64 0))) 3]
def cp2:Array Oper:=#[op1 (some 30) (.binOp .lss 3 (.tmp 29) (.tmp 18) 3) 4]
def bL6:Array Oper:=#[op1 (some 26) (.indexAddr 48 (.tmp 3) (.tmp 29)) 0,op1 (some 31) (.load 3 (.tmp 26)) 3,
 op1 (some 33) (.call {callee:= .value (.func 64),args:=#[.tmp 0,.tmp 1,.tmp 2,.tmp 31,.tmp 4],argTypes:=#[22,3,3,3,3]}) 89,op1 (some 35) (.indexAddr 87 (.tmp 19) (.tmp 29)) 0,op1 none (.store 89 (.tmp 35) (.tmp 33)) 0]
def opsT8:Array Oper:=#[op1 (some 34) (.binOp .add 3 (.tmp 29) (.const (.int .i64 1)) 3) 3,op1 (some 29) (.move (.tmp 34)) 3]
def opsT9:Array Oper:=#[op1 (some 12) (.assign (.tmp 19)) 87]
def bD8:Code:= .seq (.region 10 cp2 false) (.seq (.cond (.tmp 30) .skip (.exit 2)) (.seq (.region 12 bL6 false) (.region 13 opsT8 false)))
def ca1:Code:= .seq (.region 16 opsT9 false) .ret
def au0:Code:=
 .seq (.region 90 az1 false) <| .seq (.cond (.tmp 21) .skip (.refuse "more than one goroutine")) <| .seq (.cond (.tmp 25) .skip (.refuse "more than eight inks")) <|
 .seq (.region 0 opsT1 false) <| .seq (.region 1 opsT2 false) <| .seq (.region 2 opsT3 false) <| .seq (.region 3 opsT4 false) <|
 .seq (.region 9 opsT5 false) <| .seq (.block 2 (.loop bD8)) ca1
def keepB(i:Nat):Bool:=!(i∈[0,1,48,61,62,63,65,70,71,72,73,74,75,78,81,82,84,85,87,88,107,108,109,110,111,122,123,124,125,126,127,128,129,130,131,132,133,134,135,136,137])
def twf(i:Nat)(f:Func):Func:=if i=48 then{f with body:=some au0}else if keepB i then f else{f with body:=some (.refuse "")}
def twp:Program:={Tryz.prog with funcs:=Tryz.prog.funcs.mapIdx twf}
theorem bF6(i:Nat):twp.funcs[i]?=(Tryz.prog.funcs[i]?).map (twf i):=by simp[twp]
theorem bN5:Tryz.prog.funcs.size=138:=by kernel_rfl
def okAt(i:Nat):Bool:=match Tryz.prog.funcs[i]? with
 |some f=>(match(twf i f).body with|some b=>al7 twp true (λ_=>true) b&&(!jobF i || al7 twp false jobF b)|none=>false) && !(f.name == "runtime.NumGoroutine")
 |none=>false
theorem b56:(List.range 138).all okAt=true:=by kernel_rfl
theorem ck4(i:Nat)(f:Func):f={twf i f with body:=f.body}:=by
 unfold twf;split
 ·rfl
 ·split<;>rfl
theorem aI0[LoopOK]{full:Bool}{J:FuncId->Bool}(hst:full=true->LoopOK.set)(hfn:full=true->∀f,LoopOK.fn f)(hJ:∀f,J f=true->LoopOK.fn f)(hJ':∀f,LoopOK.fn f->full=true\/J f=true)(hl:∀r,¬ LoopOK.ok r)
  (hc:∀f b,(full=true\/J f=true)->(al7 twp true (λ_=>true) b&&(!jobF f||al7 twp false jobF b))=true->al7 twp full J b=true):Pair twp Tryz.prog:=by
 have h:Pair twp {twp with funcs:=Tryz.prog.funcs}:=by
  refine bL2 hst hfn hJ hJ' hl (by simp[twp]) λf fn hf=>?_
  rw[bF6]at hf;obtain⟨g,hg,rfl⟩:=xl.1 hf;have hlt:f<138:=by
   exact Nat.lt_of_lt_of_eq (li.1 hg).1 bN5
  have hk:=xd.1 b56 f (lG.2 hlt);unfold okAt at hk;rw[hg]at hk;rw[lr,uJ]at hk;obtain⟨h1,h2⟩:=hk;split at h1
  ·rename_i b hb;refine⟨b,g,hb,λhx=>hc f b hx h1,?_,hg,ck4 f g⟩;rw[<-h2];unfold twf;split
   ·rfl
   ·split<;>rfl
  ·cases h1
 exact h
theorem aA8:Pair twp Tryz.prog:=aI0 (full:=true) (J:=λ_=>true) (λ_=>trivial) (λ_ _=>trivial) (λ_ _=>trivial) (λ_ _=> .inl rfl) (λ_ h=>h) λf b _ h=>(lr _ _▸h).1
theorem a57:@Pair jobOK twp Tryz.prog:=@aI0 jobOK false jobF (λh=>by cases h) (λh=>by cases h) (λ_ h=>h) (λ_ h=> .inr h) (λ_ h=>h) λf b hx h=>by
 rw[lr,xg]at h;rcases h.2 with h2|h2
 ·rcases hx with hx|hx
  ·cases hx
  ·rw[hx]at h2;cases h2
 ·exact h2
theorem at6(k:FuncId)(h:Tryz.prog.funcs[k]?≠twp.funcs[k]?):(k=48/\∃Fn:Func,Tryz.prog.funcs[k]?=some Fn/\Fn.body.isSome)\/∃fn s,twp.funcs[k]?=some fn/\fn.body=some (.refuse s):=by
 rw[bF6]at h⊢;cases hg:Tryz.prog.funcs[k]? with
 |none=>rw[hg]at h;exact absurd rfl h
 |some g=>
  rw[hg]at h;by_cases hk:k=48
  ·subst hk;refine .inl ⟨rfl,g,rfl,?_⟩;rw[Tryz.func48]at hg;cases hg;rfl
  ·right;refine⟨_, "",rfl,?_⟩;simp only[lD,twf,lu hk]at h⊢;split
   ·rename_i hkb;rw[ll hkb]at h;exact absurd rfl h
   ·rfl
end Hid
section
open Go Go.Proofs
def Tw.prog:Program:=twp
namespace Tw
@[simp] theorem call53:∀(args:Array Value)(w:World),Sem.run prog (callFunc 53 args) w=.ok (.enter 53 args) w:=by intros;kernel_rfl
@[simp] theorem eqGuardType58:prog.eqGuardType prog.depth 58=Bool.false:=by kernel_rfl
@[simp] theorem eqGuardType98:prog.eqGuardType prog.depth 98=Bool.false:=by kernel_rfl
theorem func4:prog.funcs[4]?=some Tryz.f4:=by kernel_rfl
theorem func5:prog.funcs[5]?=some Tryz.f5:=by kernel_rfl
theorem func7:prog.funcs[7]?=some Tryz.f7:=by kernel_rfl
theorem func9:prog.funcs[9]?=some Tryz.f9:=by kernel_rfl
theorem func10:prog.funcs[10]?=some Tryz.f10:=by kernel_rfl
theorem func11:prog.funcs[11]?=some Tryz.f11:=by kernel_rfl
theorem func12:prog.funcs[12]?=some Tryz.f12:=by kernel_rfl
theorem func14:prog.funcs[14]?=some Tryz.f14:=by kernel_rfl
theorem func15:prog.funcs[15]?=some Tryz.f15:=by kernel_rfl
theorem func16:prog.funcs[16]?=some Tryz.f16:=by kernel_rfl
theorem func17:prog.funcs[17]?=some Tryz.f17:=by kernel_rfl
theorem func18:prog.funcs[18]?=some Tryz.f18:=by kernel_rfl
theorem func19:prog.funcs[19]?=some Tryz.f19:=by kernel_rfl
theorem func20:prog.funcs[20]?=some Tryz.f20:=by kernel_rfl
theorem func21:prog.funcs[21]?=some Tryz.f21:=by kernel_rfl
theorem func22:prog.funcs[22]?=some Tryz.f22:=by kernel_rfl
theorem func23:prog.funcs[23]?=some Tryz.f23:=by kernel_rfl
theorem func24:prog.funcs[24]?=some Tryz.f24:=by kernel_rfl
theorem func25:prog.funcs[25]?=some Tryz.f25:=by kernel_rfl
theorem func26:prog.funcs[26]?=some Tryz.f26:=by kernel_rfl
theorem func27:prog.funcs[27]?=some Tryz.f27:=by kernel_rfl
theorem func28:prog.funcs[28]?=some Tryz.f28:=by kernel_rfl
theorem func29:prog.funcs[29]?=some Tryz.f29:=by kernel_rfl
theorem func30:prog.funcs[30]?=some Tryz.f30:=by kernel_rfl
theorem func31:prog.funcs[31]?=some Tryz.f31:=by kernel_rfl
theorem func32:prog.funcs[32]?=some Tryz.f32:=by kernel_rfl
theorem func33:prog.funcs[33]?=some Tryz.f33:=by kernel_rfl
theorem func34:prog.funcs[34]?=some Tryz.f34:=by kernel_rfl
theorem func35:prog.funcs[35]?=some Tryz.f35:=by kernel_rfl
theorem func36:prog.funcs[36]?=some Tryz.f36:=by kernel_rfl
theorem func37:prog.funcs[37]?=some Tryz.f37:=by kernel_rfl
theorem func38:prog.funcs[38]?=some Tryz.f38:=by kernel_rfl
theorem func39:prog.funcs[39]?=some Tryz.f39:=by kernel_rfl
theorem func40:prog.funcs[40]?=some Tryz.f40:=by kernel_rfl
theorem func41:prog.funcs[41]?=some Tryz.f41:=by kernel_rfl
theorem func42:prog.funcs[42]?=some Tryz.f42:=by kernel_rfl
theorem func43:prog.funcs[43]?=some Tryz.f43:=by kernel_rfl
theorem func44:prog.funcs[44]?=some Tryz.f44:=by kernel_rfl
theorem func45:prog.funcs[45]?=some Tryz.f45:=by kernel_rfl
theorem func46:prog.funcs[46]?=some Tryz.f46:=by kernel_rfl
theorem func47:prog.funcs[47]?=some Tryz.f47:=by kernel_rfl
theorem func49:prog.funcs[49]?=some Tryz.f49:=by kernel_rfl
theorem func50:prog.funcs[50]?=some Tryz.f50:=by kernel_rfl
theorem func51:prog.funcs[51]?=some Tryz.f51:=by kernel_rfl
theorem func52:prog.funcs[52]?=some Tryz.f52:=by kernel_rfl
theorem func53:prog.funcs[53]?=some Tryz.f53:=by kernel_rfl
theorem func54:prog.funcs[54]?=some Tryz.f54:=by kernel_rfl
theorem func55:prog.funcs[55]?=some Tryz.f55:=by kernel_rfl
theorem func56:prog.funcs[56]?=some Tryz.f56:=by kernel_rfl
theorem func57:prog.funcs[57]?=some Tryz.f57:=by kernel_rfl
theorem func58:prog.funcs[58]?=some Tryz.f58:=by kernel_rfl
theorem func59:prog.funcs[59]?=some Tryz.f59:=by kernel_rfl
theorem func60:prog.funcs[60]?=some Tryz.f60:=by kernel_rfl
theorem func64:prog.funcs[64]?=some Tryz.f64:=by kernel_rfl
theorem func66:prog.funcs[66]?=some Tryz.f66:=by kernel_rfl
theorem func67:prog.funcs[67]?=some Tryz.f67:=by kernel_rfl
theorem func68:prog.funcs[68]?=some Tryz.f68:=by kernel_rfl
theorem func69:prog.funcs[69]?=some Tryz.f69:=by kernel_rfl
theorem func83:prog.funcs[83]?=some Tryz.f83:=by kernel_rfl
theorem func89:prog.funcs[89]?=some Tryz.f89:=by kernel_rfl
theorem func90:prog.funcs[90]?=some Tryz.f90:=by kernel_rfl
theorem func91:prog.funcs[91]?=some Tryz.f91:=by kernel_rfl
theorem func92:prog.funcs[92]?=some Tryz.f92:=by kernel_rfl
theorem func93:prog.funcs[93]?=some Tryz.f93:=by kernel_rfl
theorem func94:prog.funcs[94]?=some Tryz.f94:=by kernel_rfl
theorem func95:prog.funcs[95]?=some Tryz.f95:=by kernel_rfl
theorem func96:prog.funcs[96]?=some Tryz.f96:=by kernel_rfl
theorem func97:prog.funcs[97]?=some Tryz.f97:=by kernel_rfl
theorem func98:prog.funcs[98]?=some Tryz.f98:=by kernel_rfl
theorem func99:prog.funcs[99]?=some Tryz.f99:=by kernel_rfl
theorem func100:prog.funcs[100]?=some Tryz.f100:=by kernel_rfl
theorem func101:prog.funcs[101]?=some Tryz.f101:=by kernel_rfl
theorem func102:prog.funcs[102]?=some Tryz.f102:=by kernel_rfl
theorem func103:prog.funcs[103]?=some Tryz.f103:=by kernel_rfl
theorem func104:prog.funcs[104]?=some Tryz.f104:=by kernel_rfl
theorem func105:prog.funcs[105]?=some Tryz.f105:=by kernel_rfl
theorem func106:prog.funcs[106]?=some Tryz.f106:=by kernel_rfl
theorem func112:prog.funcs[112]?=some Tryz.f112:=by kernel_rfl
theorem func113:prog.funcs[113]?=some Tryz.f113:=by kernel_rfl
theorem func114:prog.funcs[114]?=some Tryz.f114:=by kernel_rfl
theorem func115:prog.funcs[115]?=some Tryz.f115:=by kernel_rfl
theorem func116:prog.funcs[116]?=some Tryz.f116:=by kernel_rfl
theorem func117:prog.funcs[117]?=some Tryz.f117:=by kernel_rfl
theorem func118:prog.funcs[118]?=some Tryz.f118:=by kernel_rfl
theorem func119:prog.funcs[119]?=some Tryz.f119:=by kernel_rfl
theorem func120:prog.funcs[120]?=some Tryz.f120:=by kernel_rfl
theorem func121:prog.funcs[121]?=some Tryz.f121:=by kernel_rfl
@[simp] theorem isAgg0:∀(w:World),Sem.run prog (Go.isAgg 0) w=.ok Bool.false w:=by intros;kernel_rfl
@[simp] theorem isAgg3:∀(w:World),Sem.run prog (Go.isAgg 3) w=.ok Bool.false w:=by intros;kernel_rfl
@[simp] theorem isAgg4:∀(w:World),Sem.run prog (Go.isAgg 4) w=.ok Bool.false w:=by intros;kernel_rfl
@[simp] theorem isAgg5:∀(w:World),Sem.run prog (Go.isAgg 5) w=.ok Bool.false w:=by intros;kernel_rfl
@[simp] theorem isAgg9:∀(w:World),Sem.run prog (Go.isAgg 9) w=.ok Bool.false w:=by intros;kernel_rfl
@[simp] theorem isAgg32:∀(w:World),Sem.run prog (Go.isAgg 32) w=.ok Bool.false w:=by intros;kernel_rfl
@[simp] theorem isAgg96:∀(w:World),Sem.run prog (Go.isAgg 96) w=.ok Bool.false w:=by intros;kernel_rfl
@[simp] theorem isAgg101:∀(w:World),Sem.run prog (Go.isAgg 101) w=.ok Bool.false w:=by intros;kernel_rfl
@[simp] theorem isAgg105:∀(w:World),Sem.run prog (Go.isAgg 105) w=.ok Bool.false w:=by intros;kernel_rfl
@[simp] theorem isAgg108:∀(w:World),Sem.run prog (Go.isAgg 108) w=.ok Bool.false w:=by intros;kernel_rfl
@[simp] theorem isAgg120:∀(w:World),Sem.run prog (Go.isAgg 120) w=.ok Bool.false w:=by intros;kernel_rfl
@[simp] theorem isAgg123:∀(w:World),Sem.run prog (Go.isAgg 123) w=.ok Bool.false w:=by intros;kernel_rfl
@[simp] theorem isAgg130:∀(w:World),Sem.run prog (Go.isAgg 130) w=.ok Bool.false w:=by intros;kernel_rfl
@[simp] theorem isAgg150:∀(w:World),Sem.run prog (Go.isAgg 150) w=.ok Bool.false w:=by intros;kernel_rfl
@[simp] theorem isAgg151:∀(w:World),Sem.run prog (Go.isAgg 151) w=.ok Bool.false w:=by intros;kernel_rfl
@[simp] theorem isAgg169:∀(w:World),Sem.run prog (Go.isAgg 169) w=.ok Bool.false w:=by intros;kernel_rfl
@[simp] theorem isAgg172:∀(w:World),Sem.run prog (Go.isAgg 172) w=.ok Bool.false w:=by intros;kernel_rfl
@[simp] theorem isAgg176:∀(w:World),Sem.run prog (Go.isAgg 176) w=.ok Bool.false w:=by intros;kernel_rfl
@[simp] theorem isAgg177:∀(w:World),Sem.run prog (Go.isAgg 177) w=.ok Bool.false w:=by intros;kernel_rfl
theorem ntmps52:Tryz.f52.ntmps=26:=Tryz.ntmps52
theorem ntmps53:Tryz.f53.ntmps=18:=Tryz.ntmps53
theorem ntmps59:Tryz.f59.ntmps=17:=Tryz.ntmps59
@[simp] theorem runUnderlying48:∀(w:World),Sem.run prog (Go.underlying 48) w=.ok (TypeDesc.slice 3) w:=by intros;kernel_rfl
end Tw
@[simp] theorem Tw.runUnderlying58:∀(w:Go.World),Go.Sem.run Tw.prog (Go.underlying 58) w=Go.Result.ok (Go.TypeDesc.struct #[{name := "Y",type:=3,offset:=0,embedded:=Bool.false,tag := "",pkgPath := "",byteOffset:=0},{name := "X0",type:=3,offset:=1,embedded:=Bool.false,tag := "",pkgPath := "",byteOffset:=8},{name := "X1",type:=3,offset:=2,embedded:=Bool.false,tag := "",pkgPath := "",byteOffset:=16}]) w:=by first|(intros;kernel_rfl)|exact Tryz.runUnderlying58
@[simp] theorem Tw.runUnderlying98:∀(w:Go.World),Go.Sem.run Tw.prog (Go.underlying 98) w=Go.Result.ok (Go.TypeDesc.struct #[{name := "Run",type:=58,offset:=0,embedded:=Bool.true,tag := "",pkgPath := "",byteOffset:=0},{name := "piece",type:=3,offset:=3,embedded:=Bool.false,tag := "",pkgPath := "printworks/flat",byteOffset:=24}]) w:=by first|(intros;kernel_rfl)|exact Tryz.runUnderlying98
namespace Tw
@[simp] theorem sizeOf0:∀(w:World),Sem.run prog (Go.sizeOf 0) w=.ok 1 w:=by intros;kernel_rfl
@[simp] theorem sizeOf3:∀(w:World),Sem.run prog (Go.sizeOf 3) w=.ok 1 w:=by intros;kernel_rfl
@[simp] theorem sizeOf4:∀(w:World),Sem.run prog (Go.sizeOf 4) w=.ok 1 w:=by intros;kernel_rfl
@[simp] theorem sizeOf5:∀(w:World),Sem.run prog (Go.sizeOf 5) w=.ok 1 w:=by intros;kernel_rfl
@[simp] theorem sizeOf9:∀(w:World),Sem.run prog (Go.sizeOf 9) w=.ok 1 w:=by intros;kernel_rfl
@[simp] theorem sizeOf32:∀(w:World),Sem.run prog (Go.sizeOf 32) w=.ok 1 w:=by intros;kernel_rfl
@[simp] theorem sizeOf58:∀(w:World),Sem.run prog (Go.sizeOf 58) w=.ok 3 w:=by intros;kernel_rfl
@[simp] theorem sizeOf96:∀(w:World),Sem.run prog (Go.sizeOf 96) w=.ok 1 w:=by intros;kernel_rfl
@[simp] theorem sizeOf101:∀(w:World),Sem.run prog (Go.sizeOf 101) w=.ok 1 w:=by intros;kernel_rfl
@[simp] theorem sizeOf105:∀(w:World),Sem.run prog (Go.sizeOf 105) w=.ok 1 w:=by intros;kernel_rfl
@[simp] theorem sizeOf108:∀(w:World),Sem.run prog (Go.sizeOf 108) w=.ok 1 w:=by intros;kernel_rfl
@[simp] theorem sizeOf120:∀(w:World),Sem.run prog (Go.sizeOf 120) w=.ok 1 w:=by intros;kernel_rfl
@[simp] theorem sizeOf123:∀(w:World),Sem.run prog (Go.sizeOf 123) w=.ok 1 w:=by intros;kernel_rfl
@[simp] theorem sizeOf130:∀(w:World),Sem.run prog (Go.sizeOf 130) w=.ok 1 w:=by intros;kernel_rfl
@[simp] theorem sizeOf150:∀(w:World),Sem.run prog (Go.sizeOf 150) w=.ok 1 w:=by intros;kernel_rfl
@[simp] theorem sizeOf151:∀(w:World),Sem.run prog (Go.sizeOf 151) w=.ok 1 w:=by intros;kernel_rfl
@[simp] theorem sizeOf169:∀(w:World),Sem.run prog (Go.sizeOf 169) w=.ok 1 w:=by intros;kernel_rfl
@[simp] theorem sizeOf172:∀(w:World),Sem.run prog (Go.sizeOf 172) w=.ok 1 w:=by intros;kernel_rfl
@[simp] theorem sizeOf176:∀(w:World),Sem.run prog (Go.sizeOf 176) w=.ok 1 w:=by intros;kernel_rfl
@[simp] theorem sizeOf177:∀(w:World),Sem.run prog (Go.sizeOf 177) w=.ok 1 w:=by intros;kernel_rfl
@[simp] theorem stoodInHeld58:prog.stoodInHeld 58=Bool.false:=by kernel_rfl
@[simp] theorem stoodInHeld98:prog.stoodInHeld 98=Bool.false:=by kernel_rfl
@[simp] theorem type0:prog.types[0]?=some Tryz.t0:=by kernel_rfl
@[simp] theorem type3:prog.types[3]?=some Tryz.t3:=by kernel_rfl
@[simp] theorem type4:prog.types[4]?=some Tryz.t4:=by kernel_rfl
@[simp] theorem type48:prog.types[48]?=some Tryz.t48:=by kernel_rfl
@[simp] theorem type58:prog.types[58]?=some Tryz.t58:=by kernel_rfl
@[simp] theorem type89:prog.types[89]?=some Tryz.t89:=by kernel_rfl
@[simp] theorem type96:prog.types[96]?=some Tryz.t96:=by kernel_rfl
@[simp] theorem type98:prog.types[98]?=some Tryz.t98:=by kernel_rfl
@[simp] theorem type101:prog.types[101]?=some Tryz.t101:=by kernel_rfl
@[simp] theorem type105:prog.types[105]?=some Tryz.t105:=by kernel_rfl
@[simp] theorem underlying0:prog.underlying 0=some (TypeDesc.tuple #[]):=by kernel_rfl
@[simp] theorem underlying3:prog.underlying 3=some (TypeDesc.int IntKind.i64):=by kernel_rfl
@[simp] theorem underlying4:prog.underlying 4=some TypeDesc.bool:=by kernel_rfl
@[simp] theorem underlying5:prog.underlying 5=some (TypeDesc.int IntKind.u8):=by kernel_rfl
@[simp] theorem underlying9:prog.underlying 9=some TypeDesc.string:=by kernel_rfl
@[simp] theorem underlying32:prog.underlying 32=some (TypeDesc.slice 58):=by kernel_rfl
@[simp] theorem underlying48:prog.underlying 48=some (TypeDesc.slice 3):=by kernel_rfl
end Tw
@[simp] theorem Tw.underlying58:Tw.prog.underlying 58=Option.some (Go.TypeDesc.struct #[{name := "Y",type:=3,offset:=0,embedded:=Bool.false,tag := "",pkgPath := "",byteOffset:=0},{name := "X0",type:=3,offset:=1,embedded:=Bool.false,tag := "",pkgPath := "",byteOffset:=8},{name := "X1",type:=3,offset:=2,embedded:=Bool.false,tag := "",pkgPath := "",byteOffset:=16}]):=by first|(intros;kernel_rfl)|exact Tryz.underlying58
@[simp] theorem Tw.underlying89:Tw.prog.underlying 89=some (TypeDesc.slice 5):=by kernel_rfl
@[simp] theorem Tw.underlying96:Tw.prog.underlying 96=some (TypeDesc.slice 98):=by kernel_rfl
@[simp] theorem Tw.underlying98:Tw.prog.underlying 98=Option.some (Go.TypeDesc.struct #[{name := "Run",type:=58,offset:=0,embedded:=Bool.true,tag := "",pkgPath := "",byteOffset:=0},{name := "piece",type:=3,offset:=3,embedded:=Bool.false,tag := "",pkgPath := "printworks/flat",byteOffset:=24}]):=by first|(intros;kernel_rfl)|exact Tryz.underlying98
namespace Tw
@[simp] theorem underlying101:prog.underlying 101=some (TypeDesc.func #[98,98] #[3] Bool.false):=by kernel_rfl
@[simp] theorem underlying105:prog.underlying 105=some (TypeDesc.tuple #[3,4]):=by kernel_rfl
@[simp] theorem underlying108:prog.underlying 108=some (TypeDesc.func #[58,58] #[3] Bool.false):=by kernel_rfl
@[simp] theorem underlying120:prog.underlying 120=some (TypeDesc.int IntKind.u64):=by kernel_rfl
@[simp] theorem underlying123:prog.underlying 123=some (TypeDesc.int IntKind.u32):=by kernel_rfl
@[simp] theorem underlying130:prog.underlying 130=some (TypeDesc.int IntKind.u64):=by kernel_rfl
@[simp] theorem underlying150:prog.underlying 150=some (TypeDesc.int IntKind.i64):=by kernel_rfl
@[simp] theorem underlying151:prog.underlying 151=some (TypeDesc.tuple #[3,150]):=by kernel_rfl
@[simp] theorem underlying169:prog.underlying 169=some (TypeDesc.int IntKind.u64):=by kernel_rfl
@[simp] theorem underlying172:prog.underlying 172=some (TypeDesc.pointer 3):=by kernel_rfl
@[simp] theorem underlying176:prog.underlying 176=some (TypeDesc.pointer 169):=by kernel_rfl
@[simp] theorem underlying177:prog.underlying 177=some (TypeDesc.tuple #[3,3]):=by kernel_rfl
@[simp] theorem zeroValue0:∀(w:World),Sem.run prog (Go.zeroValue 0) w=.ok (Value.tuple #[]) w:=by intros;kernel_rfl
@[simp] theorem zeroValue3:∀(w:World),Sem.run prog (Go.zeroValue 3) w=.ok (Value.int IntKind.i64 0) w:=by intros;kernel_rfl
@[simp] theorem zeroValue4:∀(w:World),Sem.run prog (Go.zeroValue 4) w=.ok (Value.bool Bool.false) w:=by intros;kernel_rfl
@[simp] theorem zeroValue5:∀(w:World),Sem.run prog (Go.zeroValue 5) w=.ok (Value.int IntKind.u8 0) w:=by intros;kernel_rfl
@[simp] theorem zeroValue9:∀(w:World),Sem.run prog (Go.zeroValue 9) w=.ok (Value.string {data:=#[]}) w:=by intros;kernel_rfl
@[simp] theorem zeroValue32:∀(w:World),Sem.run prog (Go.zeroValue 32) w=.ok (Value.slice none 0 0) w:=by intros;kernel_rfl
@[simp] theorem zeroValue96:∀(w:World),Sem.run prog (Go.zeroValue 96) w=.ok (Value.slice none 0 0) w:=by intros;kernel_rfl
@[simp] theorem zeroValue101:∀(w:World),Sem.run prog (Go.zeroValue 101) w=.ok Value.nilFunc w:=by intros;kernel_rfl
@[simp] theorem zeroValue105:∀(w:World),Sem.run prog (Go.zeroValue 105) w=.ok (Value.tuple #[Value.int IntKind.i64 0,Value.bool Bool.false]) w:=by intros;kernel_rfl
@[simp] theorem zeroValue108:∀(w:World),Sem.run prog (Go.zeroValue 108) w=.ok Value.nilFunc w:=by intros;kernel_rfl
@[simp] theorem zeroValue120:∀(w:World),Sem.run prog (Go.zeroValue 120) w=.ok (Value.int IntKind.u64 0) w:=by intros;kernel_rfl
@[simp] theorem zeroValue123:∀(w:World),Sem.run prog (Go.zeroValue 123) w=.ok (Value.int IntKind.u32 0) w:=by intros;kernel_rfl
@[simp] theorem zeroValue130:∀(w:World),Sem.run prog (Go.zeroValue 130) w=.ok (Value.int IntKind.u64 0) w:=by intros;kernel_rfl
@[simp] theorem zeroValue150:∀(w:World),Sem.run prog (Go.zeroValue 150) w=.ok (Value.int IntKind.i64 0) w:=by intros;kernel_rfl
@[simp] theorem zeroValue151:∀(w:World),Sem.run prog (Go.zeroValue 151) w=.ok (Value.tuple #[Value.int IntKind.i64 0,Value.int IntKind.i64 0]) w:=by intros;kernel_rfl
@[simp] theorem zeroValue169:∀(w:World),Sem.run prog (Go.zeroValue 169) w=.ok (Value.int IntKind.u64 0) w:=by intros;kernel_rfl
@[simp] theorem zeroValue172:∀(w:World),Sem.run prog (Go.zeroValue 172) w=.ok (Value.pointer none) w:=by intros;kernel_rfl
@[simp] theorem zeroValue176:∀(w:World),Sem.run prog (Go.zeroValue 176) w=.ok (Value.pointer none) w:=by intros;kernel_rfl
@[simp] theorem zeroValue177:∀(w:World),Sem.run prog (Go.zeroValue 177) w=.ok (Value.tuple #[Value.int IntKind.i64 0,Value.int IntKind.i64 0]) w:=by intros;kernel_rfl
end Tw
end
namespace Num
open Go.RowKit
def nr(a b:Int):Int:=if b-(a-a/b*b)<=a-a/b*b then a/b+1 else a/b
def cutI(x low high:Int):Int:=low+x%(high-low+1)
theorem ak1(x low high:Int)(h:low<=high):low<=cutI x low high/\cutI x low high<=high:=by
 unfold cutI;have h1:=Int.emod_nonneg x (b:=high-low+1) (by omega);have h2:=Int.emod_lt_of_pos x (b:=high-low+1) (by omega);omega
theorem bR2(x n:Int)(hn:1<=n):x.tmod n%n=x%n/\ -n<x.tmod n/\x.tmod n<n:=by
 have h1:=Int.lt_tmod_of_pos x (b:=n) (by omega);have h2:=Int.tmod_lt_of_pos x (b:=n) (by omega);refine⟨?_,h1,h2⟩;have h3:=Int.mul_tdiv_add_tmod x n;rw[<-Int.mul_add_emod_self_left n (x.tdiv n) (x.tmod n),h3]
end Num
namespace Aff
open Go.RowKit Sx Num
theorem mixed:Tw.prog.follows .mixedOrders=true:=by kernel_rfl
structure Mat where
 a:Int
 b:Int
 c:Int
 d:Int
 e:Int
 f:Int
def inR(x m:Int):Bool:=decide (-m<=x)&&decide (x<=m)
def Mat.ok(m:Mat):Bool:=inR m.a 1048576&&(inR m.b 1048576&&(inR m.c 1048576&&(inR m.d 1048576&&(inR m.e 268435456&&inR m.f 268435456))))
def Mat.imgX(m:Mat)(x y:Int):Int:=nr (m.a*x+m.c*y+m.e) 4096
def Mat.imgY(m:Mat)(x y:Int):Int:=nr (m.b*x+m.d*y+m.f) 4096
def Mat.appE(m:Mat)(x y:Int):Int:=
 if m.ok=false then 3 else if(inR x 32767&&inR y 32767)=false then 3 else if(inR (m.imgX x y) 32767&&inR (m.imgY x y) 32767)=false then 10 else 0
def Mat.out(m n:Mat):Mat:=⟨nr (n.a*m.a+n.c*m.b) 4096,nr (n.b*m.a+n.d*m.b) 4096,nr (n.a*m.c+n.c*m.d) 4096,nr (n.b*m.c+n.d*m.d) 4096,nr (n.a*m.e+n.c*m.f) 4096+n.e,nr (n.b*m.e+n.d*m.f) 4096+n.f⟩
end Aff
namespace Con
open Go.RowKit Sx Num Aff
def aI(x:Int):Int:=if x<0 then -x else x
structure Pt where
 x:Int
 y:Int
def ptL(p:Pt):List SV:=[.int .i64 p.x,.int .i64 p.y]
def ptS(p:Pt):SV:= .agg 2 (lst (ptL p))
structure NrG where
 a:Pt
 m:Pt
 b:Pt
def Pt.in(p:Pt)(n:Int):Prop:=(-n<=p.x/\p.x<=n)/\ -n<=p.y/\p.y<=n
def cf0(g:NrG):Prop:=((min g.a.x g.b.x-1<=g.m.x/\g.m.x<=max g.a.x g.b.x+1)/\min g.a.y g.b.y-1<=g.m.y/\g.m.y<=max g.a.y g.b.y+1)/\
 aI ((g.b.x-g.a.x)*(g.m.y-g.a.y)-(g.b.y-g.a.y)*(g.m.x-g.a.x))<=max (max (aI (g.b.x-g.a.x)) (aI (g.b.y-g.a.y))) 1
instance (g:NrG):Decidable (cf0 g):=by unfold cf0;infer_instance
structure Cur where
 x0:Int
 y0:Int
 x1:Int
 y1:Int
 x2:Int
 y2:Int
 w:Int
def inC(x:Int):Prop:= -32767<=x/\x<=32767
def Cur.ok(c:Cur):Prop:=((inC c.x0/\inC c.y0)/\inC c.x1/\inC c.y1)/\(inC c.x2/\inC c.y2)/\16<=c.w/\c.w<=4096
def sumC(w k n:Int):Int:=256*(n-k)*(n-k)+2*k*(n-k)*w+256*k*k
def atC(x0 x1 x2 w k n:Int):Int:=nr (256*(n-k)*(n-k)*x0+2*k*(n-k)*w*x1+256*k*k*x2) (sumC w k n)
def Cur.at(c:Cur)(k n:Int):Pt:=⟨atC c.x0 c.x1 c.x2 c.w k n,atC c.y0 c.y1 c.y2 c.w k n⟩
structure AtG where
 c:Cur
 k:Int
 n:Int
def AtG.ok(g:AtG):Prop:=g.c.ok/\(0<=g.k/\g.k<=g.n)/\1<=g.n/\g.n<=1024
def midP(c:Cur)(n k:Int):Prop:=cf0 ⟨c.at k n,c.at (2*k+1) (2*n),c.at (k+1) n⟩
instance (c:Cur) (n k:Int):Decidable (midP c n k):=by unfold midP;infer_instance
structure FlG where
 c:Cur
 n:Int
end Con
namespace Rga
open Go.RowKit Sx Num Aff Con
structure Rn where
 y:Int
 x0:Int
 x1:Int
def rnL(r:Rn):List SV:=[.int .i64 r.y,.int .i64 r.x0,.int .i64 r.x1]
def rnS(r:Rn):SV:= .agg 3 (lst (rnL r))
def rnD(g:Nat->SV):Rn:=⟨Sx.intOf (g 0),Sx.intOf (g 1),Sx.intOf (g 2)⟩
def rI(L:List Rn)(i:Nat):Rn:=L.getD i ⟨0,0,0⟩
structure Rg where
 n:Nat
 f:Nat->Rn
def Rg.L(g:Rg):List Rn:=(List.range g.n).map g.f
def rgS(g:Rg):SV:= .sl g.n 3 (λi=>lst (rnL (g.f i)))
def al4(L:List Rn):SV:= .sl L.length 3 (λi=>lst (rnL (rI L i)))
def rgD:SV->Nat->Rn
 |.sl _ _ f=>λi=>rnD (f i)
 |_=>λ_=>⟨0,0,0⟩
theorem Rg.L_of(L:List Rn):Rg.L ⟨L.length,rI L⟩=L:=by
 unfold Rg.L;apply lam
 ·simp
 ·intro i h1 h2;simp[rI,la,lw h2]
theorem Rg.len(g:Rg):g.L.length=g.n:=by simp[Rg.L]
theorem Rg.rI{g:Rg}{i:Nat}(h:i<g.n):rI g.L i=g.f i:=by
 simp[Rga.rI,Rg.L,la,h]
def okR(r:Rn):Prop:=((-8192<=r.y/\r.y<8192)/\(-8192<=r.x0/\r.x0<=8192)/\ -8192<=r.x1/\r.x1<=8192)/\r.x0<r.x1
def ltR(r s:Rn):Prop:=r.y<s.y\/(r.y=s.y/\r.x1<s.x0)
def vld(L:List Rn):Prop:=(∀r∈L,okR r)/\L.Pairwise ltR
def ay8:FSpec:=aa9 29 (γ:=Int) (λ| [.int _ x]=>some x|_=>none) (λx=>[.int .i64 x]) (λ_=>True) (λx=> .bool (decide (-8192<=x)&&decide (x<8192)))
theorem aJ2:aa5 Tw.prog ay8:=by
 refine ssW (specs:=[]) trivial Tw.func29 (λg=>A0) ?_;rintro x hx;refine ac7 (B:=let z0:=(decide ((-8192:Int)<=x)&&decide (x<(8192:Int)));Tt/\Tt/\Tt/\Tt/\Br (decide ((-8192:Int)<=x)) (Tt/\Tt/\Tt/\Tt/\Tt/\Aq (decide (x<(8192:Int))=z0)) (Tt/\Tt/\Tt/\Aq (false=z0))) ?_;simp only[cln];refine⟨λh=>?_,λh=>?_⟩
 ·rw[lg h];rfl
 ·rw[lf h];rfl
def a11:FSpec:=aa9 35 (γ:=Int) (λ| [.int _ x]=>some x|_=>none) (λx=>[.int .i64 x]) (λ_=>True) (λx=> .bool (decide (-8192<=x)&&decide (x<=8192)))
theorem be7:aa5 Tw.prog a11:=by
 refine ssW (specs:=[]) trivial Tw.func35 (λg=>A0) ?_;rintro x hx;refine ac7 (B:=let z0:=(decide ((-8192:Int)<=x)&&decide (x<=(8192:Int)));Tt/\Tt/\Tt/\Tt/\Br (decide ((-8192:Int)<=x)) (Tt/\Tt/\Tt/\Tt/\Tt/\Aq (decide (x<=(8192:Int))=z0)) (Tt/\Tt/\Tt/\Aq (false=z0))) ?_;simp only[cln];refine⟨λh=>?_,λh=>?_⟩
 ·rw[lg h];rfl
 ·rw[lf h];rfl
def bR6(g:Rg):Inv:=⟨Int,λi=>0<=i/\i<=g.n,λi=>⟨[(0,rgS g),(5,rgS g),(6,.int .i64 g.n),(7,.int .i64 i)],[]⟩,λi=>(g.n-i).toNat⟩
def aw2:FSpec:=aa9 28 (γ:=Rg) (λ| [s]=>some ⟨aj1 s,rgD s⟩|_=>none) (λg=>[rgS g]) (λg=>vld g.L/\g.n<=4294967296) (λ_=> .int .i64 0)
theorem au2:aa5 Tw.prog aw2:=by
 refine ssW (specs:=[ay8,a11]) (⟨aJ2,be7,trivial⟩) Tw.func28 (λg=>(⟨[(2,.inv (bR6 g))],[]⟩:Ann)) ?_;rintro g hg;refine ac7 (B:=let T4:=λp:Prop=>Tt/\Tt/\Tt/\Tt/\p;let T5:=λp:Prop=>Tt/\Tt/\Tt/\Tt/\Tt/\p;let K:=Br;let A:=Aq;let z11:=(↑g.n:Int);let z9:=(bR6 g);let z8:=(1:Int);let z7:=(0:Int);let z1:=(IntKind.i64=IntKind.i64);let q1:=λp:Int=>A z1/\A (p=p);let z5:=(q1 z11);let z0:=(A (g.n=g.n)/\∀i:Nat,i<g.n->((Tt/\q1 ((g.f i).y))/\q1 ((g.f i).x0))/\q1 ((g.f i).x1));T4 ((∃g_1:Int,A (z9.pre g_1)/\(z0/\z0/\z5/\(A z1/\A (z7=g_1))/\Tt)/\Tt)/\∀g_1:Int,let z10:=(g.f (g_1-z8).toNat);let z6:=(z7<=g_1-z8/\g_1-z8<z11);let z4:=(g.f g_1.toNat);let z3:=((-9223372036854775808:Int)<=g_1+z8/\g_1+z8<=(9223372036854775807:Int));let z2:=((-9223372036854775808:Int)<=g_1-z8/\g_1-z8<=(9223372036854775807:Int));z9.pre g_1->Tt/\K (decide (g_1<z11)) (Tt/\A (z7<=g_1/\g_1<z11)/\T5 (Tt/\(((q1 z4.y)/\Tt)/\A True)/\Tt/\Tt/\K (!(decide ((-8192:Int)<=z4.y)&&decide (z4.y<(8192:Int)))) (T5 (A z1/\A ((3:Int)=z7))) (Tt/\Tt/\(((q1 z4.x0)/\Tt)/\A True)/\Tt/\Tt/\Tt/\K (!(decide ((-8192:Int)<=z4.x0)&&decide (z4.x0<=(8192:Int)))) (Tt/\Tt/\Tt/\A z1/\A ((3:Int)=z7)) (Tt/\Tt/\(((q1 z4.x1)/\Tt)/\A True)/\Tt/\Tt/\K (!(decide ((-8192:Int)<=z4.x1)&&decide (z4.x1<=(8192:Int)))) (Tt/\Tt/\A z1/\A ((3:Int)=z7)) (T5 (K (decide (z4.x1<=z4.x0)) (Tt/\Tt/\A z1/\A ((4:Int)=z7)) (Tt/\Tt/\Tt/\K (decide (z7<g_1)) (T4 (A z2/\A z6/\T5 (K (decide (z4.y<=z10.y)) (T4 (A z2/\A z6/\T4 (K (decide (z4.y<z10.y)) (T4 (A z1/\A ((18:Int)=z7))) (T4 (A z2/\A z6/\T5 (K (decide (z4.x0<=z10.x1)) (Tt/\Tt/\A z1/\A ((18:Int)=z7)) (A z3/\Tt/\∃(g':Int),A (z9.pre g')/\((z0/\z0/\z5/\(A z1/\A (g_1+z8=g'))/\Tt)/\Tt)/\A (z9.meas g'<z9.meas g_1)))))))) (Tt/\A z3/\Tt/\∃(g':Int),A (z9.pre g')/\((z0/\z0/\z5/\(A z1/\A (g_1+z8=g'))/\Tt)/\Tt)/\A (z9.meas g'<z9.meas g_1))))) (Tt/\Tt/\Tt/\A z3/\Tt/\∃(g':Int),A (z9.pre g')/\((z0/\z0/\z5/\(A z1/\A (g_1+z8=g'))/\Tt)/\Tt)/\A (z9.meas g'<z9.meas g_1))))))))) (Tt/\Tt/\q1 z7))) ?_;simp only[cln];obtain⟨⟨h1,h2⟩,h3⟩:=hg;have ok:∀i<g.n,okR (g.f i):=λi hi=>h1 _ (lX.2 ⟨i,lG.2 hi,rfl⟩)
 have lt:∀i,i+1<g.n->ltR (g.f i) (g.f (i+1)):=λi hi=>by
  have:=uu.1 h2 i (i+1) (by rw[Rg.len];omega) (by rw[Rg.len];exact hi) (by omega)
  simpa[Rg.L]using this
 refine⟨⟨0,⟨xp _,Int.natCast_nonneg _⟩,rfl⟩,λi hi hlt=>?_⟩;have hi:0<=i/\i<=g.n:=hi;obtain⟨k,rfl⟩:∃k:Nat,i=k:=⟨i.toNat,by omega⟩
 have e1:((k:Int)).toNat=k:=rfl;have e2:((k:Int)-1).toNat=k-1:=by omega
 have hk:=ok k (by omega);obtain⟨⟨⟨a1,a2⟩,⟨b1,b2⟩,c1,c2⟩,d1⟩:=hk;rw[e1,e2,lg a1,lg a2,lg b1,lg b2,lg c1,lg c2];have fin:(-9223372036854775808<=(k:Int)+1/\(k:Int)+1<=9223372036854775807)/\∃g':Int,(bR6 g).pre g'/\(k:Int)+1=g'/\(bR6 g).meas g'<(bR6 g).meas (k:Int):=by
  refine⟨by omega,(k:Int)+1,⟨by omega,by omega⟩,rfl,?_⟩;show((g.n:Int)-(k+1)).toNat<((g.n:Int)-k).toNat;omega
 refine⟨by omega,λh=>absurd h (by decide),λ_=>⟨λh=>absurd h (by decide),λ_=>⟨λh=>absurd h (by decide),λ_=>⟨λh=>absurd h (by omega),λ_=>⟨λh0=>?_,λ_=>fin⟩⟩⟩⟩⟩;have hl:=lt (k-1) (by omega);rw[show k-1+1=k by omega]at hl;have q1 : -9223372036854775808<=(k:Int)-1/\(k:Int)-1<=9223372036854775807:=by clear fin;omega
 have q2:0<=(k:Int)-1/\(k:Int)-1<(g.n:Int):=by clear fin;omega
 have hl:(g.f (k-1)).y<(g.f k).y\/((g.f (k-1)).y=(g.f k).y/\(g.f (k-1)).x1<(g.f k).x0):=hl;exact⟨q1,q2,λhy=>⟨q1,q2,λhy2=>absurd hl (by clear fin;omega),λhy2=>⟨q1,q2,λhx=>absurd hl (by clear fin;omega),λ_=>fin⟩⟩,λ_=>fin⟩
def addR(L:List Rn)(r:Rn):List Rn:=if r.x0<r.x1 then(match L.getLast? with
 |some s=>if s.y=r.y/\r.x0<=s.x1 then L.dropLast++[⟨s.y,s.x0,if r.x1>s.x1 then r.x1 else s.x1⟩]else L++[r]
 |none=>[r])else L
theorem b49(L:List Rn)(r:Rn)(i:Nat)(h:i<L.length+1):rI (L++[r]) i=if i<L.length then rI L i else r:=by
 unfold rI;by_cases hi:i<L.length
 ·rw[ll hi,la,xh hi,la]
 ·rw[lu hi,show i=L.length by omega];simp
theorem bK6(L:List Rn)(s:Rn)(i:Nat)(h:i<L.length)(h0:0<L.length):rI (L.dropLast++[s]) i=if i=L.length-1 then s else rI L i:=by
 unfold rI;by_cases hi:i=L.length-1
 ·rw[ll hi,hi];simp
 ·rw[lu hi,la,xh (by rw[xN];omega),la,List.getElem?_dropLast,ll (by omega)]
structure AdG where
 n:Nat
 f:Nat->Rn
 r:Rn
def AdG.L(g:AdG):List Rn:=addR (Rg.L ⟨g.n,g.f⟩) g.r
def adD:List SV->List SO->Option AdG
 | [_,.int _ y,.int _ x0,.int _ x1],[_,.row _ n _ g _]=>some ⟨n,λi=>rnD (g i),⟨y,x0,x1⟩⟩
 |_,_=>none
def aO6:FSpec:=af2 30 [.arg 0,.cell 0 0] adD (λg=>[.own 0 0,.int .i64 g.r.y,.int .i64 g.r.x0,.int .i64 g.r.x1])
 (λg=>[.cells 1 (lst [.osl 1 0]) 67,.row 0 g.n 3 (λi=>lst (rnL (g.f i))) 58]) (λg=>g.n<=4294967296)
 (λ_=> .tup 0 (lst []))
 (λg=>[.cells 1 (lst [.osl 1 1]) 67,.row 1 g.L.length 3 (λi=>lst (rnL (rI g.L i))) 58])
theorem aF8:aa5 Tw.prog aO6:=by
 refine smW (specs:=[]) trivial Tw.func30 (λg=>A0) false ?_;rintro g hg;refine ac7 (B:=let T5:=λp:Prop=>Tt/\Tt/\Tt/\Tt/\Tt/\p;let T10:=λp:Prop=>Tt/\Tt/\Tt/\Tt/\Tt/\Tt/\Tt/\Tt/\Tt/\Tt/\p;let K:=Br;let A:=Aq;let z11:=(2:Nat);let z10:=(0:Nat);let z9:=(1:Nat);let z7:=(↑g.n:Int);let z5:=(Tt/\Tt);let z4:=(IntKind.i64=IntKind.i64);let z3:=(g.n+z9<=(9223372036854775807:Nat)/\(g.n+z9)*(24:Nat)<=(140737488355328:Nat));let z2:=((0:Int)<=z7-(1:Int)/\z7-(1:Int)<z7);let z1:=(z7-(1:Int));let z8:=(z1.toNat<g.n);let z6:=(g.f z1.toNat);let z0:=(A (g.n+z9=g.L.length)/\∀i:Nat,i<g.L.length->((Tt/\A z4/\A ((bif decide (i<g.n)then(g.f i).y else g.r.y)=(rI g.L i).y))/\A z4/\A ((bif decide (i<g.n)then(g.f i).x0 else g.r.x0)=(rI g.L i).x0))/\A z4/\A ((bif decide (i<g.n)then(g.f i).x1 else g.r.x1)=(rI g.L i).x1));Tt/\Tt/\Tt/\K (decide (g.r.x1<=g.r.x0)) (Tt/\Tt/\z5/\z5/\(A (g.n=g.L.length)/\∀i:Nat,i<g.L.length->((Tt/\A z4/\A ((g.f i).y=(rI g.L i).y))/\A z4/\A ((g.f i).x0=(rI g.L i).x0))/\A z4/\A ((g.f i).x1=(rI g.L i).x1))/\Tt) (T5 (A ((-9223372036854775808:Int)<=z7-(1:Int)/\z7-(1:Int)<=(9223372036854775807:Int))/\Tt/\Tt/\Tt/\Tt/\K (decide ((0:Int)<=z7-(1:Int))) (T5 (A z2/\Tt/\A z8/\Tt/\Tt/\Tt/\Tt/\K (decide (z6.y=g.r.y)) (T5 (Tt/\A z2/\Tt/\A z8/\Tt/\Tt/\K (decide (g.r.x0<=z6.x1)) (T10 (A z2/\Tt/\A z8/\Tt/\Tt/\A z2/\Tt/\A z8/\Tt/\Tt/\z5/\z5/\(A (g.n=g.L.length)/\∀i:Nat,i<g.L.length->((Tt/\A z4/\A ((bif decide (i=z1.toNat/\z10+z11<=z10/\z10<z10+z11+z9)then if g.r.x1>z6.x1 then g.r.x1 else z6.x1 else(g.f i).y)=(rI g.L i).y))/\A z4/\A ((bif decide (i=z1.toNat/\z10+z11<=z9/\z9<z10+z11+z9)then if g.r.x1>z6.x1 then g.r.x1 else z6.x1 else(g.f i).x0)=(rI g.L i).x0))/\A z4/\A ((bif decide (i=z1.toNat/\z10+z11<=z11/\z11<z10+z11+z9)then if g.r.x1>z6.x1 then g.r.x1 else z6.x1 else(g.f i).x1)=(rI g.L i).x1))/\Tt)) (T10 (A z3/\T5 (z5/\z5/\z0/\Tt))))) (T10 (Tt/\A z3/\T5 (z5/\z5/\z0/\Tt))))) (T10 (Tt/\Tt/\Tt/\A z3/\T5 (z5/\z5/\z0/\Tt)))))) ?_;simp only[cln];have hlen:(Rg.L ⟨g.n,g.f⟩).length=g.n:=Rg.len _;have hget:∀i<g.n,rI (Rg.L ⟨g.n,g.f⟩) i=g.f i:=λi hi=>Rg.rI (g:=⟨g.n,g.f⟩) hi
 have hL:g.L=addR (Rg.L ⟨g.n,g.f⟩) g.r:=rfl;generalize Rg.L ⟨g.n,g.f⟩=L at hlen hget hL;rw[hL];have app:∀(i:Nat),i<(L++[g.r]).length->((bif decide (i<g.n)then(g.f i).y else g.r.y)=(rI (L++[g.r]) i).y/\(bif decide (i<g.n)then(g.f i).x0 else g.r.x0)=(rI (L++[g.r]) i).x0)/\(bif decide (i<g.n)then(g.f i).x1 else g.r.x1)=(rI (L++[g.r]) i).x1:=λi hi=>by
  rw[b49 L g.r i (by simpa using hi),hlen];by_cases h:i<g.n
  ·rw[lg h,ll h,hget i h];exact⟨⟨rfl,rfl⟩,rfl⟩
  ·rw[lf h,lu h];exact⟨⟨rfl,rfl⟩,rfl⟩
 have bnd:g.n+1<=9223372036854775807/\(g.n+1)*24<=140737488355328:=by omega
 have e1:((g.n:Int)-1).toNat=g.n-1:=by omega
 rw[e1];refine⟨λh=>?_,λh=>⟨by omega,λh0=>?_,λh0=>?_⟩⟩
 ·have e:addR L g.r=L:=lu (by omega);rw[e];exact⟨hlen.symm,λi hi=>by rw[hget i (by omega)];exact⟨⟨rfl,rfl⟩,rfl⟩⟩
 ·have hn:0<g.n:=by omega
  have hlast:L.getLast?=some (g.f (g.n-1)):=by
   rw[<-hget (g.n-1) (by omega),List.getLast?_eq_getElem?,hlen];unfold rI;rw[la,lw (show g.n-1<L.length by omega)];rfl
  have ea:addR L g.r=if(g.f (g.n-1)).y=g.r.y/\g.r.x0<=(g.f (g.n-1)).x1 then L.dropLast++[⟨(g.f (g.n-1)).y,(g.f (g.n-1)).x0,if g.r.x1>(g.f (g.n-1)).x1 then g.r.x1 else(g.f (g.n-1)).x1⟩]else L++[g.r]:=by
   unfold addR;rw[ll (by omega),hlast]
  have q1:0<=(g.n:Int)-1/\(g.n:Int)-1<g.n:=by omega
  have q2:g.n-1<g.n:=by omega
  refine⟨q1,q2,λhy=>⟨q1,q2,λhx=>⟨q1,q2,q1,q2,?_⟩,λhx=>⟨bnd,?_⟩⟩,λhy=>⟨bnd,?_⟩⟩
  ·rw[ea,ll ⟨hy,hx⟩];refine⟨by rw[lx,xN,xJ];omega,λi hi=>?_⟩;rw[bK6 L _ i (by rw[lx,xN,xJ]at hi;omega) (by omega),hlen];by_cases h:i=g.n-1
   ·rw[lf (by omega),lf (by omega),lg ⟨h,by omega⟩,ll h,h];exact⟨⟨rfl,rfl⟩,rfl⟩
   ·rw[lf (by omega),lf (by omega),lf (by omega),lu h,hget i (by rw[lx,xN,xJ]at hi;omega)];exact⟨⟨rfl,rfl⟩,rfl⟩
  ·rw[ea,lu (λh=>hx h.2)];exact⟨by simp[hlen],app⟩
  ·rw[ea,lu (λh=>hy h.1)];exact⟨by simp[hlen],app⟩
 ·have hn:g.n=0:=by omega
  have eL:L=[]:=uA.1 (by omega);have ea:addR L g.r=L++[g.r]:=by
   unfold addR;rw[ll (by omega),eL];rfl
  rw[ea];exact⟨bnd,by simp[hlen],app⟩
def orI(a b:Int):Int:=if a=0 then b else a
def spOr:FSpec:=aa9 53 (γ:=Nat->Int) (λ| [.sl _ _ f]=>some (λi=>Sx.intOf (f i 0))|_=>none) (λf=>[.sl 2 1 (λi=>lst [.int .i64 (f i)])]) (λ_=>True) (λf=> .int .i64 (orI (f 0) (f 1)))
theorem cp8:aa5 Tw.prog spOr:=by
 refine ssW (specs:=[]) trivial Tw.func53 (λg=>(⟨[(3,.rounds 3)],[]⟩:Ann)) ?_;rintro g hg;refine ac7 (B:=let T5:=λp:Prop=>Tt/\Tt/\Tt/\Tt/\Tt/\p;let A:=Aq;let z2:=(1:Int);let z1:=(IntKind.i64=IntKind.i64);let z0:=(0:Int);T5 (Tt/\A (z0<=z0/\z0<(↑(2:Nat):Int))/\T5 (Br (decide (g (Int.toNat z0)≠z0)) (Tt/\Tt/\Tt/\A z1/\A (g (Int.toNat z0)=orI (g (0:Nat)) (g (1:Nat)))) (A ((-9223372036854775808:Int)<=z0+z2/\z0+z2<=(9223372036854775807:Int))/\Tt/\Tt/\A (z0<=z0+z2/\z0+z2<(↑(2:Nat):Int))/\T5 (Br (decide (g (z0+z2).toNat≠z0)) (Tt/\Tt/\Tt/\A z1/\A (g (z0+z2).toNat=orI (g (0:Nat)) (g (1:Nat)))) (A ((-9223372036854775808:Int)<=z0+z2+z2/\z0+z2+z2<=(9223372036854775807:Int))/\T5 (A z1/\A (z0=orI (g (0:Nat)) (g (1:Nat)))))))))) ?_;simp only[cln];refine⟨by decide,λh=>?_,λh=>⟨by decide,by decide,λh2=>?_,λh2=>⟨by decide,?_⟩⟩⟩
 ·unfold orI;exact(lu h).symm
 ·have h':g 0=0:=Classical.not_not.1 h;unfold orI;exact(ll h').symm
 ·have h':g 0=0:=Classical.not_not.1 h;have h3:g 1=0:=Classical.not_not.1 h2;unfold orI;rw[ll h',h3]
structure Eg where
 y:Int
 x:Int
 who:Int
def egL(e:Eg):List SV:=[.int .i64 e.y,.int .i64 e.x,.int .i64 e.who]
structure EsG where
 g:Rg
 w:Int
def eX(f:Nat->Rn)(k:Nat):Int:=if k%2=0 then(f (k/2)).x0 else(f (k/2)).x1
def eAt(f:Nat->Rn)(w:Int)(k:Nat):Eg:=⟨(f (k/2)).y,eX f k,w⟩
def bD2(g:EsG):Inv:=⟨Int,λi=>0<=i/\i<=g.g.n,λi=>⟨[(1,.int .i64 g.w),(5,.osl 0 0),(12,rgS g.g),(13,.int .i64 g.g.n),(14,.int .i64 i)],[.row 0 (2*i.toNat) 3 (λk=>lst [.int .i64 (g.g.f (k/2)).y,.int .i64 (eX g.g.f k),.int .i64 g.w]) 113]⟩,λi=>(g.g.n-i).toNat⟩
def bl7:FSpec:=aa9 60 (γ:=EsG) (λ| [s,.int _ w]=>some ⟨⟨aj1 s,rgD s⟩,w⟩|_=>none) (λg=>[rgS g.g,.int .i64 g.w]) (λg=>g.g.n<=4294967296) (λg=> .sl (2*g.g.n) 3 (λk=>lst [.int .i64 (g.g.f (k/2)).y,.int .i64 (eX g.g.f k),.int .i64 g.w]))
theorem bu5:aa5 Tw.prog bl7:=by
 refine ssW (specs:=[]) trivial Tw.func60 (λg=>(⟨[(3,.inv (bD2 g))],[]⟩:Ann)) ?_;rintro g hg;refine ac7 (B:=let A:=Aq;let z6:=(0:Int);let z5:=(9223372036854775807:Int);let z3:=(↑g.g.n:Int);let z2:=(2:Nat);let z0:=(IntKind.i64=IntKind.i64);let q0:=λp:Int=>A z0/\A (p=p);let z1:=(A (g.g.n=g.g.n)/\∀i:Nat,i<g.g.n->((Tt/\q0 ((g.g.f i).y))/\q0 ((g.g.f i).x0))/\q0 ((g.g.f i).x1));Tt/\Tt/\Tt/\A ((-9223372036854775808:Int)<=(2:Int)*z3/\(2:Int)*z3<=z5)/\A (z6<=z6/\z6<=(2:Int)*z3/\(↑(24:Nat):Int)*((2:Int)*z3)<=(140737488355328:Int)/\(2:Int)*z3<=z5)/\Tt/\Tt/\Tt/\Tt/\(∃g_1:Int,A ((bD2 g).pre g_1)/\((q0 g.w)/\Tt/\z1/\(q0 z3)/\(A z0/\A (z6=g_1))/\Tt)/\(A (Int.toNat z6=z2*g_1.toNat)/\∀i:Nat,i<z2*g_1.toNat->((Tt/\A z0/\A (z6=(g.g.f (i/z2)).y))/\A z0/\A (z6=eX g.g.f i))/\A z0/\A (z6=g.w))/\Tt)/\∀g_1:Int,let z7:=(g.g.f g_1.toNat);(bD2 g).pre g_1->Tt/\Br (decide (g_1<z3)) (A (z6<=g_1/\g_1<z3)/\Tt/\Tt/\Tt/\Tt/\Tt/\Tt/\Tt/\Tt/\Tt/\Tt/\Tt/\Tt/\Tt/\Tt/\Tt/\Tt/\Tt/\A (z2*g_1.toNat+z2<=(9223372036854775807:Nat)/\(z2*g_1.toNat+z2)*(24:Nat)<=(140737488355328:Nat))/\Tt/\A ((-9223372036854775808:Int)<=g_1+(1:Int)/\g_1+(1:Int)<=z5)/\Tt/\∃(g':Int),A ((bD2 g).pre g')/\(((q0 g.w)/\Tt/\z1/\(q0 z3)/\(A z0/\A (g_1+(1:Int)=g'))/\Tt)/\(A (z2*g_1.toNat+z2=z2*g'.toNat)/\∀i:Nat,let z8:=(i<z2*g_1.toNat);let z4:=(i-z2*g_1.toNat=(1:Nat));i<z2*g'.toNat->((Tt/\A z0/\A ((bif decide z8 then(g.g.f (i/z2)).y else bif decide z4 then z7.y else z7.y)=(g.g.f (i/z2)).y))/\A z0/\A ((bif decide z8 then eX g.g.f i else bif decide z4 then z7.x1 else z7.x0)=eX g.g.f i))/\A z0/\A ((bif decide z8 then g.w else bif decide z4 then g.w else g.w)=g.w))/\Tt)/\A ((bD2 g).meas g'<(bD2 g).meas g_1)) (Tt/\Tt/\Tt/\A (z2*g_1.toNat=z2*g.g.n)/\∀i:Nat,i<z2*g.g.n->((Tt/\q0 ((g.g.f (i/z2)).y))/\q0 (eX g.g.f i))/\q0 g.w)) ?_;simp only[cln];have z0:Int.toNat 0=0:=rfl;refine⟨by omega,by omega,⟨0,⟨xp _,Int.natCast_nonneg _⟩,rfl,rfl,λi hi=>absurd hi (by omega)⟩,λi hi=>?_⟩;have hi:0<=i/\i<=g.g.n:=hi;refine⟨λhlt=>⟨⟨hi.1,hlt⟩,by omega,by omega,i+1,⟨by omega,by omega⟩,⟨rfl,by omega,λk hk=>?_⟩,?_⟩,λhge=>by omega⟩
 ·have hk:k<2*(i+1).toNat:=hk;by_cases h:k<2*i.toNat
  ·rw[lg h];exact⟨⟨rfl,rfl⟩,rfl⟩
  ·rw[lf h];have e:k/2=i.toNat:=by omega
   by_cases h1:k-2*i.toNat=1
   ·rw[lg h1];refine⟨⟨by rw[e];rfl,?_⟩,rfl⟩;unfold eX;rw[lu (by omega),e];rfl
   ·rw[lf h1];refine⟨⟨by rw[e];rfl,?_⟩,rfl⟩;unfold eX;rw[ll (by omega),e];rfl
 ·show((g.g.n:Int)-(i+1)).toNat<((g.g.n:Int)-i).toNat;omega
end Rga
namespace Gat
open Go.RowKit Sx Num Aff Con Rga
def ce8:NSpec:=mkNS 39 (γ:=Unit) (λ| []=>some ()|_=>none) (λ_=>[]) (λ_=>True) (λ_=> .own 0 0) (λ_=>[.cells 4 (lst [.omap 1,.cap0,.cap0,.lit false]) 93,.mpi (.arr 8 .u8) false (λ_=>false) (λ_=> .any)])
theorem cq1:NewsOK Tw.prog ce8:=by
 refine bc5 (specs:=[]) (av3 trivial) (eqs:=[]) (λ_ _ h=>(xi h).elim) Aff.mixed Tw.func39 rfl (by kernel_rfl) (λ_ _=>by kernel_rfl) (λg=>A0) (λg=>[1,0]) (λg=>lN (by kernel_rfl)) ?_;rintro _ _;refine ac7 (B:=True/\True/\True/\True/\True/\True/\(Aq ((0:Nat)=(0:Nat))/\True)/\((((True/\True)/\True)/\True)/\Aq (false=false))/\(∀(l:List Int),l.length=(8:Nat)->Aq (false=false)/\((false||false)=true->True))/\True) ?_;simp only[cln];done
structure AaG where
 n:Nat
 m:Nat->Nat
 p:Nat->Nat->Rn
 i:Nat
 g:AdG
def ptS(g:AaG)(v:Nat):SO:= .deep 0 g.n 1 3 g.m (λk i=>lst (rnL (g.p k i))) (λ_=>lst []) 67 58 (some (g.i,.osl 1 v))
def aaD:List SV->List SO->Option AaG
 | [.ownAt _ _ i _ _,.int _ y,.int _ x0,.int _ x1],[.deep _ n _ _ m p _ _ _ _,.row _ len _ f _]=>some ⟨n,m,λk j=>rnD (p k j),i,⟨len,λj=>rnD (f j),⟨y,x0,x1⟩⟩⟩
 |_,_=>none
def bJ0:FSpec:=af2 30 [.arg 0,.hole 0] aaD (λg=>[.ownAt 0 0 g.i 1 0,.int .i64 g.g.r.y,.int .i64 g.g.r.x0,.int .i64 g.g.r.x1])
 (λg=>[ptS g 0,.row 0 g.g.n 3 (λi=>lst (rnL (g.g.f i))) 58]) (λg=>g.i<g.n/\g.g.n<=4294967296)
 (λ_=> .tup 0 (lst []))
 (λg=>[ptS g 1,.row 1 g.g.L.length 3 (λi=>lst (rnL (rI g.g.L i))) 58])
theorem bY4:aa5 Tw.prog bJ0:=by
 refine smW (specs:=[]) trivial Tw.func30 (λg=>A0) false ?_;rintro⟨gn,gm,gp,gi,g⟩ hg;refine ac7 (B:=let T2:=λp:Prop=>Tt/\Tt/\p;let T4:=λp:Prop=>Tt/\Tt/\Tt/\Tt/\p;let T5:=λp:Prop=>Tt/\Tt/\Tt/\Tt/\Tt/\p;let K:=Br;let A:=Aq;let z13:=(2:Nat);let z12:=(0:Nat);let z11:=(1:Nat);let z9:=(Tt/\Tt);let z8:=(↑g.n:Int);let z6:=(gi<gn/\gi=gi);let z5:=(g.n+z11<=(9223372036854775807:Nat)/\(g.n+z11)*(24:Nat)<=(140737488355328:Nat));let z4:=((0:Int)<=z8-(1:Int)/\z8-(1:Int)<z8);let z3:=(IntKind.i64=IntKind.i64);let q3:=λp:Int=>A z3/\A (p=p);let z2:=(z8-(1:Int));let z10:=(z2.toNat<g.n);let z7:=(g.f z2.toNat);let z1:=(A (g.n+z11=g.L.length)/\∀i:Nat,i<g.L.length->((Tt/\A z3/\A ((bif decide (i<g.n)then(g.f i).y else g.r.y)=(rI g.L i).y))/\A z3/\A ((bif decide (i<g.n)then(g.f i).x0 else g.r.x0)=(rI g.L i).x0))/\A z3/\A ((bif decide (i<g.n)then(g.f i).x1 else g.r.x1)=(rI g.L i).x1));let z0:=(A (gn=gn)/\(A (gi=gi)/\Tt)/\(∀i:Nat,i<gn->i≠gi->A (gm i=gm i)/\∀(i':Nat),i'<gm i->((Tt/\q3 ((gp i i').y))/\q3 ((gp i i').x0))/\q3 ((gp i i').x1))/\∀i:Nat,i<gn->True);T2 (Tt/\K (decide (g.r.x1<=g.r.x0)) (T2 (z9/\z0/\(A (g.n=g.L.length)/\∀i:Nat,i<g.L.length->((Tt/\A z3/\A ((g.f i).y=(rI g.L i).y))/\A z3/\A ((g.f i).x0=(rI g.L i).x0))/\A z3/\A ((g.f i).x1=(rI g.L i).x1))/\Tt)) (T2 (Tt/\A z6/\Tt/\A ((-9223372036854775808:Int)<=z8-(1:Int)/\z8-(1:Int)<=(9223372036854775807:Int))/\T4 (K (decide ((0:Int)<=z8-(1:Int))) (T2 (Tt/\A z6/\Tt/\A z4/\Tt/\A z10/\T4 (K (decide (z7.y=g.r.y)) (T4 (A z6/\Tt/\A z4/\Tt/\A z10/\T2 (K (decide (g.r.x0<=z7.x1)) (T2 (Tt/\A z6/\T4 (A z6/\Tt/\A z4/\Tt/\A z10/\T2 (A z4/\Tt/\A z10/\T2 (z9/\z0/\(A (g.n=g.L.length)/\∀i:Nat,i<g.L.length->((Tt/\A z3/\A ((bif decide (i=z2.toNat/\z12+z13<=z12/\z12<z12+z13+z11)then if g.r.x1>z7.x1 then g.r.x1 else z7.x1 else(g.f i).y)=(rI g.L i).y))/\A z3/\A ((bif decide (i=z2.toNat/\z12+z13<=z11/\z11<z12+z13+z11)then if g.r.x1>z7.x1 then g.r.x1 else z7.x1 else(g.f i).x0)=(rI g.L i).x0))/\A z3/\A ((bif decide (i=z2.toNat/\z12+z13<=z13/\z13<z12+z13+z11)then if g.r.x1>z7.x1 then g.r.x1 else z7.x1 else(g.f i).x1)=(rI g.L i).x1))/\Tt))))) (T4 (A z6/\T5 (A z5/\T2 (A z6/\T2 (z9/\z0/\z1/\Tt)))))))) (T5 (A z6/\T5 (A z5/\T2 (A z6/\T2 (z9/\z0/\z1/\Tt)))))))) (T5 (T2 (A z6/\T5 (A z5/\T2 (A z6/\T2 (z9/\z0/\z1/\Tt))))))))))) ?_;simp only[cln];have hin:gi<gn:=hg.1;have hg:g.n<=4294967296:=hg.2;simp only[hin,lar];have hlen:(Rg.L ⟨g.n,g.f⟩).length=g.n:=Rg.len _;have hget:∀i<g.n,rI (Rg.L ⟨g.n,g.f⟩) i=g.f i:=λi hi=>Rg.rI (g:=⟨g.n,g.f⟩) hi
 have hL:g.L=addR (Rg.L ⟨g.n,g.f⟩) g.r:=rfl;generalize Rg.L ⟨g.n,g.f⟩=L at hlen hget hL;rw[hL];have app:∀(i:Nat),i<(L++[g.r]).length->((bif decide (i<g.n)then(g.f i).y else g.r.y)=(rI (L++[g.r]) i).y/\(bif decide (i<g.n)then(g.f i).x0 else g.r.x0)=(rI (L++[g.r]) i).x0)/\(bif decide (i<g.n)then(g.f i).x1 else g.r.x1)=(rI (L++[g.r]) i).x1:=λi hi=>by
  rw[b49 L g.r i (by simpa using hi),hlen];by_cases h:i<g.n
  ·rw[lg h,ll h,hget i h];exact⟨⟨rfl,rfl⟩,rfl⟩
  ·rw[lf h,lu h];exact⟨⟨rfl,rfl⟩,rfl⟩
 have bnd:g.n+1<=9223372036854775807/\(g.n+1)*24<=140737488355328:=by omega
 have e1:((g.n:Int)-1).toNat=g.n-1:=by omega
 rw[e1];refine⟨λh=>?_,λh=>⟨by omega,λh0=>?_,λh0=>?_⟩⟩
 ·have e:addR L g.r=L:=lu (by omega);rw[e];exact⟨hlen.symm,λi hi=>by rw[hget i (by omega)];exact⟨⟨rfl,rfl⟩,rfl⟩⟩
 ·have hn:0<g.n:=by omega
  have hlast:L.getLast?=some (g.f (g.n-1)):=by
   rw[<-hget (g.n-1) (by omega),List.getLast?_eq_getElem?,hlen];unfold rI;rw[la,lw (show g.n-1<L.length by omega)];rfl
  have ea:addR L g.r=if(g.f (g.n-1)).y=g.r.y/\g.r.x0<=(g.f (g.n-1)).x1 then L.dropLast++[⟨(g.f (g.n-1)).y,(g.f (g.n-1)).x0,if g.r.x1>(g.f (g.n-1)).x1 then g.r.x1 else(g.f (g.n-1)).x1⟩]else L++[g.r]:=by
   unfold addR;rw[ll (by omega),hlast]
  have q1:0<=(g.n:Int)-1/\(g.n:Int)-1<g.n:=by omega
  have q2:g.n-1<g.n:=by omega
  refine⟨q1,q2,λhy=>⟨q1,q2,λhx=>⟨q1,q2,q1,q2,?_⟩,λhx=>⟨bnd,?_⟩⟩,λhy=>⟨bnd,?_⟩⟩
  ·rw[ea,ll ⟨hy,hx⟩];refine⟨by rw[lx,xN,xJ];omega,λi hi=>?_⟩;rw[bK6 L _ i (by rw[lx,xN,xJ]at hi;omega) (by omega),hlen];by_cases h:i=g.n-1
   ·rw[lf (by omega),lf (by omega),lg ⟨h,by omega⟩,ll h,h];exact⟨⟨rfl,rfl⟩,rfl⟩
   ·rw[lf (by omega),lf (by omega),lf (by omega),lu h,hget i (by rw[lx,xN,xJ]at hi;omega)];exact⟨⟨rfl,rfl⟩,rfl⟩
  ·rw[ea,lu (λh=>hx h.2)];exact⟨by simp[hlen],app⟩
  ·rw[ea,lu (λh=>hy h.1)];exact⟨by simp[hlen],app⟩
 ·have hn:g.n=0:=by omega
  have eL:L=[]:=uA.1 (by omega);have ea:addR L g.r=L++[g.r]:=by
   unfold addR;rw[ll (by omega),eL];rfl
  rw[ea];exact⟨bnd,by simp[hlen],app⟩
structure Gt where
 has:List Int->Bool
 val:List Int->Int
 n:Nat
 m:Nat->Nat
 p:Nat->Nat->Rn
 ink:Nat->Nat->Int
 full:Bool
def kOf(v:Nat->Int):List Int:=[v 0,v 1,v 2,v 3,v 4,v 5,v 6,v 7]
def nul:List Int:=[0,0,0,0,0,0,0,0]
def grw(G:Gt)(k:Nat)(r:Rn):List Rn:=addR (Rg.L ⟨G.m k,G.p k⟩) r
def putP(G:Gt)(k:Nat)(L:List Rn):Gt:={G with m:=updN G.m k L.length,p:=λi j=>bif decide (i=k)then rI L j else G.p i j}
def fresh(G:Gt)(v:Nat->Int):Gt:={G with has:=putH G.has (kOf v),val:=λl=>bif decide (l=kOf v)then(G.n:Int)else G.val l,n:=G.n+1,m:=updN G.m G.n 0,ink:=λi j=>bif decide (i<G.n)then G.ink i j else v j}
def nxtB(G:Gt)(v:Nat->Int)(r:Rn):Gt:=
 if kOf v=nul\/G.full=true then G
 else if G.has (kOf v)=true then putP G (G.val (kOf v)).toNat (grw G (G.val (kOf v)).toNat r)
 else if G.n=4096 then{G with full:=true}
 else putP (fresh G v) G.n (grw (fresh G v) G.n r)
theorem b60:∃f,f=nxtB:=⟨_,rfl⟩
def nxt:Gt->(Nat->Int)->Rn->Gt:=Classical.choose b60
theorem bM9:nxt=nxtB:=Classical.choose_spec b60
def vcS(v:Nat->Int):SV:= .agg 8 (λj=> .int .u8 (v j))
def vcD:SV->Nat->Int
 |.agg _ g=>λj=>Sx.intOf (g j)
 |_=>λ_=>0
def gaO(G:Gt)(v2 v3:Nat):List SO:=
 [.cells 4 (lst [.omap 1,.osl 2 v2,.osl 3 v3,.bool G.full]) 93,
   .mpi (.arr 8 .u8) false G.has (λl=> .int .i64 (G.val l)),
   .deep v2 G.n 1 3 G.m (λk i=>lst (rnL (G.p k i))) (λ_=>lst []) 67 58 none,
   .row v3 G.n 8 (λi j=> .int .u8 (G.ink i j)) 45]
def gtD:List SO->Option Gt
 | [.cells _ c _,.mpi _ _ has val,.deep _ n _ _ m p _ _ _ _,.row _ _ _ ink _]=>some ⟨has,λl=>Sx.intOf (val l),n,m,λk j=>rnD (p k j),λi j=>Sx.intOf (ink i j),bj1 (c 3)⟩
 |_=>none
structure Gok(B:Nat)(G:Gt):Prop where
 n:G.n<=4096
 m:∀k,G.m k<=B
 val:∀l,G.has l=true->0<=G.val l/\G.val l<G.n
structure GaG where
 G:Gt
 v:Nat->Int
 r:Rn
def gaD:List SV->List SO->Option GaG
 | [_,v,.int _ y,.int _ x0,.int _ x1],os=>match gtD os with
  |some G=>some ⟨G,vcD v,⟨y,x0,x1⟩⟩
  |none=>none
 |_,_=>none
theorem zer(v:Nat->Int):(decide (v 0=0)&&(decide (v 1=0)&&(decide (v 2=0)&&(decide (v 3=0)&&(decide (v 4=0)&&(decide (v 5=0)&&(decide (v 6=0)&&(decide (v 7=0)&&true))))))))=decide (kOf v=nul):=by
 rw[uo];simp[kOf,nul]
theorem bv4(v:Nat->Int):[v 0,v 1,v 2,v 3,v 4,v 5,v 6,v 7]=kOf v:=rfl
def b37:FSpec:=af2 49 [.arg 0,.cell 0 0,.cell 0 1,.cell 0 2] gaD (λg=>[.own 0 0,vcS g.v,.int .i64 g.r.y,.int .i64 g.r.x0,.int .i64 g.r.x1])
 (λg=>gaO g.G 0 0) (λg=>Gok 4294967295 g.G)
 (λ_=> .tup 0 (lst []))
 (λg=>gaO (nxt g.G g.v g.r) 1 1)
abbrev eqI:List (TypeId×List CK):=[(45,[.int,.int,.int,.int,.int,.int,.int,.int])]
theorem bw0:b25 Tw.prog eqI:=⟨ch3 (m:=8) (by kernel_rfl) (by kernel_rfl) rfl (by decide) (by kernel_rfl),trivial⟩
theorem ce4:aa5 Tw.prog b37:=by
 refine ay6 (specs:=[bJ0]) (av3 ⟨bY4,trivial⟩) (eqs:=eqI) (all_eq bw0) Aff.mixed Tw.func49 rfl (by kernel_rfl) (λ_ _=>by kernel_rfl) (λg=>(⟨[(4000008,.order [0,1,2,3,4,5,6,7,9,10,11,12,13,14,8,15,16,17,18,19,20,21])],[(1000008,[.aE6 2]),(9,[.focus 2 10]),(1000009,[.aE6 2])]⟩:Ann)) false (λg=>lN (by kernel_rfl)) ?_;rintro g hg;refine ac7 (B:=let T5:=λp:Prop=>Tt/\Tt/\Tt/\Tt/\Tt/\p;let K:=Br;let A:=Aq;let z25:=(8:Nat);let z24:=(Tt/\Tt);let z23:=(0:Int);let z10:=(1:Nat);let z8:=(IntKind.u8=IntKind.u8);let z7:=(↑g.G.n:Int);let z5:=(0:Nat);let z29:=(z5+z10);let z22:=(z5+(7:Nat));let z21:=(z5+(6:Nat));let z20:=(z5+(5:Nat));let z19:=(z5+(4:Nat));let z18:=(z5+(3:Nat));let z17:=(z5+(2:Nat));let z9:=(bif decide (z7.toNat=g.G.n)then z5 else g.G.m z7.toNat);let z14:=(AdG.mk z9 (g.G.p z7.toNat) g.r);let z3:=(IntKind.i64=IntKind.i64);let q3:=λp:Int=>A z3/\A (p=p);let z32:=(q3 g.r.y);let z31:=(q3 g.r.x1);let z30:=(q3 g.r.x0);let z2:=(nxt g.G g.v g.r);let z11:=(((z24/\Tt)/\Tt)/\A (g.G.full=z2.full));let z6:=(∀(l:List Int),l.length=z25->A (g.G.has l=z2.has l)/\((z2.has l||false)=true->A z3/\A (g.G.val l=z2.val l)));let z4:=(A (g.G.n=z2.n)/\(∀i:Nat,i<z2.n->A (g.G.m i=z2.m i)/\∀(i':Nat),i'<z2.m i->((Tt/\A z3/\A ((g.G.p i i').y=(z2.p i i').y))/\A z3/\A ((g.G.p i i').x0=(z2.p i i').x0))/\A z3/\A ((g.G.p i i').x1=(z2.p i i').x1))/\∀i:Nat,i<z2.n->True);let z1:=(A (g.G.n=z2.n)/\∀i:Nat,i<z2.n->(((((((Tt/\A z8/\A (g.G.ink i z5=z2.ink i z5))/\A z8/\A (g.G.ink i z10=z2.ink i z10))/\A z8/\A (g.G.ink i (2:Nat)=z2.ink i (2:Nat)))/\A z8/\A (g.G.ink i (3:Nat)=z2.ink i (3:Nat)))/\A z8/\A (g.G.ink i (4:Nat)=z2.ink i (4:Nat)))/\A z8/\A (g.G.ink i (5:Nat)=z2.ink i (5:Nat)))/\A z8/\A (g.G.ink i (6:Nat)=z2.ink i (6:Nat)))/\A z8/\A (g.G.ink i (7:Nat)=z2.ink i (7:Nat)));let z0:=(bif g.G.has [g.v (z5+z5),g.v z29,g.v z17,g.v z18,g.v z19,g.v z20,g.v z21,g.v z22]then g.G.val [g.v (z5+z5),g.v z29,g.v z17,g.v z18,g.v z19,g.v z20,g.v z21,g.v z22]else z23);let z13:=(AdG.mk (g.G.m z0.toNat) (g.G.p z0.toNat) g.r);T5 (K (decide (g.v (z5+z5)=z23)&&(decide (g.v (z5+z29)=z23)&&(decide (g.v (z5+(z5+z10+z10))=z23)&&(decide (g.v (z5+(z5+z10+z10+z10))=z23)&&(decide (g.v (z5+(z5+z10+z10+z10+z10))=z23)&&(decide (g.v (z5+(z5+z10+z10+z10+z10+z10))=z23)&&(decide (g.v (z5+(z5+z10+z10+z10+z10+z10+z10))=z23)&&(decide (g.v (z5+(z5+z10+z10+z10+z10+z10+z10+z10))=z23)&&true)))))))) (Tt/\Tt/\Tt/\z24/\z11/\z6/\z4/\z1/\Tt) (T5 (K g.G.full (Tt/\Tt/\z24/\z11/\z6/\z4/\z1/\Tt) (T5 (T5 (Tt/\Tt/\Tt/\K (!g.G.has [g.v (z5+z5),g.v z29,g.v z17,g.v z18,g.v z19,g.v z20,g.v z21,g.v z22]) (T5 (Tt/\K (decide (z7=(4096:Int))) (T5 (Tt/\z24/\(((z24/\Tt)/\Tt)/\A (true=z2.full))/\z6/\z4/\z1/\Tt)) (T5 (T5 (T5 (T5 (T5 (Tt/\Tt/\A (g.G.n+z10<=(9223372036854775807:Nat)/\(g.G.n+z10)*(24:Nat)<=(140737488355328:Nat))/\A (g.G.n+z10<=(9223372036854775807:Nat)/\(g.G.n+z10)*z25<=(140737488355328:Nat))/\T5 (T5 (Tt/\A (z23<=z7/\z7<(↑(g.G.n+z10):Int))/\Tt/\Tt/\Tt/\(((Tt/\((A (z7.toNat=z7.toNat)/\A (z5=z5))/\z32/\z30/\z31/\Tt)/\(A (g.G.n+z10=g.G.n+z10)/\(A (z7.toNat=z7.toNat)/\Tt)/\(∀i:Nat,i<g.G.n+z10->i≠z7.toNat->A ((bif decide (i=g.G.n)then z5 else g.G.m i)=bif decide (i=g.G.n)then z5 else g.G.m i)/\∀(i':Nat),let z27:=(g.G.p i i');(i'<bif decide (i=g.G.n)then z5 else g.G.m i)->((Tt/\q3 z27.y)/\q3 z27.x0)/\q3 z27.x1)/\∀i:Nat,i<g.G.n+z10->True)/\(A (z9=bif decide (z7.toNat=g.G.n)then z5 else g.G.m z7.toNat)/\∀i:Nat,let z15:=(g.G.p z7.toNat i);(i<bif decide (z7.toNat=g.G.n)then z5 else g.G.m z7.toNat)->((Tt/\q3 z15.y)/\q3 z15.x0)/\q3 z15.x1)/\Tt)/\A (z7.toNat<g.G.n+z10/\z9<=(4294967296:Nat)))/\Tt/\A (z7.toNat<g.G.n+z10)/\Tt)/\Tt/\Tt/\z24/\z11/\(∀(l:List Int),let z12:=(l=[g.v (z5+z5),g.v z29,g.v z17,g.v z18,g.v z19,g.v z20,g.v z21,g.v z22]);l.length=z25->A ((decide z12||g.G.has l)=z2.has l)/\((z2.has l||false)=true->A z3/\A ((bif decide z12 then z7 else g.G.val l)=z2.val l)))/\(A (g.G.n+z10=z2.n)/\(∀i:Nat,i<z2.n->A ((bif decide (i=z7.toNat)then z14.L.length else bif decide (i=g.G.n)then z5 else g.G.m i)=z2.m i)/\∀(i':Nat),i'<z2.m i->((Tt/\A z3/\A ((bif decide (i=z7.toNat)then(rI z14.L i').y else(g.G.p i i').y)=(z2.p i i').y))/\A z3/\A ((bif decide (i=z7.toNat)then(rI z14.L i').x0 else(g.G.p i i').x0)=(z2.p i i').x0))/\A z3/\A ((bif decide (i=z7.toNat)then(rI z14.L i').x1 else(g.G.p i i').x1)=(z2.p i i').x1))/\∀i:Nat,i<z2.n->True)/\(A (g.G.n+z10=z2.n)/\∀i:Nat,let z26:=(i<g.G.n);i<z2.n->(((((((Tt/\A z8/\A ((bif decide z26 then g.G.ink i z5 else g.v (z5+(z5-z5*z25)))=z2.ink i z5))/\A z8/\A ((bif decide z26 then g.G.ink i z10 else g.v (z5+(z10-z5*z25)))=z2.ink i z10))/\A z8/\A ((bif decide z26 then g.G.ink i (2:Nat)else g.v (z5+((2:Nat)-z5*z25)))=z2.ink i (2:Nat)))/\A z8/\A ((bif decide z26 then g.G.ink i (3:Nat)else g.v (z5+((3:Nat)-z5*z25)))=z2.ink i (3:Nat)))/\A z8/\A ((bif decide z26 then g.G.ink i (4:Nat)else g.v (z5+((4:Nat)-z5*z25)))=z2.ink i (4:Nat)))/\A z8/\A ((bif decide z26 then g.G.ink i (5:Nat)else g.v (z5+((5:Nat)-z5*z25)))=z2.ink i (5:Nat)))/\A z8/\A ((bif decide z26 then g.G.ink i (6:Nat)else g.v (z5+((6:Nat)-z5*z25)))=z2.ink i (6:Nat)))/\A z8/\A ((bif decide z26 then g.G.ink i (7:Nat)else g.v (z5+((7:Nat)-z5*z25)))=z2.ink i (7:Nat)))/\Tt)))))))))) (T5 (A ((z23<=bif g.G.has [g.v (z5+z5),g.v z29,g.v z17,g.v z18,g.v z19,g.v z20,g.v z21,g.v z22]then g.G.val [g.v (z5+z5),g.v z29,g.v z17,g.v z18,g.v z19,g.v z20,g.v z21,g.v z22]else z23)/\z0<z7)/\Tt/\Tt/\Tt/\(((Tt/\((A (z0.toNat=z0.toNat)/\A (z5=z5))/\z32/\z30/\z31/\Tt)/\(A (g.G.n=g.G.n)/\(A (z0.toNat=z0.toNat)/\Tt)/\(∀i:Nat,i<g.G.n->i≠z0.toNat->A (g.G.m i=g.G.m i)/\∀(i':Nat),let z28:=(g.G.p i i');i'<g.G.m i->((Tt/\q3 z28.y)/\q3 z28.x0)/\q3 z28.x1)/\∀i:Nat,i<g.G.n->True)/\(A (g.G.m z0.toNat=g.G.m z0.toNat)/\∀i:Nat,let z16:=(g.G.p z0.toNat i);i<g.G.m z0.toNat->((Tt/\q3 z16.y)/\q3 z16.x0)/\q3 z16.x1)/\Tt)/\A (z0.toNat<g.G.n/\g.G.m z0.toNat<=(4294967296:Nat)))/\Tt/\A (z0.toNat<g.G.n)/\Tt)/\Tt/\Tt/\z24/\z11/\z6/\(A (g.G.n=z2.n)/\(∀i:Nat,i<z2.n->A ((bif decide (i=z0.toNat)then z13.L.length else g.G.m i)=z2.m i)/\∀(i':Nat),i'<z2.m i->((Tt/\A z3/\A ((bif decide (i=z0.toNat)then(rI z13.L i').y else(g.G.p i i').y)=(z2.p i i').y))/\A z3/\A ((bif decide (i=z0.toNat)then(rI z13.L i').x0 else(g.G.p i i').x0)=(z2.p i i').x0))/\A z3/\A ((bif decide (i=z0.toNat)then(rI z13.L i').x1 else(g.G.p i i').x1)=(z2.p i i').x1))/\∀i:Nat,i<z2.n->True)/\z1/\Tt))))))))) ?_;simp only[cln];simp only[Nat.reduceAdd,zer,lE,xW,lO,uJ,Bool.not_eq_false',bv4];rw[bM9];have same:∀G':Gt,G'=g.G->g.G.full=G'.full/\(∀(l:List Int),l.length=8->g.G.has l=G'.has l/\(G'.has l=true->g.G.val l=G'.val l))/\(g.G.n=G'.n/\∀(i:Nat),i<G'.n->g.G.m i=G'.m i/\∀(i':Nat),i'<G'.m i->((g.G.p i i').y=(G'.p i i').y/\(g.G.p i i').x0=(G'.p i i').x0)/\(g.G.p i i').x1=(G'.p i i').x1)/\
   g.G.n=G'.n/\∀(i:Nat),i<G'.n->((((((g.G.ink i 0=G'.ink i 0/\g.G.ink i 1=G'.ink i 1)/\g.G.ink i 2=G'.ink i 2)/\g.G.ink i 3=G'.ink i 3)/\g.G.ink i 4=G'.ink i 4)/\g.G.ink i 5=G'.ink i 5)/\g.G.ink i 6=G'.ink i 6)/\g.G.ink i 7=G'.ink i 7:=by
  rintro G' rfl;exact⟨rfl,λl _=>⟨rfl,λ_=>rfl⟩,⟨rfl,λi _=>⟨rfl,λi' _=>⟨⟨rfl,rfl⟩,rfl⟩⟩⟩,rfl,λi _=>⟨⟨⟨⟨⟨⟨⟨rfl,rfl⟩,rfl⟩,rfl⟩,rfl⟩,rfl⟩,rfl⟩,rfl⟩⟩
 have hn:=hg.n;refine⟨λh0=>same _ (ll (.inl h0)),λh0=>⟨λhf=>same _ (ll (.inr hf)),λhf=>?_⟩⟩;have hor:¬ (kOf g.v=nul\/g.G.full=true):=λh=>h.elim h0 (λh=>by rw[hf]at h;cases h)
 refine⟨λhh=>⟨λh4=>?_,λh4=>?_⟩,λhh=>?_⟩
 ·have e:nxtB g.G g.v g.r={g.G with full:=true}:=by
   unfold nxtB;rw[lu hor,lu (by rw[hh];decide),ll (by omega)]
  rw[e];exact⟨rfl,(same _ rfl).2⟩
 ·have e:nxtB g.G g.v g.r=putP (fresh g.G g.v) g.G.n (grw (fresh g.G g.v) g.G.n g.r):=by
   unfold nxtB;rw[lu hor,lu (by rw[hh];decide),lu (by omega)]
  have e0:grw (fresh g.G g.v) g.G.n g.r=AdG.L ⟨0,g.G.p g.G.n,g.r⟩:=by
   show addR (Rg.L ⟨updN g.G.m g.G.n 0 g.G.n,g.G.p g.G.n⟩) g.r=_;rw[ah5];rfl
  rw[e,e0];simp only[ly,decide_true,ur];refine⟨by omega,by omega,by omega,⟨⟨by omega,by omega⟩,by omega⟩,rfl,λl _=>⟨rfl,λ_=>rfl⟩,⟨rfl,λi _=>⟨rfl,λi' _=>?_⟩⟩,rfl,λi _=>⟨⟨⟨⟨⟨⟨⟨rfl,rfl⟩,rfl⟩,rfl⟩,rfl⟩,rfl⟩,rfl⟩,rfl⟩⟩;show(_=(bif decide (i=g.G.n)then _ else _:Rn).y/\_=(bif decide (i=g.G.n)then _ else _:Rn).x0)/\_=(bif decide (i=g.G.n)then _ else _:Rn).x1;cases decide (i=g.G.n)<;>exact⟨⟨rfl,rfl⟩,rfl⟩
 ·have hv:=hg.val _ hh;have hm:=hg.m (g.G.val (kOf g.v)).toNat;have e:nxtB g.G g.v g.r=putP g.G (g.G.val (kOf g.v)).toNat (grw g.G (g.G.val (kOf g.v)).toNat g.r):=by
   unfold nxtB;rw[lu hor,ll hh]
  rw[e];simp only[hh,ur];refine⟨by omega,⟨⟨by omega,by omega⟩,by omega⟩,rfl,λl _=>⟨rfl,λ_=>rfl⟩,⟨rfl,λi _=>⟨rfl,λi' _=>?_⟩⟩,rfl,λi _=>⟨⟨⟨⟨⟨⟨⟨rfl,rfl⟩,rfl⟩,rfl⟩,rfl⟩,rfl⟩,rfl⟩,rfl⟩⟩;show(_=(bif decide (i=(g.G.val (kOf g.v)).toNat)then _ else _:Rn).y/\_=(bif decide (i=(g.G.val (kOf g.v)).toNat)then _ else _:Rn).x0)/\_=(bif decide (i=(g.G.val (kOf g.v)).toNat)then _ else _:Rn).x1;cases decide (i=(g.G.val (kOf g.v)).toNat)<;>exact⟨⟨rfl,rfl⟩,rfl⟩
end Gat
namespace Gar
open Go.RowKit Sx Num Aff Con Rga Gat
abbrev Vec:=Nat->Int
def brkG(f:Nat->Vec)(len x:Nat):Nat->Nat->Nat
 |0,to=>to
 |n+1,to=>if to<len/\kOf (f to)=kOf (f x)then brkG f len x n (to+1)else to
def brk(f:Nat->Vec)(len x:Nat):Nat:=brkG f len x (len-(x+1)) (x+1)
theorem bS3(f:Nat->Vec)(len x:Nat):∀n to,to<=len->to<=brkG f len x n to/\brkG f len x n to<=len
 |0,to,h=>⟨lh _,h⟩
 |n+1,to,h=>by
  unfold brkG;split
  ·rename_i hc;have:=bS3 f len x n (to+1) hc.1
   exact⟨by omega,this.2⟩
  ·exact⟨lh _,h⟩
theorem bj0(f:Nat->Vec)(len x:Nat):∀n to,∀k,to<=k->k<brkG f len x n to->kOf (f k)=kOf (f x)
 |0,to,k,h1,h2=>by simp only[brkG]at h2;omega
 |n+1,to,k,h1,h2=>by
  unfold brkG at h2;split at h2
  ·rename_i hc;by_cases hk:k=to
   ·subst hk;exact hc.2
   ·exact bj0 f len x n (to+1) k (by omega) h2
  ·omega
theorem bw6(f:Nat->Vec)(len x:Nat):∀n to,len<=to+n->to<=len->brkG f len x n to<len->kOf (f (brkG f len x n to))≠kOf (f x)
 |0,to,h,h2,h3=>by simp only[brkG]at h3;omega
 |n+1,to,h,h2,h3=>by
  unfold brkG at h3⊢;split at h3
  ·rename_i hc;rw[ll hc];exact bw6 f len x n (to+1) (by omega) hc.1 h3
  ·rename_i hc;rw[lu hc];exactλhe=>hc ⟨h3,he⟩
theorem bw5{f:Nat->Vec}{len x:Nat}(h:x<len):(x<brk f len x/\brk f len x<=len)/\(∀k,x<=k->k<brk f len x->kOf (f k)=kOf (f x))/\(brk f len x<len->kOf (f (brk f len x))≠kOf (f x)):=by
 have h1:=bS3 f len x (len-(x+1)) (x+1) h;refine⟨⟨by unfold brk;omega,h1.2⟩,λk hk hb=>?_,λhb=>bw6 f len x _ _ (by omega) h hb⟩;by_cases hkx:k=x
 ·rw[hkx]
 ·exact bj0 f len x _ _ k (by omega) hb
def rowG(f:Nat->Vec)(y:Int)(len:Nat):Nat->Nat->Gt->Gt
 |0,_,G=>G
 |n+1,x,G=>if x<len then rowG f y len n (brk f len x) (nxt G (f x) ⟨y,x,brk f len x⟩)else G
theorem bd7(f:Nat->Vec)(y:Int)(len:Nat):∀n m x G,len<=x+n->len<=x+m->rowG f y len n x G=rowG f y len m x G
 |0,0,_,_,_,_=>rfl
 |0,m+1,x,G,h,_=>by unfold rowG;rw[lu (by omega)]
 |n+1,0,x,G,_,h=>by unfold rowG;rw[lu (by omega)]
 |n+1,m+1,x,G,h1,h2=>by
  unfold rowG;by_cases hx:x<len
  ·rw[ll hx,ll hx];have:=(bw5 (f:=f) hx).1
   exact bd7 f y len n m _ _ (by omega) (by omega)
  ·rw[lu hx,lu hx]
theorem aP0(f:Nat->Vec)(y:Int)(len n x:Nat)(G:Gt):rowG f y len (n+1) x G=if x<len then rowG f y len n (brk f len x) (nxt G (f x) ⟨y,x,brk f len x⟩)else G:=rfl
def rowB(G:Gt)(y:Int)(len:Nat)(f:Nat->Vec):Gt:=rowG f y len len 0 G
theorem b46:∃f,f=rowB:=⟨_,rfl⟩
def rowA:Gt->Int->Nat->(Nat->Vec)->Gt:=Classical.choose b46
theorem bK0:rowA=rowB:=Classical.choose_spec b46
theorem aE5(L:List Rn)(r:Rn):(addR L r).length<=L.length+1:=by
 unfold addR;split
 ·split
  ·split
   ·rename_i h1 _;have:=xN (xs:=L);simp only[lx,this,xJ];omega
   ·simp
  ·simp
 ·omega
theorem b59{B:Nat}{G:Gt}(h:Gok B G)(v:Vec)(r:Rn):Gok (B+1) (nxt G v r):=by
 rw[bM9];have up:Gok (B+1) G:=⟨h.n,λk=>ud (h.m k),h.val⟩
 have put:∀{G:Gt}{k:Nat}{L:List Rn},Gok (B+1) G->L.length<=B+1->Gok (B+1) (putP G k L):=λ{G k L} h hl=>by
  refine⟨h.n,λj=>?_,h.val⟩;show updN G.m k L.length j<=_;unfold updN;cases decide (j=k)
  ·exact h.m j
  ·exact hl
 have glen:∀(G:Gt)(k:Nat),(grw G k r).length<=G.m k+1:=λG k=>by
  have:=aE5 (Rg.L ⟨G.m k,G.p k⟩) r
  rwa[Rg.len]at this
 unfold nxtB;split
 ·exact up
 ·split
  ·exact put up (lU (glen _ _) (by have:=h.m (G.val (kOf v)).toNat;omega))
  ·split
   ·exact⟨up.n,up.m,up.val⟩
   ·rename_i hh hn;have hn':=h.n;refine put ⟨by show G.n+1<=4096;omega,λk=>?_,λl hl=>?_⟩ (lU (glen _ _) ?_)
    ·show updN G.m G.n 0 k<=_;unfold updN;cases decide (k=G.n)
     ·exact ud (h.m k)
     ·exact lB _
    ·show 0<=(bif decide (l=kOf v)then(G.n:Int)else G.val l)/\(bif decide (l=kOf v)then(G.n:Int)else G.val l)<((G.n+1:Nat):Int);have hl:(decide (l=kOf v)||G.has l)=true:=hl;cases hd:decide (l=kOf v)with
     |true=>simp only[ur];omega
     |false=>
      rw[hd,laq]at hl;have:=h.val l hl
      simp only[cond_false];omega
    ·show updN G.m G.n 0 G.n+1<=B+1;rw[ah5];omega
theorem same8(v u:Vec):(decide (v 0=u 0)&&(decide (v 1=u 1)&&(decide (v 2=u 2)&&(decide (v 3=u 3)&&(decide (v 4=u 4)&&(decide (v 5=u 5)&&(decide (v 6=u 6)&&(decide (v 7=u 7)&&true))))))))=decide (kOf v=kOf u):=by
 rw[uo];simp[kOf]
theorem aQ9{B C:Nat}{G:Gt}(h:Gok B G)(hc:B<=C):Gok C G:=⟨h.n,λk=>lU (h.m k) hc,h.val⟩
theorem bJ8(G:Gt):G.full=G.full/\(∀(l:List Int),l.length=8->G.has l=G.has l/\(G.has l=true->G.val l=G.val l))/\(G.n=G.n/\∀(i:Nat),i<G.n->G.m i=G.m i/\∀(i':Nat),i'<G.m i->((G.p i i').y=(G.p i i').y/\(G.p i i').x0=(G.p i i').x0)/\(G.p i i').x1=(G.p i i').x1)/\
  G.n=G.n/\∀(i:Nat),i<G.n->((((((G.ink i 0=G.ink i 0/\G.ink i 1=G.ink i 1)/\G.ink i 2=G.ink i 2)/\G.ink i 3=G.ink i 3)/\G.ink i 4=G.ink i 4)/\G.ink i 5=G.ink i 5)/\G.ink i 6=G.ink i 6)/\G.ink i 7=G.ink i 7:=
 ⟨rfl,λl _=>⟨rfl,λ_=>rfl⟩,⟨rfl,λi _=>⟨rfl,λi' _=>⟨⟨rfl,rfl⟩,rfl⟩⟩⟩,rfl,λi _=>⟨⟨⟨⟨⟨⟨⟨rfl,rfl⟩,rfl⟩,rfl⟩,rfl⟩,rfl⟩,rfl⟩,rfl⟩⟩
structure RoG where
 G:Gt
 y:Int
 n:Nat
 f:Nat->Vec
def bi7(n:Nat)(f:Nat->Vec):SV:= .sl n 8 (λi j=> .int .u8 (f i j))
def b12:SV->Nat->Vec
 |.sl _ _ g=>λi j=>Sx.intOf (g i j)
 |_=>λ_ _=>0
def roD:List SV->List SO->Option RoG
 | [_,.int _ y,s],os=>match gtD os with
  |some G=>some ⟨G,y,aj1 s,b12 s⟩
  |none=>none
 |_,_=>none
structure RoS where
 x:Nat
 G:Gt
structure RoP(g:RoG)(B:Nat)(s:RoS):Prop where
 le:s.x<=g.n
 ok:Gok (B+s.x) s.G
 fin:rowG g.f g.y g.n (g.n-s.x) s.x s.G=rowA g.G g.y g.n g.f
structure RoJ(g:RoG)(s:RoS)(to:Nat):Prop where
 lt:s.x<to
 le:to<=g.n
 fin:brkG g.f g.n s.x (g.n-to) to=brk g.f g.n s.x
def roI(g:RoG):Inv:=⟨RoS,λs=>∃B,RoP g B s/\B+g.n<=4294967295,λs=>⟨[(0,.own 0 0),(1,.int .i64 g.y),(2,bi7 g.n g.f),(6,.int .i64 s.x)],gaO s.G 1 1⟩,λs=>g.n-s.x⟩
def roIJ(g:RoG)(s:RoS):Inv:=⟨Nat,λto=>s.x<g.n/\RoJ g s to,λto=>⟨[(0,.own 0 0),(1,.int .i64 g.y),(2,bi7 g.n g.f),(6,.int .i64 s.x),(7,.int .i64 to)],gaO s.G 1 1⟩,λto=>g.n-to⟩
def am6:FSpec:=af2 40 [.arg 0,.cell 0 0,.cell 0 1,.cell 0 2] roD (λg=>[.own 0 0,.int .i64 g.y,bi7 g.n g.f])
 (λg=>gaO g.G 0 0) (λg=>∃B,Gok B g.G/\B+g.n<=4294967295)
 (λ_=> .tup 0 (lst []))
 (λg=>gaO (rowA g.G g.y g.n g.f) 1 1)
theorem cp7:aa5 Tw.prog am6:=by
 refine ay6 (specs:=[b37]) (av3 ⟨ce4,trivial⟩) (eqs:=eqI) (all_eq bw0) Aff.mixed Tw.func40 rfl (by kernel_rfl) (λ_ _=>by kernel_rfl) (λg=>(⟨[(1,.nest (roI g) (λs=>[(3,.inv (roIJ g s))]))],[]⟩:Ann)) false (λg=>lN (by kernel_rfl)) ?_;rintro g ⟨B,hB,hle⟩;refine ac7 (B:=let T4:=λp:Prop=>Tt/\Tt/\Tt/\Tt/\p;let A:=Aq;let z21:=(7:Nat);let z20:=(6:Nat);let z19:=(5:Nat);let z18:=(4:Nat);let z17:=(3:Nat);let z16:=(2:Nat);let z12:=(((Tt/\Tt)/\Tt)/\Tt);let z10:=(1:Nat);let z9:=(0:Nat);let z27:=(z9+(z9+z10+z10+z10+z10+z10));let z26:=(z9+(z9+z10+z10+z10+z10+z10+z10));let z25:=(z9+(z9+z10+z10+z10+z10+z10+z10+z10));let z8:=(rowA g.G g.y g.n g.f);let z5:=(IntKind.i64=IntKind.i64);let q5:=λp:Int=>A z5/\A (p=p);let z14:=(q5 g.y);let z4:=(IntKind.u8=IntKind.u8);let q4:=λp:Int=>A z4/\A (p=p);let z2:=(A (g.n=g.n)/\∀i:Nat,i<g.n->(chp True (λj:Nat=>q4 (g.f i j)) 7)/\q4 (g.f i z21));Tt/\(∃g_1:RoS,A ((roI g).pre g_1)/\Tt/\(A (z9=z9)/\z14/\z2/\(A z5/\A ((0:Int)=(↑g_1.x:Int)))/\Tt)/\(z12/\A (g.G.full=g_1.G.full))/\(∀(l:List Int),l.length=(8:Nat)->A (g.G.has l=g_1.G.has l)/\((g_1.G.has l||false)=true->A z5/\A (g.G.val l=g_1.G.val l)))/\(A (g.G.n=g_1.G.n)/\(∀i:Nat,i<g_1.G.n->A (g.G.m i=g_1.G.m i)/\∀(i':Nat),i'<g_1.G.m i->((Tt/\A z5/\A ((g.G.p i i').y=(g_1.G.p i i').y))/\A z5/\A ((g.G.p i i').x0=(g_1.G.p i i').x0))/\A z5/\A ((g.G.p i i').x1=(g_1.G.p i i').x1))/\∀i:Nat,i<g_1.G.n->True)/\(A (g.G.n=g_1.G.n)/\∀i:Nat,i<g_1.G.n->(((((((Tt/\A z4/\A (g.G.ink i z9=g_1.G.ink i z9))/\A z4/\A (g.G.ink i z10=g_1.G.ink i z10))/\A z4/\A (g.G.ink i z16=g_1.G.ink i z16))/\A z4/\A (g.G.ink i z17=g_1.G.ink i z17))/\A z4/\A (g.G.ink i z18=g_1.G.ink i z18))/\A z4/\A (g.G.ink i z19=g_1.G.ink i z19))/\A z4/\A (g.G.ink i z20=g_1.G.ink i z20))/\A z4/\A (g.G.ink i z21=g_1.G.ink i z21))/\Tt)/\∀g_1:RoS,let z28:=(roIJ g g_1);let z15:=(z12/\A (g_1.G.full=g_1.G.full));let z11:=(∀(l:List Int),l.length=(8:Nat)->A (g_1.G.has l=g_1.G.has l)/\((g_1.G.has l||false)=true->q5 (g_1.G.val l)));let z7:=(↑g_1.x:Int);let z23:=(q5 z7);let z22:=((0:Int)<=z7/\z7<(↑g.n:Int));let z6:=(A (g_1.G.n=g_1.G.n)/\(∀i:Nat,i<g_1.G.n->A (g_1.G.m i=g_1.G.m i)/\∀(i':Nat),let z24:=(g_1.G.p i i');i'<g_1.G.m i->((Tt/\q5 z24.y)/\q5 z24.x0)/\q5 z24.x1)/\∀i:Nat,i<g_1.G.n->True);let z3:=(A (g_1.G.n=g_1.G.n)/\∀i:Nat,i<g_1.G.n->(chp True (λj:Nat=>q4 (g_1.G.ink i j)) 7)/\q4 (g_1.G.ink i z21));(roI g).pre g_1->T4 (Br (decide (z7<(↑g.n:Int))) (Tt/\A ((-9223372036854775808:Int)<=z7+(1:Int)/\z7+(1:Int)<=(9223372036854775807:Int))/\Tt/\(∃g_2:Nat,A (z28.pre g_2)/\Tt/\(A (z9=z9)/\z14/\z2/\z23/\(A z5/\A (z7+(1:Int)=(↑g_2:Int)))/\Tt)/\z15/\z11/\z6/\z3/\Tt)/\∀g_2:Nat,let z13:=(↑g_2:Int);let z1:=((Tt/\(A (z9=z9)/\(chp True (λj:Nat=>q4 (g.f z7.toNat (z9+j))) 8)/\z14/\z23/\(q5 z13)/\Tt)/\z15/\z11/\z6/\z3/\Tt)/\A (Gok (4294967295:Nat) g_1.G));let z0:=(Gat.nxt g_1.G (λ(j:Nat)=>g.f z7.toNat (z9+j)) (Rn.mk g.y z7 z13));z28.pre g_2->T4 (Tt/\Br (decide (z13<(↑g.n:Int))) (Tt/\Tt/\A ((0:Int)<=z13/\z13<(↑g.n:Int))/\Tt/\Tt/\Tt/\A z22/\Tt/\Tt/\Tt/\Br (decide (g.f z13.toNat (z9+z9)=g.f z7.toNat (z9+z9))&&(decide (g.f z13.toNat (z9+(z9+z10))=g.f z7.toNat (z9+(z9+z10)))&&(decide (g.f z13.toNat (z9+(z9+z10+z10))=g.f z7.toNat (z9+(z9+z10+z10)))&&(decide (g.f z13.toNat (z9+(z9+z10+z10+z10))=g.f z7.toNat (z9+(z9+z10+z10+z10)))&&(decide (g.f z13.toNat (z9+(z9+z10+z10+z10+z10))=g.f z7.toNat (z9+(z9+z10+z10+z10+z10)))&&(decide (g.f z13.toNat z27=g.f z7.toNat z27)&&(decide (g.f z13.toNat z26=g.f z7.toNat z26)&&(decide (g.f z13.toNat z25=g.f z7.toNat z25)&&true)))))))) (Tt/\A ((-9223372036854775808:Int)<=z13+(1:Int)/\z13+(1:Int)<=(9223372036854775807:Int))/\Tt/\∃(g':Nat),A (z28.pre g')/\Tt/\((A (z9=z9)/\z14/\z2/\z23/\(A z5/\A (z13+(1:Int)=(↑g':Int)))/\Tt)/\z15/\z11/\z6/\z3/\Tt)/\A (z28.meas g'<z28.meas g_2)) (Tt/\Tt/\Tt/\A z22/\T4 (z1/\Tt/\Tt/\∃(g':RoS),A ((roI g).pre g')/\Tt/\((A (z9=z9)/\z14/\z2/\(A z5/\A (z13=(↑g'.x:Int)))/\Tt)/\(z12/\A (z0.full=g'.G.full))/\(∀(l:List Int),l.length=(8:Nat)->A (z0.has l=g'.G.has l)/\((g'.G.has l||false)=true->A z5/\A (z0.val l=g'.G.val l)))/\(A (z0.n=g'.G.n)/\(∀i:Nat,i<g'.G.n->A (z0.m i=g'.G.m i)/\∀(i':Nat),i'<g'.G.m i->((Tt/\A z5/\A ((z0.p i i').y=(g'.G.p i i').y))/\A z5/\A ((z0.p i i').x0=(g'.G.p i i').x0))/\A z5/\A ((z0.p i i').x1=(g'.G.p i i').x1))/\∀i:Nat,i<g'.G.n->True)/\(A (z0.n=g'.G.n)/\∀i:Nat,i<g'.G.n->(((((((Tt/\A z4/\A (z0.ink i z9=g'.G.ink i z9))/\A z4/\A (z0.ink i z10=g'.G.ink i z10))/\A z4/\A (z0.ink i z16=g'.G.ink i z16))/\A z4/\A (z0.ink i z17=g'.G.ink i z17))/\A z4/\A (z0.ink i z18=g'.G.ink i z18))/\A z4/\A (z0.ink i z19=g'.G.ink i z19))/\A z4/\A (z0.ink i z20=g'.G.ink i z20))/\A z4/\A (z0.ink i z21=g'.G.ink i z21))/\Tt)/\A ((roI g).meas g'<(roI g).meas g_1)))) (T4 (A z22/\T4 (z1/\Tt/\Tt/\∃(g':RoS),A ((roI g).pre g')/\Tt/\((A (z9=z9)/\z14/\z2/\(A z5/\A (z13=(↑g'.x:Int)))/\Tt)/\(z12/\A (z0.full=g'.G.full))/\(∀(l:List Int),l.length=(8:Nat)->A (z0.has l=g'.G.has l)/\((g'.G.has l||false)=true->A z5/\A (z0.val l=g'.G.val l)))/\(A (z0.n=g'.G.n)/\(∀i:Nat,i<g'.G.n->A (z0.m i=g'.G.m i)/\∀(i':Nat),i'<g'.G.m i->((Tt/\A z5/\A ((z0.p i i').y=(g'.G.p i i').y))/\A z5/\A ((z0.p i i').x0=(g'.G.p i i').x0))/\A z5/\A ((z0.p i i').x1=(g'.G.p i i').x1))/\∀i:Nat,i<g'.G.n->True)/\(A (z0.n=g'.G.n)/\∀i:Nat,i<g'.G.n->(((((((Tt/\A z4/\A (z0.ink i z9=g'.G.ink i z9))/\A z4/\A (z0.ink i z10=g'.G.ink i z10))/\A z4/\A (z0.ink i z16=g'.G.ink i z16))/\A z4/\A (z0.ink i z17=g'.G.ink i z17))/\A z4/\A (z0.ink i z18=g'.G.ink i z18))/\A z4/\A (z0.ink i z19=g'.G.ink i z19))/\A z4/\A (z0.ink i z20=g'.G.ink i z20))/\A z4/\A (z0.ink i z21=g'.G.ink i z21))/\Tt)/\A ((roI g).meas g'<(roI g).meas g_1)))))) (Tt/\Tt/\(Tt/\Tt)/\(z12/\A (g_1.G.full=z8.full))/\(∀(l:List Int),l.length=(8:Nat)->A (g_1.G.has l=z8.has l)/\((z8.has l||false)=true->A z5/\A (g_1.G.val l=z8.val l)))/\(A (g_1.G.n=z8.n)/\(∀i:Nat,i<z8.n->A (g_1.G.m i=z8.m i)/\∀(i':Nat),i'<z8.m i->((Tt/\A z5/\A ((g_1.G.p i i').y=(z8.p i i').y))/\A z5/\A ((g_1.G.p i i').x0=(z8.p i i').x0))/\A z5/\A ((g_1.G.p i i').x1=(z8.p i i').x1))/\∀i:Nat,i<z8.n->True)/\(A (g_1.G.n=z8.n)/\∀i:Nat,i<z8.n->(((((((Tt/\A z4/\A (g_1.G.ink i z9=z8.ink i z9))/\A z4/\A (g_1.G.ink i z10=z8.ink i z10))/\A z4/\A (g_1.G.ink i z16=z8.ink i z16))/\A z4/\A (g_1.G.ink i z17=z8.ink i z17))/\A z4/\A (g_1.G.ink i z18=z8.ink i z18))/\A z4/\A (g_1.G.ink i z19=z8.ink i z19))/\A z4/\A (g_1.G.ink i z20=z8.ink i z20))/\A z4/\A (g_1.G.ink i z21=z8.ink i z21))/\Tt))) ?_;simp only[chp];simp only[cln,ly,lO];simp only[Nat.reduceAdd,same8,lE,xW];have step:∀{s:RoS}{B:Nat}{to:Nat},RoP g B s->s.x<g.n->brk g.f g.n s.x=to->RoP g B ⟨to,nxt s.G (g.f s.x) ⟨g.y,s.x,to⟩⟩:=λ{s B to} P hx hto=>by
  have hb:=(bw5 (f:=g.f) hx).1;subst hto;refine⟨hb.2,aQ9 (b59 P.ok _ _) (by show B+s.x+1<=B+brk g.f g.n s.x;omega),?_⟩;rw[<-P.fin];obtain⟨k,hk⟩:∃k,g.n-s.x=k+1:=⟨g.n-s.x-1,by omega⟩
  rw[hk];rw[aP0,ll hx];exact bd7 g.f g.y g.n (g.n-brk g.f g.n s.x) k (brk g.f g.n s.x) _ (by omega) (by omega)
 have done:∀{s:RoS}{to:Nat},RoJ g s to->(to<g.n->kOf (g.f to)≠kOf (g.f s.x))->brk g.f g.n s.x=to:=λ{s to} J h=>by
  rw[<-J.fin];cases hm:g.n-to with
  |zero=>rfl
  |succ m=>
   unfold brkG;rw[lu (λhc=>h hc.1 hc.2)]
 have nextI:∀{s:RoS}{to:Nat}(hs:∃ B,RoP g B s/\B+g.n<=4294967295),s.x<g.n->RoJ g s to->(to<g.n->kOf (g.f to)≠kOf (g.f s.x))->(roI g).pre ⟨to,nxt s.G (g.f s.x) ⟨g.y,s.x,to⟩⟩:=λ{s to} hs hx J h=>by
  obtain⟨B,P,hB⟩:=hs;exact⟨B,step P hx (done J h),hB⟩
 have gk:∀{s:RoS},(∃B,RoP g B s/\B+g.n<=4294967295)->Gok 4294967295 s.G:=λ{s} hs=>by
  obtain⟨B,P,hB⟩:=hs;have:=P.le
  exact aQ9 P.ok (by omega)
 refine⟨⟨⟨0,g.G⟩,⟨B,⟨lB _,by rw[lV];exact hB,?_⟩,hle⟩,rfl,bJ8 _⟩,λs hs=>⟨λhx=>⟨by omega,⟨s.x+1,⟨by omega,by omega,by omega,?_⟩,by omega⟩,λto hto=>?_⟩,λhx=>?_⟩⟩
 ·show rowG g.f g.y g.n (g.n-0) 0 g.G=_;rw[bK0];rfl
 ·rfl
 ·obtain⟨hx',J⟩:=hto;have hx:s.x<g.n:=hx';have J1:=J.lt;have J2:=J.le;have hm:∀G',(roI g).meas ⟨to,G'⟩<(roI g).meas s:=λG'=>by show g.n-to<g.n-s.x;omega
  refine⟨λhlt=>⟨by omega,by omega,λhe=>⟨by omega,to+1,⟨hx,by omega,by omega,?_⟩,by omega,by show g.n-(to+1)<g.n-to;omega⟩,λhe=>⟨by omega,gk hs,⟨to,nxt s.G (g.f s.x) ⟨g.y,s.x,to⟩⟩,nextI hs hx J (λ_=>he),⟨rfl,bJ8 _⟩,hm _⟩⟩,λhge=>⟨by omega,gk hs,⟨to,nxt s.G (g.f s.x) ⟨g.y,s.x,to⟩⟩,nextI hs hx J (λh=>absurd h (by omega)),⟨rfl,bJ8 _⟩,hm _⟩⟩;rw[<-J.fin];obtain⟨k,hk⟩:∃k,g.n-to=k+1:=⟨g.n-to-1,by omega⟩
  rw[hk,show g.n-(to+1)=k by omega];show _=brkG g.f g.n s.x (k+1) to;conv=>rhs;unfold brkG
  rw[ll ⟨by omega,he⟩]
 ·obtain⟨B',P,hB'⟩:=hs;have h1:=P.le;have h2:s.x=g.n:=by omega
  have h3:=P.fin;rw[h2,uE]at h3;have h3:s.G=rowA g.G g.y g.n g.f:=h3;rw[<-h3];exact bJ8 _
structure Pcs where
 n:Nat
 m:Nat->Nat
 p:Nat->Nat->Rn
 ink:Nat->Vec
def pcC(P:Pcs)(i j:Nat):SV:=match j with
 |0=> .sl (P.m i) 3 (λk=>lst (rnL (P.p i k)))
 |j+1=> .int .u8 (P.ink i j)
def pcS(P:Pcs):SV:= .sl P.n 9 (pcC P)
def pcD(s:SV):Pcs:=match s with
 |.sl n _ f=>⟨n,λi=>aj1 (f i 0),λi=>rgD (f i 0),λi j=>Sx.intOf (f i (j+1))⟩
 |_=>⟨0,λ_=>0,λ_ _=>⟨0,0,0⟩,λ_ _=>0⟩
def Gt.P(G:Gt):Pcs:=⟨bif G.full then 0 else G.n,G.m,G.p,G.ink⟩
def pcA(G:Gt):SV:= .tup 2 (lst [pcS (Gt.P G),.int .i64 (bif G.full then 2 else 0)])
def piI(G:Gt):Inv:=⟨Nat,λi=>G.full=false/\i<=G.n,λi=>⟨[(0,.own 0 0),(4,.osl 4 0),(14,.osl 3 0),(15,.int .i64 G.n),(16,.int .i64 i)],
 [.cells 4 (lst [.omap 1,.osl 2 0,.osl 3 0,.bool G.full]) 93,.mpi (.arr 8 .u8) false G.has (λl=> .int .i64 (G.val l)),
   .srow 0 G.n 1 (bi5 3 G.m (λk i=>lst (rnL (G.p k i))) (λ_=>lst [])),.row 0 G.n 8 (λi j=> .int .u8 (G.ink i j)) 45,
   .row 0 i 9 (pcC ⟨G.n,G.m,G.p,G.ink⟩) 47]⟩,λi=>G.n-i⟩
def br9:FSpec:=af2 41 [.arg 0,.cell 0 0,.cell 0 1,.cell 0 2] (λl os=>gtD os) (λ_=>[.own 0 0])
 (λG=>gaO G 0 0) (λG=>G.n<=4096) (λG=>pcA G)
 (λ_=>[.dead,.dead,.dead,.dead])
theorem bL8:aa5 Tw.prog br9:=by
 refine smW (specs:=[]) trivial Tw.func41 (λG=>(⟨[(5,.inv (piI G))],[(4,[.own 4 47 9,.give 2])]⟩:Ann)) false ?_;rintro G hG;refine ac7 (B:=let A:=Aq;let z12:=(9:Nat);let z9:=(↑G.n:Int);let z8:=((((Tt/\Tt)/\Tt)/\Tt)/\A (G.full=G.full));let z7:=(1:Nat);let z4:=(0:Nat);let z2:=(IntKind.i64=IntKind.i64);let q2:=λp:Int=>A z2/\A (p=p);let z5:=(∀(l:List Int),l.length=(8:Nat)->A (G.has l=G.has l)/\((G.has l||false)=true->q2 (G.val l)));let z3:=(A (G.n=G.n)/\∀i:Nat,i<G.n->Tt/\A (G.m i=G.m i)/\∀i_1:Nat,let z10:=(G.p i i_1);i_1<G.m i->((Tt/\q2 z10.y)/\q2 z10.x0)/\q2 z10.x1);let z1:=(IntKind.u8=IntKind.u8);let q1:=λp:Int=>A z1/\A (p=p);let z0:=(A (G.n=G.n)/\∀i:Nat,i<G.n->(chp True (λj:Nat=>q1 (G.ink i j)) 7)/\q1 (G.ink i (7:Nat)));Tt/\Tt/\Tt/\Tt/\Tt/\Tt/\Br G.full (Tt/\Tt/\Tt/\Tt/\(((Tt/\A ((bif G.full then z4 else G.n)=z4))/\A z2/\A ((2:Int)=bif G.full then(2:Int)else(0:Int)))/\Tt)/\Tt/\Tt/\Tt/\Tt/\Tt) (Tt/\Tt/\Tt/\Tt/\Tt/\Tt/\Tt/\(∃g:Nat,A ((piI G).pre g)/\Tt/\(A (z4=z4)/\Tt/\Tt/\(q2 z9)/\(A z2/\A ((0:Int)=(↑g:Int)))/\Tt)/\z8/\z5/\z3/\z0/\(A (z4=g)/\∀i:Nat,i<g->((((((((Tt/\False)/\False)/\False)/\False)/\False)/\False)/\False)/\False)/\False)/\Tt)/\∀g:Nat,let z6:=(↑g:Int);(piI G).pre g->Tt/\Br (decide (z6<z9)) (Tt/\A ((0:Int)<=z6/\z6<z9)/\A (z6.toNat<G.n)/\Tt/\Tt/\Tt/\Tt/\Tt/\Tt/\Tt/\Tt/\Tt/\A ((0:Int)<=z6/\z6<z9)/\Tt/\Tt/\Tt/\Tt/\Tt/\A (g+z7<=(9223372036854775807:Nat)/\(g+z7)*(32:Nat)<=(140737488355328:Nat))/\Tt/\A ((-9223372036854775808:Int)<=z6+(1:Int)/\z6+(1:Int)<=(9223372036854775807:Int))/\Tt/\∃(g':Nat),A ((piI G).pre g')/\Tt/\((A (z4=z4)/\Tt/\Tt/\(q2 z9)/\(A z2/\A (z6+(1:Int)=(↑g':Int)))/\Tt)/\z8/\z5/\z3/\z0/\(A (g+z7=g')/\∀i:Nat,i<g'->((((((((Tt/\A ((bif decide (i<g)then G.m i else G.m z6.toNat)=G.m i)/\∀i_1:Nat,let z11:=(G.p i i_1);i_1<G.m i->((Tt/\A z2/\A ((bif decide (i<g)then z11.y else(G.p z6.toNat i_1).y)=z11.y))/\A z2/\A ((bif decide (i<g)then z11.x0 else(G.p z6.toNat i_1).x0)=z11.x0))/\A z2/\A ((bif decide (i<g)then z11.x1 else(G.p z6.toNat i_1).x1)=z11.x1))/\A z1/\A ((bif decide (i<g)then G.ink i z4 else G.ink z6.toNat (z4+(z4+(z7-z4*z12-z7))))=G.ink i z4))/\A z1/\A ((bif decide (i<g)then G.ink i z7 else G.ink z6.toNat (z4+(z4+((2:Nat)-z4*z12-z7))))=G.ink i z7))/\A z1/\A ((bif decide (i<g)then G.ink i (2:Nat)else G.ink z6.toNat (z4+(z4+((3:Nat)-z4*z12-z7))))=G.ink i (2:Nat)))/\A z1/\A ((bif decide (i<g)then G.ink i (3:Nat)else G.ink z6.toNat (z4+(z4+((4:Nat)-z4*z12-z7))))=G.ink i (3:Nat)))/\A z1/\A ((bif decide (i<g)then G.ink i (4:Nat)else G.ink z6.toNat (z4+(z4+((5:Nat)-z4*z12-z7))))=G.ink i (4:Nat)))/\A z1/\A ((bif decide (i<g)then G.ink i (5:Nat)else G.ink z6.toNat (z4+(z4+((6:Nat)-z4*z12-z7))))=G.ink i (5:Nat)))/\A z1/\A ((bif decide (i<g)then G.ink i (6:Nat)else G.ink z6.toNat (z4+(z4+((7:Nat)-z4*z12-z7))))=G.ink i (6:Nat)))/\A z1/\A ((bif decide (i<g)then G.ink i (7:Nat)else G.ink z6.toNat (z4+(z4+((8:Nat)-z4*z12-z7))))=G.ink i (7:Nat)))/\Tt)/\A ((piI G).meas g'<(piI G).meas g)) (Tt/\Tt/\Tt/\Tt/\Tt/\(((Tt/\A (g=bif G.full then z4 else G.n)/\∀i:Nat,(i<bif G.full then z4 else G.n)->((((((((Tt/\A (G.m i=(Gt.P G).m i)/\∀i_1:Nat,i_1<(Gt.P G).m i->((Tt/\A z2/\A ((G.p i i_1).y=((Gt.P G).p i i_1).y))/\A z2/\A ((G.p i i_1).x0=((Gt.P G).p i i_1).x0))/\A z2/\A ((G.p i i_1).x1=((Gt.P G).p i i_1).x1))/\A z1/\A (G.ink i z4=(Gt.P G).ink i z4))/\A z1/\A (G.ink i z7=(Gt.P G).ink i z7))/\A z1/\A (G.ink i (2:Nat)=(Gt.P G).ink i (2:Nat)))/\A z1/\A (G.ink i (3:Nat)=(Gt.P G).ink i (3:Nat)))/\A z1/\A (G.ink i (4:Nat)=(Gt.P G).ink i (4:Nat)))/\A z1/\A (G.ink i (5:Nat)=(Gt.P G).ink i (5:Nat)))/\A z1/\A (G.ink i (6:Nat)=(Gt.P G).ink i (6:Nat)))/\A z1/\A (G.ink i (7:Nat)=(Gt.P G).ink i (7:Nat)))/\A z2/\A ((0:Int)=bif G.full then(2:Int)else(0:Int)))/\Tt)/\Tt/\Tt/\Tt/\Tt/\Tt))) ?_;simp only[chp];simp only[cln,ly,lO];refine⟨λh=>by rw[h];exact⟨rfl,rfl⟩,λh=>⟨⟨0,⟨h,lB _⟩,rfl,rfl,λi hi=>absurd hi (ln _)⟩,λk hk=>⟨λhlt=>?_,λhge=>?_⟩⟩⟩
 ·have hk1:=hk.1;refine⟨by omega,by omega,by omega,by omega,by omega,k+1,⟨hk1,by omega⟩,⟨by omega,rfl,λi hi=>?_⟩,by show G.n-(k+1)<G.n-k;omega⟩;by_cases hik:i<k
  ·simp only[lg hik,ur];repeat' (first|rfl|trivial|apply And.intro|intro _)
  ·obtain rfl:i=k:=by omega
   simp only[lf hik,cond_false];repeat' (first|rfl|trivial|apply And.intro|intro _)
 ·have hk2:k<=G.n:=hk.2;have hkn:k=G.n:=by omega
  rw[h];simp only[cond_false];refine⟨⟨hkn,λi hi=>?_⟩,trivial⟩;repeat' (first|rfl|trivial|apply And.intro|intro _)
def bl2:FSpec:=aa9 38 (γ:=Int×Int) (λ| [.int _ w,.int _ h]=>some (w,h)|_=>none) (λg=>[.int .i64 g.1,.int .i64 g.2]) (λ_=>True)
 (λg=> .bool (decide (1<=g.1)&&(decide (g.1<=256)&&(decide (1<=g.2)&&decide (g.2<=256)))))
theorem bu1:aa5 Tw.prog bl2:=by
 refine ssW (specs:=[]) trivial Tw.func38 (λg=>A0) ?_;rintro⟨w,h⟩ _;refine ac7 (B:=let A:=Aq;let z0:=(decide ((1:Int)<=w)&&(decide (w<=(256:Int))&&(decide ((1:Int)<=h)&&decide (h<=(256:Int)))));Tt/\Tt/\Tt/\Tt/\Br (decide ((1:Int)<=w)) (Tt/\Tt/\Tt/\Tt/\Br (decide (w<=(256:Int))) (Tt/\Tt/\Tt/\Tt/\Br (decide ((1:Int)<=h)) (Tt/\Tt/\Tt/\Tt/\Tt/\A (decide (h<=(256:Int))=z0)) (Tt/\Tt/\Tt/\A (false=z0))) (Tt/\Tt/\Tt/\Tt/\Tt/\A (false=z0))) (Tt/\Tt/\Tt/\Tt/\Tt/\Tt/\Tt/\A (false=z0))) ?_;simp only[cln,ly,lO];refine⟨λh1=>⟨λh2=>⟨λh3=>?_,λh3=>?_⟩,λh2=>?_⟩,λh1=>?_⟩
 ·rw[lg h1,lg h2,lg h3];rfl
 ·rw[lf h3];simp
 ·rw[lf h2];simp
 ·rw[lf h1];rfl
structure OfG where
 w:Nat
 h:Nat
 n:Nat
 f:Nat->Vec
def bQ7:Gt:=⟨λ_=>false,λ_=>0,0,λ_=>0,λ_ _=>⟨0,0,0⟩,λ_ _=>0,false⟩
def ofR(f:Nat->Vec)(W:Nat):Nat->Gt
 |0=>bQ7
 |y+1=>rowA (ofR f W y) y W (λx=>f (y*W+x))
def ofB(g:OfG):Gt:=ofR g.f (16*g.w) (16*g.h)
theorem cq9:∃f,f=ofB:=⟨_,rfl⟩
def ofA:OfG->Gt:=Classical.choose cq9
theorem of_eq:ofA=ofB:=Classical.choose_spec cq9
theorem bK1(f:Nat->Vec)(y:Int)(len:Nat):∀n x B G,x<=len->Gok (B+x) G->Gok (B+len) (rowG f y len n x G)
 |0,x,B,G,h1,h2=>aQ9 h2 (by omega)
 |n+1,x,B,G,h1,h2=>by
  rw[aP0];split
  ·rename_i hx;have hb:=(bw5 (f:=f) hx).1;exact bK1 f y len n _ B _ hb.2 (aQ9 (b59 h2 _ _) (by omega))
  ·exact aQ9 h2 (by omega)
theorem cc6{f:Nat->Vec}{y:Int}{len B:Nat}{G:Gt}(h:Gok B G):Gok (B+len) (rowA G y len f):=by
 rw[bK0];exact bK1 f y len len 0 B G (lB _) h
theorem bM8(f:Nat->Vec)(W:Nat):∀y,Gok (y*W) (ofR f W y)
 |0=>⟨lB _,λ_=>lB _,λl h=>by cases h⟩
 |y+1=>by
  rw[lL,uD];exact cc6 (bM8 f W y)
structure OfS where
 y:Nat
 G:Gt
def ofI(g:OfG):Inv:=⟨OfS,λs=>s.y<=16*g.h/\s.G=ofR g.f (16*g.w) s.y,λs=>⟨[(0,.int .i64 g.w),(2,bi7 g.n g.f),(8,.own 0 0),(23,.int .i64 (16*g.h)),(24,.int .i64 s.y)],gaO s.G 0 0⟩,λs=>16*g.h-s.y⟩
def spOf:FSpec:=aa9 18 (γ:=OfG) (λ| [.int _ w,.int _ h,s]=>some ⟨w.toNat,h.toNat,aj1 s,b12 s⟩|_=>none) (λg=>[.int .i64 g.w,.int .i64 g.h,bi7 g.n g.f])
 (λg=>(1<=g.w/\g.w<=256)/\(1<=g.h/\g.h<=256)/\g.n=256*g.w*g.h) (λg=>pcA (ofA g))
theorem ce6:aa5 Tw.prog spOf:=by
 refine aF0 (specs:=[bl2,am6,br9]) (av3 ⟨bu1,cp7,bL8,trivial⟩) (eqs:=[]) (λ_ _ h=>(xi h).elim) Aff.mixed Tw.func18 rfl (by kernel_rfl) (λ_ _=>by kernel_rfl)
  (λg=>(⟨[(3000005,.news 0 ce8),(7,.inv (ofI g))],[(6,[.ownC 0 1 67 1,.deepen 2 3 58,.ownC 0 2 45 8])]⟩:Ann)) (λg=>lN (by kernel_rfl)) ?_
 rintro g ⟨hw,hh,hn⟩;refine ac7 (B:=let K:=Int.ofNat;let A:=Aq;let z32:=(256:Int);let z31:=(7:Nat);let z30:=(6:Nat);let z29:=(5:Nat);let z28:=(4:Nat);let z27:=(3:Nat);let z26:=(2:Nat);let z24:=(1:Int);let z23:=(1:Nat);let z18:=(((Tt/\Tt)/\Tt)/\Tt);let z17:=(16:Int);let z15:=(↑g.h:Int);let z14:=(Gt.P (ofA g));let z13:=(↑g.w:Int);let z12:=(0:Nat);let z21:=(Tt/\A ((bif (ofA g).full then z12 else(ofA g).n)=z12));let z9:=(9223372036854775807:Int);let z8:=(-9223372036854775808:Int);let z4:=(IntKind.i64=IntKind.i64);let q4:=λp:Int=>A z4/\A (p=p);let z33:=(q4 (z17*z15));let z22:=(q4 z13);let z1:=(IntKind.u8=IntKind.u8);let q1:=λp:Int=>A z1/\A (p=p);let z5:=(A (g.n=g.n)/\∀i:Nat,i<g.n->(chp True (λj:Nat=>q1 (g.f i j)) 7)/\q1 (g.f i z31));Tt/\Tt/\Tt/\Tt/\((z22/\(q4 z15)/\Tt)/\A True)/\Tt/\Br (!(decide (z24<=z13)&&(decide (z13<=z32)&&(decide (z24<=z15)&&decide (z15<=z32))))) (Tt/\Tt/\Tt/\z21/\A z4/\A ((3:Int)=bif (ofA g).full then(2:Int)else(0:Int))) (Tt/\Tt/\Tt/\A (z8<=z32*z13/\z32*z13<=z9)/\Tt/\A (z8<=z32*z13*z15/\z32*z13*z15<=z9)/\Tt/\Br (decide ((↑g.n:Int)≠z32*z13*z15)) (Tt/\Tt/\Tt/\z21/\A z4/\A ((4:Int)=bif (ofA g).full then(2:Int)else(0:Int))) (NewsOK Tw.prog ce8/\(Tt/\A True)/\Tt/\Tt/\A (z8<=z17*z15/\z17*z15<=z9)/\Tt/\(∃g_1:OfS,A ((ofI g).pre g_1)/\(z22/\z5/\A (z12=z12)/\z33/\(A z4/\A ((0:Int)=(↑g_1.y:Int)))/\Tt)/\(z18/\A (false=g_1.G.full))/\(∀(l:List Int),l.length=(8:Nat)->A (false=g_1.G.has l)/\((g_1.G.has l||false)=true->False))/\(A (z12=g_1.G.n)/\(∀i:Nat,i<g_1.G.n->A (z12=g_1.G.m i)/\∀(i':Nat),i'<g_1.G.m i->((Tt/\False)/\False)/\False)/\∀i:Nat,i<g_1.G.n->True)/\(A (z12=g_1.G.n)/\∀i:Nat,i<g_1.G.n->(((((((Tt/\False)/\False)/\False)/\False)/\False)/\False)/\False)/\False)/\Tt)/\∀g_1:OfS,let z34:=(z18/\A (g_1.G.full=g_1.G.full));let z20:=(Gt.P g_1.G);let z19:=((g_1.y+z23)*(16:Nat)*g.w);let z16:=(g_1.y*(16:Nat)*g.w);let z11:=(∀(l:List Int),l.length=(8:Nat)->A (g_1.G.has l=g_1.G.has l)/\((g_1.G.has l||false)=true->q4 (g_1.G.val l)));let z10:=(↑g_1.y:Int);let z7:=(A (g_1.G.n=g_1.G.n)/\(∀i:Nat,i<g_1.G.n->A (g_1.G.m i=g_1.G.m i)/\∀(i':Nat),let z25:=(g_1.G.p i i');i'<g_1.G.m i->((Tt/\q4 z25.y)/\q4 z25.x0)/\q4 z25.x1)/\∀i:Nat,i<g_1.G.n->True);let z6:=(K z19-K z16);let z3:=(A (g_1.G.n=g_1.G.n)/\∀i:Nat,i<g_1.G.n->(chp True (λj:Nat=>q1 (g_1.G.ink i j)) 7)/\q1 (g_1.G.ink i z31));let z0:=(rowA g_1.G z10 z6.toNat λ(i:Nat)=>g.f ((K z16).toNat+i));(ofI g).pre g_1->Tt/\Br (decide (z10<z17*z15)) (Tt/\Tt/\Tt/\Tt/\Tt/\Tt/\A (z8<=z10*z17/\z10*z17<=z9)/\Tt/\A (z8<=z10*z17*z13/\z10*z17*z13<=z9)/\Tt/\A (z8<=z10+z24/\z10+z24<=z9)/\A (z8<=(z10+z24)*z17/\(z10+z24)*z17<=z9)/\Tt/\A (z8<=(z10+z24)*z17*z13/\(z10+z24)*z17*z13<=z9)/\A ((0:Int)<=K z16/\K z16<=K z19/\K z19<=K g.n/\K g.n<=(↑g.n:Int))/\((Tt/\(A (z12=z12)/\(q4 z10)/\(A (z6.toNat=z6.toNat)/\∀i:Nat,let z2:=((K z16).toNat+i);i<z6.toNat->(chp True (λj:Nat=>q1 (g.f z2 j)) 7)/\q1 (g.f z2 z31))/\Tt)/\z34/\z11/\z7/\z3/\Tt)/\A (∃B:Nat,Gok B g_1.G/\B+z6.toNat<=(4294967295:Nat)))/\A (z8<=z10+z24/\z10+z24<=z9)/\Tt/\∃(g':OfS),A ((ofI g).pre g')/\((z22/\z5/\A (z12=z12)/\z33/\(A z4/\A (z10+z24=(↑g'.y:Int)))/\Tt)/\(z18/\A (z0.full=g'.G.full))/\(∀(l:List Int),l.length=(8:Nat)->A (z0.has l=g'.G.has l)/\((g'.G.has l||false)=true->A z4/\A (z0.val l=g'.G.val l)))/\(A (z0.n=g'.G.n)/\(∀i:Nat,i<g'.G.n->A (z0.m i=g'.G.m i)/\∀(i':Nat),i'<g'.G.m i->((Tt/\A z4/\A ((z0.p i i').y=(g'.G.p i i').y))/\A z4/\A ((z0.p i i').x0=(g'.G.p i i').x0))/\A z4/\A ((z0.p i i').x1=(g'.G.p i i').x1))/\∀i:Nat,i<g'.G.n->True)/\(A (z0.n=g'.G.n)/\∀i:Nat,i<g'.G.n->(((((((Tt/\A z1/\A (z0.ink i z12=g'.G.ink i z12))/\A z1/\A (z0.ink i z23=g'.G.ink i z23))/\A z1/\A (z0.ink i z26=g'.G.ink i z26))/\A z1/\A (z0.ink i z27=g'.G.ink i z27))/\A z1/\A (z0.ink i z28=g'.G.ink i z28))/\A z1/\A (z0.ink i z29=g'.G.ink i z29))/\A z1/\A (z0.ink i z30=g'.G.ink i z30))/\A z1/\A (z0.ink i z31=g'.G.ink i z31))/\Tt)/\A ((ofI g).meas g'<(ofI g).meas g_1)) (Tt/\((Tt/\(A (z12=z12)/\Tt)/\z34/\z11/\z7/\z3/\Tt)/\A (g_1.G.n<=(4096:Nat)))/\Tt/\Tt/\Tt/\Tt/\Tt/\(Tt/\A ((bif g_1.G.full then z12 else g_1.G.n)=bif (ofA g).full then z12 else(ofA g).n)/\∀i:Nat,(i<bif (ofA g).full then z12 else(ofA g).n)->((((((((Tt/\A (z20.m i=z14.m i)/\∀i_1:Nat,i_1<z14.m i->((Tt/\A z4/\A ((g_1.G.p i i_1).y=(z14.p i i_1).y))/\A z4/\A ((g_1.G.p i i_1).x0=(z14.p i i_1).x0))/\A z4/\A ((g_1.G.p i i_1).x1=(z14.p i i_1).x1))/\A z1/\A (z20.ink i z12=z14.ink i z12))/\A z1/\A (z20.ink i z23=z14.ink i z23))/\A z1/\A (z20.ink i z26=z14.ink i z26))/\A z1/\A (z20.ink i z27=z14.ink i z27))/\A z1/\A (z20.ink i z28=z14.ink i z28))/\A z1/\A (z20.ink i z29=z14.ink i z29))/\A z1/\A (z20.ink i z30=z14.ink i z30))/\A z1/\A (z20.ink i z31=z14.ink i z31))/\A z4/\A ((bif g_1.G.full then(2:Int)else(0:Int))=bif (ofA g).full then(2:Int)else(0:Int)))))) ?_;simp only[chp];simp only[cln,ly,lO];simp only[xA,ly];have hsz:(decide (1<=(g.w:Int))&&(decide ((g.w:Int)<=256)&&(decide (1<=(g.h:Int))&&decide ((g.h:Int)<=256))))=true:=by
  simp only[lr,lE];omega
 have e3:256*g.w*g.h<=256*256*256:=ue (uS _ hw.2) hh.2;have c1:(256*(g.w:Int)*g.h)=((256*g.w*g.h:Nat):Int):=by simp
 have start:∀G:Gt,G=bQ7->G.full=false/\(∀l,G.has l=false)/\G.n=0:=by rintro G rfl;exact⟨rfl,λ_=>rfl,rfl⟩
 refine⟨λhc=>(by rw[hsz]at hc;cases hc),λ_=>⟨by omega,by rw[c1];omega,λhc=>absurd (show(g.n:Int)=256*g.w*g.h by rw[c1,hn]) hc,λ_=>⟨cq1,by omega,⟨⟨0,bQ7⟩,⟨lB _,rfl⟩,?_⟩,λs hs=>⟨λhlt=>?_,λhge=>?_⟩⟩⟩⟩
 ·exact⟨rfl,rfl,λl _=>⟨rfl,λh=>by cases h⟩,⟨rfl,λi hi=>absurd hi (ln _)⟩,rfl,λi hi=>absurd hi (ln _)⟩
 ·have hy:s.y+1<=16*g.h:=by omega
  have e1:(s.y+1)*16*g.w=s.y*16*g.w+16*g.w:=by rw[lL,uD,lL]
  have e2:(s.y+1)*16*g.w<=256*g.w*g.h:=by
   refine lU (lk _ (lk _ hy)) (Nat.le_of_eq ?_);grind
  have c2:((s.y:Int)*16*g.w)=((s.y*16*g.w:Nat):Int):=by simp
  have c3:(((s.y:Int)+1)*16*g.w)=(((s.y+1)*16*g.w:Nat):Int):=by simp
  have hl:((((s.y+1)*16*g.w:Nat):Int)-((s.y*16*g.w:Nat):Int)).toNat=16*g.w:=by omega
  have hG:s.G=ofR g.f (16*g.w) s.y:=hs.2;have hmul:s.y*(16*g.w)=s.y*16*g.w:=(Nat.mul_assoc _ _ _).symm;have hB:Gok (s.y*(16*g.w)) s.G:=hG▸bM8 g.f (16*g.w) s.y;rw[hl];refine⟨by omega,by rw[c2];omega,by omega,by omega,by rw[c3];omega,by omega,⟨_,hB,by rw[hmul];omega⟩,by omega,⟨s.y+1,rowA s.G s.y (16*g.w) λi=>g.f (s.y*16*g.w+i)⟩,⟨hy,?_⟩,⟨by simp,bJ8 _⟩,by show 16*g.h-(s.y+1)<16*g.h-s.y;omega⟩;show rowA s.G s.y (16*g.w) (λi=>g.f (s.y*16*g.w+i))=rowA (ofR g.f (16*g.w) s.y) s.y (16*g.w) (λx=>g.f (s.y*(16*g.w)+x));rw[hG,hmul]
 ·have hy:s.y<=16*g.h:=hs.1;have hG:s.G=ofR g.f (16*g.w) s.y:=hs.2;have e:ofA g=s.G:=by
   rw[of_eq,hG,show s.y=16*g.h by omega];rfl
  have hB:Gok (s.y*(16*g.w)) s.G:=hG▸bM8 g.f (16*g.w) s.y;rw[e];refine⟨hB.n,⟨rfl,λi hi=>?_⟩,rfl⟩;repeat' (first|rfl|trivial|apply And.intro|intro _)
end Gar
end Go.Proofs.YtnhecfkpiojmhaaGreat
