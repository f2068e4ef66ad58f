import Derived.Test.YtnhecfkpiojmhaaGreatM2
set_option linter.all false
/- Part 3. -/
namespace Go.Proofs.YtnhecfkpiojmhaaGreat
namespace Sx
open Go.RowKit
theorem bO1{w X E b v}(h:R w X E (.lit b) v):v=.bool b:=by cases h;rfl
theorem aN0{w X E b v}(h:R w X E (.bool b) v):v=.bool b:=by cases h;rfl
theorem bo3{ti:Nat×Bool}{H:List SO}{x z:SV}{y:Yd}(h:ao5 ti H x z=some y):y.val=.any:=by
 unfold ao5 at h;repeat' (split at h)
 all_goals first|(cases h;done)|(cases h;rfl)
theorem bP8{w X E f n g v}(h:R w X E (.fn f n g) v):∃vs,v=.func (.func f) #[] vs/\vs.size=n/\∀i<n,R w X E (g i) (vs.getD i undef):=by
 cases h with
 |fn hs hr=>exact⟨_,rfl,hs,hr⟩
theorem cg5{w X E f n g v}(h:R w X E (.fnb f n g) v):∃vs,v=.func (.func f) vs #[]/\vs.size=n/\∀i<n,R w X E (g i) (vs.getD i undef):=by
 cases h with
 |fnb hs hr=>exact⟨_,rfl,hs,hr⟩
theorem bj3{w X E}{ss:List SV}{vs:Array Value}(h:ax8 w X E ss vs){n:Nat}{g:Nat->SV}{cs:Array Value}(hs:cs.size=n)(hr:∀i<n,R w X E (g i) (cs.getD i undef)):
  ax8 w X E ((List.range n).map g++ss) (cs++vs):=by
 obtain⟨h1,h2⟩:=h;refine⟨by simp[h1,hs],λi hi=>?_⟩;simp only[lx,lY,lai]at hi;by_cases hlt:i<n
 ·have e1:((List.range n).map g++ss).getD i .any=g i:=by
   rw[la,xh (by simpa using hlt),lW,uz hlt];rfl
  have e2:(cs++vs).getD i undef=cs.getD i undef:=by
   rw[lc,xk (by omega),lc]
  rw[e1,e2];exact hr i hlt
 ·have e1:((List.range n).map g++ss).getD i .any=ss.getD (i-n) .any:=by
   rw[la,lR (by simpa using uM.1 hlt),la];simp
  have e2:(cs++vs).getD i undef=vs.getD (i-n) undef:=by
   rw[lc,xr (by omega),lc,hs]
  rw[e1,e2];exact h2 _ (by omega)
theorem az9{w X E}{ss:List SV}{vs:Array Value}(h:ax8 w X E ss vs){n:Nat}{g:Nat->SV}{cs:Array Value}(hs:cs.size=n)(hr:∀i<n,R w X E (g i) (cs.getD i undef)):
  ax8 w X E (ss++(List.range n).map g) (vs++cs):=by
 obtain⟨h1,h2⟩:=h;refine⟨by simp[h1,hs],λi hi=>?_⟩;simp only[lx,lY,lai]at hi;by_cases hlt:i<ss.length
 ·have e1:(ss++(List.range n).map g).getD i .any=ss.getD i .any:=ab0 hlt;have e2:(vs++cs).getD i undef=vs.getD i undef:=by
   rw[lc,xk (by omega),lc]
  rw[e1,e2];exact h2 i hlt
 ·have e1:(ss++(List.range n).map g).getD i .any=g (i-ss.length):=by
   rw[la,lR (by omega),lW,uz (by omega)];rfl
  have e2:(vs++cs).getD i undef=cs.getD (i-ss.length) undef:=by
   rw[lc,xr (by omega),lc,h1]
  rw[e1,e2];exact hr _ (by omega)
theorem aW0{P:Program}{t:TypeId}(h:by8 P t=true):∃d,P.underlying t=some d/\∀m,d≠.interface m:=by
 unfold by8 at h;split at h
 ·cases h
 ·rename_i d hne hd;exact⟨_,hd,λm e=>hne m e⟩
 ·cases h
theorem bo9{P:Program}{w0 X0 H E w nm}(h:Rep w0 X0 H E w){T:TypeId}(hT:by8 P T=true){s:SV}{v:Value}(hx:R w (Xo X0 E H) E s v){y:Yd}(hy:b04 T s=some y):
  (Instr.makeInterface T v).run P w=.ok (.iface T v) w/\Goes w0 X0 H E w nm y.eff y.val (.iface T v) w:=by
 obtain⟨d,hd,hne⟩:=aW0 hT;have hrun:(Instr.makeInterface T v).run P w=.ok (.iface T v) w:=by
  simp only[Instr.makeInterface,Sem.run_bind,run_underlying hd,rk];cases d<;>first|rfl|exact(hne _ rfl).elim
 refine⟨hrun,?_⟩;unfold b04 at hy;split at hy
 ·simp only[ac0,sk]at hy;subst hy;refine Goes.pure h (.ifc ?_ hx);cases hx;rfl
 ·simp only[ac0,sk]at hy;subst hy;refine Goes.pure h (.ifc ?_ hx);cases hx;rfl
 ·split at hy
  case h_2=>cases hy
  rename_i u hu;simp only[ac0,sk]at hy;subst hy;refine Goes.pure h (.ifc ?_ hx);cases hx;exact hu
 ·cases hy
theorem aV3{P:Program}{w0 X0 H E w nm}(h:Rep w0 X0 H E w){T xT:TypeId}(hT:by8 P T=true){z:Value}(hz:tzv P T=some z){ok:Bool}{s:SV}{v:Value}(hx:R w (Xo X0 E H) E s v){y:Yd}(hy:aM7 T ok s=some y):
  ∃u,(Instr.typeAssert v xT T ok).run P w=.ok u w/\Goes w0 X0 H E w nm y.eff y.val u w:=by
 obtain⟨d,hd,hne⟩:=aW0 hT;unfold aM7 at hy;split at hy
 case h_2=>cases hy
 rename_i U g;cases hx with
 |ifc ho hr=>
  rename_i x;have two:∀(a b:SV)(p q:Value),R w (Xo X0 E H) E a p->R w (Xo X0 E H) E b q->R w (Xo X0 E H) E (.tup 2 (lstS [a,b])) (.tuple #[p,q]):=λa b p q h1 h2=>
   .tup rfl λi hi=>match i,hi with
    |0,_=>h1
    |1,_=>h2
  split at hy
  ·rename_i e;have e:=of_decide_eq_true e;subst e;split at hy
   ·simp only[ac0,sk]at hy;subst hy;refine⟨.tuple #[x,.bool true],?_,Goes.pure h (two _ _ _ _ hr .lit)⟩;simp only[Instr.typeAssert,Sem.run_bind,run_underlying hd,rk];cases d<;>first|(exact(hne _ rfl).elim)|simp[Sem.run_pure]
   ·simp only[ac0,sk]at hy;subst hy;refine⟨x,?_,Goes.pure h hr⟩;simp only[Instr.typeAssert,Sem.run_bind,run_underlying hd,rk];cases d<;>first|(exact(hne _ rfl).elim)|simp[Sem.run_pure]
  ·rename_i e;have e:=of_decide_eq_false e;split at hy
   case h_2=>cases hy
   simp only[ac0,sk]at hy;subst hy;refine⟨.tuple #[z,.bool false],?_,Goes.pure h (two _ _ _ _ .any .lit)⟩;simp only[Instr.typeAssert,Sem.run_bind,run_underlying hd,rk];cases d<;>first|(exact(hne _ rfl).elim)|simp[Sem.run_pure,Sem.run_bind,e,bk2 hz]
theorem aU2{P:Program}{w0 X0 H E w nm}(h:Rep w0 X0 H E w){t:TypeId}(ht:ca0 P t=true){k:IntKind}:
  ∃u w',(Instr.makeChan t (.int k 0)).run P w=.ok u w'/\Goes w0 X0 H E w nm .keep .any u w':=by
 unfold ca0 at ht;split at ht
 case h_2=>cases ht
 rename_i d e hd;split at ht
 case h_2=>cases ht
 rename_i i hi;refine⟨.chan (some w.heap.size),w.alloc (.chan 0 #[] false 0 0 false),?_,Goes.world h (Below.aT4 w _) .any⟩;simp[Instr.makeChan,asInt,asIntOf,Sem.run_bind,run_underlying hd,rk,typeInfo,hi,run_newObj_alloc,Sem.run_pure]
theorem ad8{P:Program}{w0 X0 H E w nm}(h:Rep w0 X0 H E w){specs:List FSpec}(hspecs:∀s∈specs,ah9 P w0 X0 s){eqs:List (TypeId×List CK)}(heqs:∀t n,(t,n)∈eqs->EqOK P t n)
  {n0:Option Nat}{N:Nat}{τ:Tmps}{a:Act}(ht:TR n0 w (Xo X0 E H) E N τ a) {o:Oper}{y:Yd}(hy:evOp P specs eqs N τ H nm o=some y) (hask:y.ask) (hf:Free H E nm y.eff):
  OpOK P o a w (λv w'=>Goes w0 X0 H E w nm y.eff y.val v w'):=by
 have ev:=λx=>ag8 ht x
 unfold evOp at hy;split at hy
 ·rename_i x ho;simp only[ac0,sk]at hy;subst hy;exact ab3 ⟨_,w,by simp only[execOp,ho,Sem.run_pure],Goes.pure h (ev x)⟩
 ·rename_i x ho;simp only[ac0,sk]at hy;subst hy;exact ab3 ⟨_,w,by simp only[execOp,ho,Sem.run_pure],Goes.pure h (ev x)⟩
 ·rename_i c p q ho;split at hy
  ·rename_i t e1;have hvc:=bO1 (e1▸ev c);cases t with
   |true=>
    simp only[ac0,sk]at hy;subst hy;exact ab3 ⟨a.eval p,w,by simp only[execOp,ho,hvc,asBool,Sem.run_bind,Sem.run_pure,rk,xj],Goes.pure h (ev p)⟩
   |false=>
    simp only[ac0,sk]at hy;subst hy;exact ab3 ⟨a.eval q,w,by simp only[execOp,ho,hvc,asBool,Sem.run_bind,Sem.run_pure,rk,lH,xn],Goes.pure h (ev q)⟩
  ·rename_i b1 e1;split at hy
   case h_2=>cases hy
   rename_i b2 b3 e2 e3;simp only[ac0,sk]at hy;subst hy;have hvc:=aN0 (e1▸ev c);have hvp:=aH5 e2 (ev p);have hvq:=aH5 e3 (ev q);refine ab3 ⟨.bool (if b1=true then b2 else b3),w,?_,Goes.pure h .bool⟩;simp only[execOp,ho,hvc,hvp,hvq,asBool,Sem.run_bind,Sem.run_pure,rk];cases b1<;>rfl
  ·cases hy
 ·rename_i T ho;cases hz:am4 P T with
  |none=>simp[hz]at hy
  |some z=>
   simp only[hz,sk]at hy;subst hy;obtain⟨u,w',h1,h2⟩:=bq2 (P:=P) h hz hf;exact ab3 ⟨u,w',by simp only[execOp,ho,Sem.run_bind,h1,rk,Sem.run_pure],h2⟩
 ·rename_i T x ho;cases hc:cellsOf (evO N τ x)with
  |none=>simp[hc]at hy
  |some ng=>
   obtain⟨n,g⟩:=ng;simp only[hc]at hy;split at hy
   ·obtain⟨hall,rfl⟩:=aa0 hy;obtain⟨u,w',h1,h2⟩:=bD7 (P:=P) (t:=T) (nm:=nm) h (ev x) hc λi hi=>ad1 hall hi
    exact ab3 ⟨u,w',by simp only[execOp,ho,Sem.run_bind,h1,rk,Sem.run_pure],h2⟩
   simp only[sk]at hy;subst hy;obtain⟨u,w',h1,h2⟩:=bS4 (P:=P) h (ev x) hc hf;exact ab3 ⟨u,w',by simp only[execOp,ho,Sem.run_bind,h1,rk,Sem.run_pure],h2⟩
 ·rename_i T parts ho;have hps:=az0 ht parts.toList;have hmap:(parts.map λp:Nat×Operand=>(p.1,a.eval p.2)).toList=parts.toList.map λp=>(p.1,a.eval p.2):=Array.toList_map ..
  rw[<-hmap]at hps;have fin:(∃u w',(Instr.build T (parts.map λp:Nat×Operand=>(p.1,a.eval p.2))).run P w=.ok u w'/\Goes w0 X0 H E w nm y.eff y.val u w')->OpOK P o a w (λv w'=>Goes w0 X0 H E w nm y.eff y.val v w'):=by
   rintro⟨u,w',h1,h2⟩;exact ab3 ⟨u,w',by simp only[execOp,ho,Sem.run_bind,h1,rk,Sem.run_pure],h2⟩
  cases hz:am4 P T with
  |none=>simp[hz]at hy
  |some z=>
   simp only[hz]at hy;cases hfl:bU9 P T with
   |some fl=>
    simp only[hfl]at hy;exact fin (aV1 (P:=P) h hz hfl hps hy)
   |none=>
    simp only[hfl]at hy;cases hai:tarr P T with
    |none=>simp[hai]at hy
    |some ai=>
     simp only[hai]at hy;exact fin (aV2 (P:=P) h hz hai hps hy)
 ·rename_i T len parts ho;have hps:=az0 ht parts.toList;have hmap:(parts.map λp:Nat×Operand=>(p.1,a.eval p.2)).toList=parts.toList.map λp=>(p.1,a.eval p.2):=Array.toList_map ..
  rw[<-hmap]at hps;cases hte:tsl P T with
  |none=>simp[hte]at hy
  |some te=>
   simp only[hte]at hy;cases hz:am4 P te.1 with
   |none=>simp[hz]at hy
   |some z=>
    simp only[hz]at hy;obtain⟨u,w',h1,h2⟩:=aD7 (P:=P) h hte hz hps hy hf;exact ab3 ⟨u,w',by simp only[execOp,ho,Sem.run_bind,h1,rk,Sem.run_pure],h2⟩
 ·rename_i T x ho;cases hti:tinf P T with
  |none=>simp[hti]at hy
  |some ti=>
   simp only[hti]at hy;obtain⟨u,w',h1,h2⟩:=bh6 (P:=P) (nm:=nm) h hti (ev x) hy hask;exact ab3 ⟨u,w',by simp only[execOp,ho,Sem.run_bind,h1,rk,Sem.run_pure],h2⟩
 ·rename_i T x z ho;cases hti:tinf P T with
  |none=>simp[hti]at hy
  |some ti=>
   simp only[hti]at hy;obtain⟨w',h1,h2⟩:=a71 (P:=P) (nm:=nm) h hti (ev x) (ev z) hy hask;have hval:y.val=.any:=bo3 hy;exact be6 ⟨w',by simp only[execOp,ho,Sem.run_bind,h1,rk,Sem.run_pure],by rw[hval];exact h2⟩
 ·rename_i x ho;exact ab3 (bo6 (P:=P) (nm:=nm) h (ev x) hy ho)
 ·rename_i op T x z yT ho;split at hy
  ·rename_i hnil;split at hy
   case h_2=>cases hy
   rename_i te hte;obtain⟨n,c,hz⟩:∃n c,a.eval z=.slice none n c:=by
    cases z<;>simp only[b71,lH]at hnil
    rename_i v;cases v<;>simp only[lH]at hnil
    rename_i ad n c;cases ad
    ·exact⟨n,c,rfl⟩
    ·cases hnil
   obtain⟨u,w',h1,h2⟩:=bh3 (P:=P) (nm:=nm) (xo:=x) (yo:=z) (n:=n) (c:=c) h hte (ev x) hy;refine ab3 ⟨u,w',?_,h2⟩;simp only[execOp,ho,hz,Sem.run_bind]at h1⊢;rw[h1];rfl
  ·obtain⟨u,w',h1,h2⟩:=bQ2 (P:=P) (nm:=nm) (xo:=x) (yo:=z) h heqs (ev x) (ev z) hy hask;refine ab3 ⟨u,w',?_,h2⟩;simp only[execOp,ho,Sem.run_bind]at h1⊢;rw[h1];rfl
 ·rename_i op T x ho;obtain⟨u,w',h1,h2⟩:=bQ4 (P:=P) (nm:=nm) h (ev x) hy hask;exact ab3 ⟨u,w',by simp only[execOp,ho,Sem.run_bind,h1,rk,Sem.run_pure],h2⟩
 ·rename_i s d x ho;split at hy
  case h_2=>cases hy
  rename_i k1 k2 e1 e2;obtain⟨u,w',h1,h2⟩:=aS0 (P:=P) (nm:=nm) h (by rw[e1];simp) e2 (ev x) hy hask;exact ab3 ⟨u,w',by simp only[execOp,ho,Sem.run_bind,h1,rk,Sem.run_pure],h2⟩
 ·rename_i f first caps ho
  by_cases hfs:first.size=0
  case neg=>
   rw[lu hfs]at hy;obtain⟨hcs,hyy⟩:=aa0 (show(if caps.size=0 then some (Yd.mk True (.fnb f first.size (λi=>(mapArgs N τ first).getD i .any)) .keep)else none)=some y from hy);subst hyy;have hce:caps = #[]:=uB hcs;obtain⟨g1,g2⟩:=aq4 ht first
   refine ab3 ⟨.func (.func f) (first.map a.eval) #[],w,?_,Goes.pure h (.fnb (by simp) λi hi=>g2 i (by simpa[mapArgs]using hi))⟩;simp only[execOp,ho,Instr.makeFunc,hce,Sem.run_bind,Sem.run_pure,rk,Array.map_empty]
  rw[ll hfs]at hy;have hyy:some (Yd.mk True (.fn f caps.size (λi=>(mapArgs N τ caps).getD i .any)) .keep)=some y:=hy;simp only[sk]at hyy;subst hyy;have hfe:first = #[]:=uB hfs
  obtain⟨g1,g2⟩:=aq4 ht caps;refine ab3 ⟨.func (.func f) #[] (caps.map a.eval),w,?_,Goes.pure h (.fn (by simp) λi hi=>g2 i (by simpa[mapArgs]using hi))⟩;simp only[execOp,ho,Instr.makeFunc,hfe,Sem.run_bind,Sem.run_pure,rk,Array.map_empty]
 ·rename_i T l c ho;cases hte:tsl P T with
  |none=>simp[hte]at hy
  |some te=>
   simp only[hte]at hy;cases hz:am4 P te.1 with
   |none=>simp[hz]at hy
   |some z=>
    simp only[hz]at hy;split at hy
    case h_2=>cases hy
    rename_i kl l' kc c' e1 e2;have hv1:=ah3 (e1▸ev l);have hv2:=ah3 (e2▸ev c);obtain⟨u,w',h1,h2⟩:=aG7 (P:=P) (kl:=kl) (kc:=kc) h hte hz hy hask hf;exact ab3 ⟨u,w',by simp only[execOp,ho,hv1,hv2,Sem.run_bind,h1,rk,Sem.run_pure],h2⟩
 ·rename_i T x lo hi mx ho;cases hte:tsl P T with
  |none=>
   simp only[hte]at hy;split at hy
   case h_2=>cases hy
   rename_i n ag hta;split at hy
   case h_2=>cases hy
   rename_i lo' hi' e1 e2 e3;have o1:=am0 ht e1;have o2:=am0 ht e2;have o3:=am0 ht e3;obtain⟨u,w',h1,h2⟩:=aU7 (P:=P) (nm:=nm) h hta (ev x) hy hask;exact ab3 ⟨u,w',by simp only[execOp,ho,o1,o2,o3,optV,uH,Sem.run_bind,rk,Sem.run_pure]at h1⊢;simp only[h1,rk],h2⟩
  |some te=>
   simp only[hte]at hy;split at hy
   case h_2=>cases hy
   rename_i lo' hi' mx' e1 e2 e3;have o1:=am0 ht e1;have o2:=am0 ht e2;have o3:=am0 ht e3;have fin:(∃u w',(Instr.sliceAt T (a.eval x) (optV lo') (optV hi') (optV mx')).run P w=.ok u w'/\Goes w0 X0 H E w nm y.eff y.val u w')->OpOK P o a w (λv w'=>Goes w0 X0 H E w nm y.eff y.val v w'):=by
    rintro⟨u,w',h1,h2⟩;exact ab3 ⟨u,w',by simp only[execOp,ho,o1,o2,o3,Sem.run_bind,h1,rk,Sem.run_pure],h2⟩
   split at hy
   ·split at hy
    ·rename_i hc;obtain⟨rfl,rfl⟩:=hc;exact fin (bh9 (P:=P) (nm:=nm) h hte (ev x) hy)
    ·exact fin (aD0 (P:=P) (nm:=nm) h hte (ev x) hy hask)
   ·exact fin (aD0 (P:=P) (nm:=nm) h hte (ev x) hy hask)
 ·rename_i T x f ho;cases hfd:tfld P T f with
  |none=>simp[hfd]at hy
  |some fd=>
   simp only[hfd]at hy;obtain⟨u,w',h1,h2⟩:=aH0 (P:=P) (nm:=nm) h hfd (ev x) hy;exact ab3 ⟨u,w',by simp only[execOp,ho,Sem.run_bind,h1,rk,Sem.run_pure],h2⟩
 ·rename_i T x f ho;cases hfd:tfld P T f with
  |none=>simp[hfd]at hy
  |some fd=>
   simp only[hfd]at hy;obtain⟨u,w',h1,h2⟩:=a83 (P:=P) (nm:=nm) h hfd (ev x) hy;exact ab3 ⟨u,w',by simp only[execOp,ho,Sem.run_bind,h1,rk,Sem.run_pure],h2⟩
 ·rename_i T x i ho;split at hy
  case h_2=>cases hy
  rename_i k i' e1;have hv:=ah3 (e1▸ev i);cases hte:tsl P T with
  |some te=>
   simp only[hte]at hy;obtain⟨u,w',h1,h2⟩:=aD3 (P:=P) (nm:=nm) (k:=k) h hte (ev x) hy hask;exact ab3 ⟨u,w',by simp only[execOp,ho,hv,Sem.run_bind,h1,rk,Sem.run_pure],h2⟩
  |none=>
   simp only[hte]at hy;cases hai:tarr P T with
   |none=>simp[hai]at hy
   |some ai=>
    simp only[hai]at hy;obtain⟨u,w',h1,h2⟩:=aD4 (P:=P) (nm:=nm) (k:=k) h hai (ev x) hy hask;exact ab3 ⟨u,w',by simp only[execOp,ho,hv,Sem.run_bind,h1,rk,Sem.run_pure],h2⟩
 ·rename_i T x i ho;split at hy
  case h_2=>cases hy
  rename_i k i' e1;have hv:=ah3 (e1▸ev i);cases hai:tarr P T with
  |none=>
   simp only[hai]at hy;cases hst:tstr P T with
   |false=>simp[hst]at hy
   |true=>
    simp only[hst]at hy;obtain⟨u,w',h1,h2⟩:=aV0 (P:=P) (nm:=nm) (k:=k) h hst (ev x) hy hask;exact ab3 ⟨u,w',by simp only[execOp,ho,hv,Sem.run_bind,h1,rk,Sem.run_pure],h2⟩
  |some ai=>
   simp only[hai]at hy;obtain⟨u,w',h1,h2⟩:=a81 (P:=P) (nm:=nm) (k:=k) h hai (ev x) hy hask;exact ab3 ⟨u,w',by simp only[execOp,ho,hv,Sem.run_bind,h1,rk,Sem.run_pure],h2⟩
 ·rename_i x i ho;obtain⟨u,w',h1,h2⟩:=aR9 (P:=P) (nm:=nm) h (ev x) hy;exact ab3 ⟨u,w',by simp only[execOp,ho,Sem.run_bind,h1,rk,Sem.run_pure],h2⟩
 ·rename_i c ho;have hargs:=aq4 ht c.args;split at hy
  ·rename_i b hb;obtain⟨u,w',h1,h2⟩:=aS1 (P:=P) (nm:=nm) (ty:=o.type) (cs:=c.args.map λ| .const _=>true|_=>false) h hargs hy hask hf;refine ab3 ⟨u,w',?_,h2⟩;obtain⟨cc,ca,ct⟩:=c;simp only at hb
   subst hb;simp only[execOp,ho,resolve,Sem.run_bind,Sem.run_pure,rk,invoke];exact h1
  ·rename_i fo hb;split at hy
   case h_3=>cases hy
   ·rename_i F n g e1;obtain⟨vs,hv,hs,hr⟩:=bP8 (e1▸ev fo);obtain⟨h1,h2⟩:=aJ8 (P:=P) (nm:=nm) h hspecs (az9 hargs hs hr) hy hask hf;refine aC2 ?_ h2;obtain⟨cc,ca,ct⟩:=c;simp only at hb
    subst hb;simp only[execOp,ho,resolve,Sem.run_bind,Sem.run_pure,rk,hv,Deferred.ofValue,invoke,uZ];exact h1
   ·rename_i F n g e1;obtain⟨vs,hv,hs,hr⟩:=cg5 (e1▸ev fo);obtain⟨h1,h2⟩:=aJ8 (P:=P) (nm:=nm) h hspecs (bj3 hargs hs hr) hy hask hf;refine aC2 ?_ h2;obtain⟨cc,ca,ct⟩:=c;simp only at hb
    subst hb;simp only[execOp,ho,resolve,Sem.run_bind,Sem.run_pure,rk,hv,Deferred.ofValue,invoke,Array.append_empty];exact h1
  ·cases hy
 ·rename_i T r ho;split at hy
  case h_2=>cases hy
  obtain⟨u,w',h1,h2⟩:=aR6 h hy hf;exact ab3 ⟨u,w',by simp only[execOp,ho,uH,Sem.run_bind,h1,rk,Sem.run_pure],h2⟩
 ·rename_i T x i ok ho;split at hy
  case h_2=>cases hy
  rename_i ke hke;split at hy
  case h_2=>cases hy
  rename_i kk z hkk hz;obtain⟨u,w',h1,h2⟩:=aU9 h hke hkk hz (ev x) (ev i) hy hask;exact ab3 ⟨u,w',by simp only[execOp,ho,Sem.run_bind,h1,rk,Sem.run_pure],h2⟩
 ·rename_i T x i v ho;split at hy
  case h_2=>cases hy
  rename_i ke hke;split at hy
  case h_2=>cases hy
  rename_i kk hkk;obtain⟨w',h1,h2,h3⟩:=aU8 h hke hkk (ev x) (ev i) (ev v) hy hask;rw[h3];exact be6 ⟨w',by simp only[execOp,ho,Sem.run_bind,h1,rk,Sem.run_pure],h2⟩
 ·rename_i T x ho;split at hy
  case h_2=>cases hy
  rename_i hT;obtain⟨h1,h2⟩:=bo9 (P:=P) h hT (ev x) hy;exact ab3 ⟨_,w,by simp only[execOp,ho,Sem.run_bind,h1,rk,Sem.run_pure],h2⟩
 ·rename_i x xT T ok ho;split at hy
  case h_2=>cases hy
  rename_i hT;split at hy
  case h_2=>cases hy
  rename_i z hz;obtain⟨u,h1,h2⟩:=aV3 (P:=P) h hT hz (ev x) hy (xT:=xT);exact ab3 ⟨u,w,by simp only[execOp,ho,Sem.run_bind,h1,rk,Sem.run_pure],h2⟩
 ·rename_i T x ho;split at hy
  case h_2=>cases hy
  rename_i hT;split at hy
  case h_2=>cases hy
  rename_i k n e1;obtain⟨rfl,rfl⟩:=aa0 hy;have hv:=ah3 (e1▸ev x);obtain⟨u,w',h1,h2⟩:=aU2 (P:=P) (nm:=nm) h hT (k:=k);exact ab3 ⟨u,w',by simp only[execOp,ho,hv,Sem.run_bind,h1,rk,Sem.run_pure],h2⟩
 ·cases hy
open Go.RowKit
theorem Ext.app(H l:List SO):Ext H (H++l):=by
 intro k hk;refine ab0 (Nat.not_le.1 λhc=>hk ?_);rw[la,xC hc];rfl
theorem aG8{ti H HF x y}(he:Ext H HF)(h:ad4 ti H x=some y):ad4 ti HF x=some y:=by
 cases x<;>simp only[ad4,reduceCtorEq]at h⊢
 case own k off=>
  generalize hk:H.getD k .dead=so at h;cases so<;>simp only[reduceCtorEq]at h<;>rw[he k (by rw[hk];simp),hk]<;>exact h
 case ownAt k ver i m off=>
  generalize hk:H.getD k .dead=so at h;cases so<;>simp only[reduceCtorEq]at h<;>rw[he k (by rw[hk];simp),hk]<;>exact h
 all_goals exact h
theorem bo4{ti H HF x z y}(he:Ext H HF)(h:ao5 ti H x z=some y):ao5 ti HF x z=some y:=by
 unfold ao5 at h⊢;cases hc:cellsOf z with
 |none=>simp[hc]at h
 |some mf=>
  simp only[hc]at h⊢;split at h
  case isFalse=>cases h
  rename_i hm;rw[ll hm];cases x<;>simp only[reduceCtorEq]at h⊢
  case own k off=>
   generalize hk:H.getD k .dead=so at h;cases so<;>(try(simp only[reduceCtorEq]at h;done))<;>rw[he k (by rw[hk];simp),hk]<;>exact h
  case ownAt k ver i m off=>
   generalize hk:H.getD k .dead=so at h;cases so<;>simp only[reduceCtorEq]at h<;>rw[he k (by rw[hk];simp),hk]<;>exact h
theorem aK6{es H HF i x y}(he:Ext H HF)(h:ac2 es H i x=some y):ac2 es HF i x=some y:=by
 cases x<;>simp only[ac2,reduceCtorEq]at h⊢
 case osl k ver=>
  generalize hk:H.getD k .dead=so at h;cases so<;>simp only[reduceCtorEq]at h<;>rw[he k (by rw[hk];simp),hk]<;>exact h
 case win k ver n lo len=>
  generalize hk:H.getD k .dead=so at h;cases so<;>simp only[reduceCtorEq]at h<;>rw[he k (by rw[hk];simp),hk]<;>exact h
 all_goals exact h
theorem aR3{es H HF lo hi mx x y}(he:Ext H HF)(h:ag7 es H lo hi mx x=some y):ag7 es HF lo hi mx x=some y:=by
 cases x<;>simp only[ag7,reduceCtorEq]at h⊢
 case osl k ver=>
  generalize hk:H.getD k .dead=so at h;cases so<;>simp only[reduceCtorEq]at h<;>rw[he k (by rw[hk];simp),hk]<;>exact h
 case win k ver n lo0 len=>
  generalize hk:H.getD k .dead=so at h;cases so<;>simp only[reduceCtorEq]at h<;>rw[he k (by rw[hk];simp),hk]<;>exact h
 all_goals exact h
theorem aO3{H HF x y}(he:Ext H HF)(h:aj0 H x=some y):aj0 HF x=some y:=by
 cases x<;>simp only[aj0,reduceCtorEq]at h⊢
 case osl k ver=>
  generalize hk:H.getD k .dead=so at h;cases so<;>simp only[reduceCtorEq]at h<;>rw[he k (by rw[hk];simp),hk]<;>exact h
 case win k ver n lo len=>
  generalize hk:H.getD k .dead=so at h;cases so<;>simp only[reduceCtorEq]at h<;>rw[he k (by rw[hk];simp),hk]<;>exact h
 all_goals exact h
theorem bO4{H HF x y}(he:Ext H HF)(h:lenOf H x=some y):lenOf HF x=some y:=by
 have viaSrc:(aj0 H x).map (·.1)=some y->(aj0 HF x).map (·.1)=some y:=by
  intro h;cases hs:aj0 H x with
  |none=>simp[hs]at h
  |some q=>rw[aO3 he hs];rw[hs]at h;exact h
 cases x<;>first|exact h|exact viaSrc h|skip
 rename_i k ver;simp only[lenOf]at h⊢;by_cases hd:H.getD k .dead=.dead
 ·rw[hd]at h;simp only[aj0,hd]at h;cases h
 ·rw[he k hd];split at h
  ·exact h
  ·exact viaSrc h
theorem a96{te H HF s x y}(he:Ext H HF)(h:aj6 te H s x=some y):aj6 te HF s x=some y:=by
 unfold aj6 at h⊢;split at h
 case h_2=>cases h
 rename_i k ver;split at h
 case h_2=>cases h
 rename_i k2 ver2;split at h
 case h_2=>cases h
 rename_i hk;split at h
 case h_2=>cases h
 rename_i hk2;have e1:=he k (by rw[hk];simp);have e2:=he k2 (by rw[hk2];simp);simp only[e1,e2,hk,hk2];exact h
theorem bi3{te H HF nm s x y}(he:Ext H HF)(h:ak5 te H nm s x=some y):ak5 te HF nm s x=some y:=by
 unfold ak5 at h⊢;cases hs:aj0 H x with
 |none=>
  simp only[hs]at h;have hF:aj0 HF x=none:=by
   unfold aj6 at h;split at h
   case h_2=>cases h
   split at h
   case h_2=>cases h
   rename_i k2 ver2;split at h
   case h_2=>cases h
   split at h
   case h_2=>cases h
   rename_i hk2;simp only[aj0,he k2 (by rw[hk2];simp),hk2]
  simp only[hF];exact a96 he h
 |some q=>
  rw[aO3 he hs];simp only[hs]at h⊢;split at h
  case isFalse=>cases h
  rename_i hc;rw[ll hc];cases s<;>simp only[reduceCtorEq]at h⊢
  case osl k ver=>
   generalize hk:H.getD k .dead=so at h;cases so<;>simp only[reduceCtorEq]at h<;>rw[he k (by rw[hk];simp),hk]<;>exact h
  exact h
theorem bD1{te H HF s x y}(he:Ext H HF)(h:aY5 te H s x=some y):aY5 te HF s x=some y:=by
 unfold aY5 at h⊢;cases hs:aj0 H x with
 |none=>simp[hs]at h
 |some q=>
  rw[aO3 he hs];simp only[hs]at h⊢;cases s<;>simp only[reduceCtorEq]at h⊢
  case part k ver o wl=>
   generalize hk:H.getD k .dead=so at h;cases so<;>simp only[reduceCtorEq]at h<;>rw[he k (by rw[hk];simp),hk]<;>exact h
  case osl k ver=>
   generalize hk:H.getD k .dead=so at h;cases so<;>simp only[reduceCtorEq]at h<;>rw[he k (by rw[hk];simp),hk]<;>exact h
  case win k ver n lo len=>
   generalize hk:H.getD k .dead=so at h;cases so<;>simp only[reduceCtorEq]at h<;>rw[he k (by rw[hk];simp),hk]<;>exact h
theorem bp1{te z H HF s y}(he:Ext H HF)(h:aH2 te z H s=some y):aH2 te z HF s=some y:=by
 unfold aH2 at h⊢;cases s<;>simp only[reduceCtorEq]at h⊢
 case win k ver n lo len=>
  generalize hk:H.getD k .dead=so at h;cases so<;>simp only[reduceCtorEq]at h<;>rw[he k (by rw[hk];simp),hk]<;>exact h
theorem a89{P H HF nm b ats ss y}(he:Ext H HF)(h:aj5 P H nm b ats ss=some y):aj5 P HF nm b ats ss=some y:=by
 unfold aj5 at h⊢;split at h
 ·split at h
  case h_2=>cases h
  split at h
  case isFalse=>cases h
  rename_i htt;subst htt;simp only[xj];split at h
  case h_2=>cases h
  split at h
  case h_2=>cases h
  exact bi3 he h
 ·split at h
  case h_2=>cases h
  split at h
  ·split at h
   ·cases h
   ·split at h
    case h_2=>cases h
    rename_i n hn;rw[bO4 he hn];exact h
  ·exact h
 ·split at h
  case h_2=>cases h
  split at h
  case h_2=>cases h
  exact bD1 he h
 ·repeat' (split at h)
  all_goals first|(cases h;done)|skip
  exact bp1 he h
 ·exact h
 ·exact h
 ·cases h
theorem bh4{kk z H HF x i ok y}(he:Ext H HF)(h:ao1 kk z H x i ok=some y):ao1 kk z HF x i ok=some y:=by
 unfold ao1 at h⊢;split at h
 case h_2=>cases h
 rename_i k;have hne:H.getD k .dead≠.dead:=λhc=>by rw[hc]at h;cases h
 rw[he k hne];exact h
theorem a73{kk H x i v y}(h:aD2 kk H x i v=some y):∃l,y.eff=.sets l:=by
 unfold aD2 at h;repeat' (split at h)
 all_goals first|(cases h;done)|(cases h;exact⟨_,rfl⟩)|(obtain⟨_,rfl⟩:=aa0 h;exact⟨_,rfl⟩)
theorem bh5{kk z H x i ok y}(h:ao1 kk z H x i ok=some y):y.eff=.keep:=by
 unfold ao1 at h;repeat' (split at h)
 all_goals first|(cases h;done)|(cases h;rfl)|(obtain⟨_,rfl⟩:=aa0 h;rfl)
theorem a74{P t nm y}(h:av0 P t nm=some y):∃so,y.eff=.new so:=by
 unfold av0 at h;repeat' (split at h)
 all_goals first|(cases h;done)|(cases h;exact⟨_,rfl⟩)
theorem aM6{P:Program}{w0:World}{X0:Fr}{specs eqs N τ H HF nm o y}(hspecs:∀s∈specs,ah9 P w0 X0 s)(he:Ext H HF)(hns:∀l,y.eff≠.sets l)(h:evOp P specs eqs N τ H nm o=some y):evOp P specs eqs N τ HF nm o=some y:=by
 unfold evOp at h⊢;split at h
 case h_8=>
  rename_i T x ho;cases hti:tinf P T with
  |none=>simp[hti]at h
  |some ti=>simp only[hti]at h⊢;exact aG8 he h
 case h_9=>
  rename_i T x z ho;cases hti:tinf P T with
  |none=>simp[hti]at h
  |some ti=>simp only[hti]at h⊢;exact bo4 he h
 case h_16=>
  rename_i T x lo hi mx ho;cases hte:tsl P T with
  |none=>simp only[hte]at h⊢;exact h
  |some te=>
   simp only[hte]at h⊢;split at h
   case h_2=>cases h
   split at h
   ·split at h
    ·rename_i hc;rw[ll hc];exact h
    ·rename_i hc;rw[lu hc];exact aR3 he h
   ·exact aR3 he h
 case h_19=>
  rename_i T x i ho;split at h
  case h_2=>cases h
  cases hte:tsl P T with
  |none=>simp only[hte]at h⊢;exact h
  |some te=>simp only[hte]at h⊢;exact aK6 he h
 case h_22=>
  rename_i c ho;split at h
  ·exact a89 he h
  ·split at h
   ·exact aY6 hspecs he hns h
   ·exact aY6 hspecs he hns h
   ·cases h
  ·cases h
 case h_24=>
  split at h
  case h_2=>cases h
  split at h
  case h_2=>cases h
  exact bh4 he h
 case h_25=>
  split at h
  case h_2=>cases h
  split at h
  case h_2=>cases h
  obtain⟨l,hl⟩:=a73 h;exact absurd hl (hns l)
 all_goals exact h
def aN6:SV:= .tup 0 (λ_=> .any)
theorem at1{w X E}:R w X E aN6 undef:= .tup rfl λ_ hi=>absurd hi (ln _)
def putT(dst:Option Tmp)(s:SV)(τ:Tmps):Tmps:=match dst with
 |some d=>(d,s)::τ
 |none=>τ
def ax6(H:List SO):Eff->List SO
 |.keep=>H
 |.new so=>H++[so]
 |.sets l=>ad5 H l
def gsv(N:Nat)(ops:Array Oper)(τ:Tmps)(j:Nat):SV:=
 match(ops[j]?).bind (·.dst)with
 |some d=>if d<N then ac5 τ d else .any
 |none=> .any
theorem TR.put{n0 w X E N τ a dst s v}(h:TR n0 w X E N τ a)(hr:R w X E s v):TR n0 w X E N (putT dst s τ) (a.put dst v):=by
 cases dst with
 |none=>exact h
 |some d=>
  refine⟨by simp[Act.put,h.1],h.2.1,λt ht=>?_⟩;simp only[Act.put,putT,ac5];by_cases hd:d=t
  ·subst hd;rw[ll rfl,lc,lm (by rw[h.1];exact ht)];exact hr
  ·rw[lu hd,lc,lj hd,<-lc];exact h.2.2 t ht
theorem TR.mono{n0 w w' X X' E E' N τ a}(h:TR n0 w X E N τ a)(hk:aA1 X w w')(hx:ab7 X X' w)(le:E.le E'):TR n0 w' X' E' N τ a:=
 ⟨h.1,h.2.1.mono hk hx,λt ht=>(h.2.2 t ht).mono hk hx le⟩
structure St:Type where
 τ:Tmps
 H:List SO
def StR(w0:World)(X0:Fr)(N:Nat)(s:St)(a:Act)(w:World):Prop:=∃E,Rep w0 X0 s.H E w/\TR (X0.n0 w0) w (Xo X0 E s.H) E N s.τ a
theorem aA5{n0 w X E N τ a ops}(h:TR n0 w X E N τ a)(j:Nat):(∀b,asB (gsv N ops τ j)=some b->yielded ops a.tmps j=some b)/\(∀n g,gsv N ops τ j=.tup n g->yielded ops a.tmps j=none):=by
 unfold gsv yielded;cases hd:(ops[j]?).bind (·.dst)with
 |none=>exact⟨λb hb=>(nomatch hb),λn g hb=>(nomatch hb)⟩
 |some d=>
  simp only[lan];by_cases hlt:d<N
  ·rw[ll hlt];have hr:=h.2.2 d hlt;have hget:a.tmps[d]?=some (a.tmps.getD d undef):=by
    rw[lc,lF (by rw[h.1];exact hlt)];rfl
   rw[hget];refine⟨λb hb=>?_,λn g hb=>?_⟩
   ·rw[aH5 hb hr]
   ·rw[hb]at hr;generalize a.tmps.getD d undef=v at hr;cases hr with
    |tup=>rfl
  ·rw[lu hlt];exact⟨λb hb=>(nomatch hb),λn g hb=>(nomatch hb)⟩
def Want(N:Nat)(ops:Array Oper)(τ:Tmps)(o:Oper)(yes:Bool):Prop:=
 match o.guard with
 |none=>yes=true
 |some (j,want)=>(∃b,asB (gsv N ops τ j)=some b/\yes=(b==want))\/(∃n g,gsv N ops τ j=.tup n g/\yes=false)
theorem Want.wanted{n0 w X E N τ a ops o yes}(h:TR n0 w X E N τ a)(hw:Want N ops τ o yes):Region.wanted o (yielded ops a.tmps)=yes:=by
 unfold Want at hw;unfold Region.wanted;cases hg:o.guard with
 |none=>rw[hg]at hw;exact hw.symm
 |some jw=>
  obtain⟨j,want⟩:=jw;rw[hg]at hw;simp only at hw⊢
  rcases hw with⟨b,h1,rfl⟩|⟨n,g,h1,rfl⟩
  ·rw[(aA5 h j).1 b h1];cases b<;>cases want<;>rfl
  ·rw[(aA5 h j).2 n g h1];rfl
inductive Step(P:Program)(specs:List FSpec)(eqs:List (TypeId×List CK))(N:Nat)(ops:Array Oper)(o:Oper)(s:St):St->Prop
 |run {y v} (hw:Want N ops s.τ o true) (hy:evOp P specs eqs N s.τ s.H s.H.length o=some y) (hask:y.ask) (hv:∀w X E u,R w X E y.val u->R w X E v u) (hv2:∀k o,y.val=.own k o->v=.own k o) (hv3:∀n g,y.val=.ref n g->v=.ref n g) (hv4:∀n m g,y.val=.sl n m g->v=.sl n m g):Step P specs eqs N ops o s ⟨putT o.dst v s.τ,ax6 s.H y.eff⟩
 |skip (hw:Want N ops s.τ o false):Step P specs eqs N ops o s ⟨putT o.dst aN6 s.τ,s.H⟩
theorem bd4{P:Program}{w0 X0 N}{specs:List FSpec}(hspecs:∀s∈specs,ah9 P w0 X0 s){eqs:List (TypeId×List CK)}(heqs:∀t n,(t,n)∈eqs->EqOK P t n){s:St}{a:Act}{w:World}
  (h:StR w0 X0 N s a w) {o:Oper}{y:Yd}{sv:SV}(hy:evOp P specs eqs N s.τ s.H s.H.length o=some y) (hask:y.ask) (hsv:∀w X E u,R w X E y.val u->R w X E sv u):
  OpOK P o a w (λv w'=>StR w0 X0 N ⟨putT o.dst sv s.τ,ax6 s.H y.eff⟩ (a.put o.dst v) w'):=by
 obtain⟨E,hrep,htr⟩:=h;have fin:∀{HF:List SO},(appE HF y.eff=ax6 s.H y.eff)->TR (X0.n0 w0) w (Xo X0 E HF) E N s.τ a->∀v w',Goes w0 X0 HF E w s.H.length y.eff y.val v w'->StR w0 X0 N ⟨putT o.dst sv s.τ,ax6 s.H y.eff⟩ (a.put o.dst v) w':=by
  intro HF he htr v w' ⟨E',le,hk,hx,hr,hv,_⟩;rw[he]at hx hr hv;exact⟨E',hr,(htr.mono hk hx le).put (hsv _ _ _ _ hv)⟩
 intro F n hF next Q hn
 cases he:y.eff with
 |keep=>
  exact ad8 hrep hspecs heqs htr hy hask (λso hso=>by rw[he]at hso;cases hso) F n hF next Q λv w' hg=>hn v w' (fin (by rw[he];rfl) htr v w' hg)
 |sets l=>
  exact ad8 hrep hspecs heqs htr hy hask (λso hso=>by rw[he]at hso;cases hso) F n hF next Q λv w' hg=>hn v w' (fin (by rw[he];rfl) htr v w' hg)
 |new so=>
  have hn0:E s.H.length=none:=by
   cases hc:E s.H.length with
   |none=>rfl
   |some e=>have:=hrep.dom _ _ hc;omega
  have hext:∀k<s.H.length,(s.H++[so]).getD k .dead=s.H.getD k .dead:=λk hk=>ab0 hk
  have hxo:Xo X0 E (s.H++[so])=Xo X0 E s.H:=an4 λk e hke=>hext k (hrep.dom k e hke)
  refine ad8 (hrep.ext (by simp) hext) hspecs heqs (by rw[hxo];exact htr) (aM6 hspecs (Ext.app _ _) (λl hc=>by rw[he]at hc;cases hc) hy) hask (λso' hso=>?_) F n hF next Q λv w' hg=>hn v w' (fin (by rw[he];rfl) (by rw[hxo];exact htr) v w' hg)
  rw[he]at hso;cases hso;refine⟨hn0,by simp,?_⟩;rw[la,lR (lh _)];simp
theorem aW7{w0 X0 N}{s:St}{a:Act}{w:World}(h:StR w0 X0 N s a w)(dst:Option Tmp):StR w0 X0 N ⟨putT dst aN6 s.τ,s.H⟩ (a.put dst undef) w:=by
 obtain⟨E,hrep,htr⟩:=h;exact⟨E,hrep,htr.put at1⟩
inductive Tr(P:Program)(specs:List FSpec)(eqs:List (TypeId×List CK))(N:Nat)(ops:Array Oper):List Oper->St->St->Prop
 |nil {s}:Tr P specs eqs N ops [] s s
 |cons {o l s s1 s2} (h:Step P specs eqs N ops o s s1) (r:Tr P specs eqs N ops l s1 s2):Tr P specs eqs N ops (o::l) s s2
theorem b27{P:Program}{w0 X0 N}{specs:List FSpec}(hspecs:∀s∈specs,ah9 P w0 X0 s){eqs:List (TypeId×List CK)}(heqs:∀t n,(t,n)∈eqs->EqOK P t n){ops:Array Oper}{F:Fence}{n:Nat}(hF:Wd F){Q:Exit->Act->World->Prop}:
  ∀{l:List Oper}{s s':St},Tr P specs eqs N ops l s s'->(∀a w,StR w0 X0 N s' a w->Q .normal a w)->∀a w,StR w0 X0 N s a w->wpListIn F n P ops Q l a w:=by
 intro l s s' ht hq;induction ht with
 |nil=>exactλa w h=>hq a w h
 |cons hs _ ih=>
  intro a w h;obtain⟨E,hrep,htr⟩:=id h;simp only[wpListIn];cases hs with
  |run hw hy hask hv hv2 hv3 hv4=>
   rw[ll (hw.wanted htr)];exact bd4 hspecs heqs h hy hask hv F n hF _ _ λv w' hg=>ih hq _ _ hg
  |skip hw=>
   rw[lu (by rw[hw.wanted htr];simp)];exact⟨λf _=>hF.fn f,ih hq _ _ (aW7 h _)⟩
open Go.RowKit
def at9(o:Oper):Bool:=
 match o.op with
 |.move _|.assign _|.pick ..|.nilCheck _|.binOp ..|.unOp ..|.convert ..|.makeFunc ..|.fieldAddr ..|.field ..|.index ..|.extract ..|.build ..=>true
 |_=>false
def effS(specs:List FSpec):Option FuncId->Bool
 |some f=>specs.any λs=>s.f==f&&s.eff
 |none=>specs.any (·.eff)
def ba5:Operand->Option FuncId
 |.func f=>some f
 |_=>none
def aU4(ef:Option FuncId->Bool)(o:Oper):Bool:=
 match o.op with
 |.store ..=>true
 |.mapUpdate ..=>true
 |.call c=>match c.callee with
  |.builtin .append=>true
  |.builtin .copy=>true
  |.builtin .clear=>true
  |.builtin _=>false
  |.value x=>ef (ba5 x)
  |_=>true
 |_=>false
theorem ae1{s y}(h:ac0 s=some y):y.eff=.keep:=by cases h;rfl
theorem bN8{o:Option SV}{f:SV->Yd}{y:Yd}(hf:∀s,(f s).eff=.keep)(h:o.map f=some y):y.eff=.keep:=by
 cases o with
 |none=>cases h
 |some s=>cases h;exact hf s
theorem bn7{c:Prop}[Decidable c]{a:Yd}{y:Yd}(ha:a.eff=.keep)(h:(if c then some a else none)=some y):y.eff=.keep:=by
 obtain⟨_,rfl⟩:=aa0 h;exact ha
theorem bQ0{s y}(h:bC7 s=some y):y.eff=.keep:=by cases s<;>simp only[bC7,reduceCtorEq]at h<;>exact ae1 h
theorem b13{op k a b y}(h:binI op k a b=some y):y.eff=.keep:=by cases op<;>simp only[binI,reduceCtorEq]at h<;>first|exact ae1 h|(cases h;rfl)
theorem cc3{op k a b y}(h:shI op k a b=some y):y.eff=.keep:=by cases op<;>simp only[shI,reduceCtorEq]at h<;>(cases h;rfl)
theorem bQ1{op b y}(h:aD5 op b=some y):y.eff=.keep:=by cases op<;>simp only[aD5,reduceCtorEq]at h<;>exact ae1 h
theorem bQ3{op eqs kb kf t x z y}(h:ev2 op eqs kb kf t x z=some y):y.eff=.keep:=by
 unfold ev2 at h;repeat' (split at h)
 all_goals first|exact cc3 h|exact b13 h|exact bQ1 h|(cases h;done)
theorem bC6{op x y}(h:aR4 op x=some y):y.eff=.keep:=by
 unfold aR4 at h;repeat' (split at h)
 all_goals first|exact ae1 h|(cases h;done)
theorem ch0{op x y}(h:ev1 op x=some y):y.eff=.keep:=by
 unfold ev1 at h;repeat' (split at h)
 all_goals first|exact ae1 h|(cases h;rfl)|(cases h;done)
theorem a86{k x y}(h:aq2 k x=some y):y.eff=.keep:=by cases x<;>simp only[aq2,reduceCtorEq]at h;cases h;rfl
theorem aR8{fd x y}(h:ae9 fd x=some y):y.eff=.keep:=by
 cases x<;>simp only[ae9,reduceCtorEq]at h
 all_goals (split at h<;>first|exact ae1 h|(cases h;done))
theorem bp0{fd x y}(h:aH1 fd x=some y):y.eff=.keep:=by
 cases x<;>simp only[aH1,reduceCtorEq]at h
 exact bN8 (λ_=>rfl) h
theorem bo8{ai i x y}(h:aR7 ai i x=some y):y.eff=.keep:=by
 unfold aR7 at h;repeat' (split at h)
 all_goals first|(cases h;rfl)|(cases h;done)
theorem bh8{i x y}(h:ax0 i x=some y):y.eff=.keep:=by
 unfold ax0 at h;split at h<;>first|(cases h;rfl)|(cases h;done)
theorem bC9{x y}(h:bh7 x=some y):y.eff=.keep:=by
 unfold bh7 at h;split at h<;>first|(cases h;rfl)|(cases h;done)
theorem a84{i x y}(h:aq1 i x=some y):y.eff=.keep:=by
 cases x<;>simp only[aq1,reduceCtorEq]at h
 exact bn7 rfl h
theorem bi1{z fl ps y}(h:aD8 z fl ps=some y):y.eff=.keep:=by
 unfold aD8 at h;split at h
 ·exact ae1 h
 ·cases h
theorem bi2{z es ps y}(h:aD9 z es ps=some y):y.eff=.keep:=by
 unfold aD9 at h;split at h
 ·exact ae1 h
 ·cases h
theorem aP2{P specs eqs N τ H nm o y}(hp:at9 o=true)(h:evOp P specs eqs N τ H nm o=some y):y.eff=.keep/\∀H' nm',evOp P specs eqs N τ H' nm' o=some y:=by
 refine⟨?_,λH' nm'=>?_⟩
 ·unfold evOp at h;unfold at9 at hp;split at h<;>(try(rename_i ho;simp only[ho,lH]at hp;done))
  all_goals first
   |exact ae1 h
   |(split at h<;>(try split at h)<;>first|exact ae1 h|(cases h;done))
   |exact bQ0 h
   |exact bQ3 h
   |(split at h
     ·split at h
      ·exact bC6 h
      ·cases h
     ·exact bQ3 h)
   |exact ch0 h
   |(split at h<;>first|exact ae1 h|exact a86 h|exact aR8 h|exact bp0 h|exact bn7 rfl h|(cases h;done))
   |(split at h
     ·split at h
      ·exact bo8 h
      ·split at h
       ·exact bh8 h
       ·cases h
     ·cases h)
   |(cases h;done)
   |exact a84 h
   |exact bn7 rfl h
   |(split at h
     ·split at h
      ·exact bi1 h
      ·split at h
       ·exact bi2 h
       ·cases h
     ·cases h)
 ·unfold evOp at h⊢;unfold at9 at hp;split at h<;>first|exact h|(rename_i ho;simp only[ho,lH]at hp)
theorem aG9{ti H x y}(h:ad4 ti H x=some y):y.eff=.keep:=by
 unfold ad4 at h;repeat' (split at h)
 all_goals first|exact bN8 (λ_=>rfl) h|(cases h;rfl)|(cases h;done)
theorem aK7{es H i x y}(h:ac2 es H i x=some y):y.eff=.keep:=by
 unfold ac2 at h;repeat' (split at h)
 all_goals first|(cases h;rfl)|(cases h;done)
theorem aK8{len es i x y}(h:ae3 len es i x=some y):y.eff=.keep:=by
 unfold ae3 at h;repeat' (split at h)
 all_goals first|(cases h;rfl)|(cases h;done)
theorem bo5{es H lo hi mx x y}(h:ag7 es H lo hi mx x=some y):y.eff=.keep:=by
 unfold ag7 at h;repeat' (split at h)
 all_goals first|(cases h;rfl)|(cases h;done)
theorem bh2{n lo hi x y}(h:al5 n lo hi x=some y):y.eff=.keep:=by
 unfold al5 at h;repeat' (split at h)
 all_goals first|(cases h;rfl)|(cases h;done)
theorem bD0{x y}(h:aD6 x=some y):y.eff=.keep:=by
 unfold aD6 at h;split at h<;>first|exact ae1 h|(cases h;done)
theorem bg7{f k}:∀{l a y},foldI f k a l=some y->y.eff=.keep
 | [],a,y,h=>ae1 h
 |s::r,a,y,h=>by
  cases s<;>simp only[foldI,reduceCtorEq]at h
  split at h
  ·exact bg7 h
  ·cases h
theorem aD1{f ss y}(h:bo7 f ss=some y):y.eff=.keep:=by
 unfold bo7 at h;split at h
 ·exact bg7 h
 ·cases h
def bU1(y:Yd):Prop:=y.eff=.keep\/∃so,y.eff=.new so
theorem free_spec{P:Program}{specs eqs N τ H nm o y}(hp:aU4 (effS specs) o=false)(h:evOp P specs eqs N τ H nm o=some y):bU1 y:=by
 by_cases hpu:at9 o=true
 ·exact .inl (aP2 hpu h).1
 unfold evOp at h;unfold aU4 at hp;unfold at9 at hpu;split at h<;>(try(rename_i ho;simp only[ho,lag]at hpu;done))<;>(try(rename_i ho;simp only[ho,Bool.true_eq_false]at hp;done))
 ·split at h
  ·cases h;exact .inr ⟨_,rfl⟩
  ·cases h
 ·split at h
  ·split at h
   ·obtain⟨_,rfl⟩:=aa0 h;exact .inl rfl
   ·cases h;exact .inr ⟨_,rfl⟩
  ·cases h
 ·split at h
  ·split at h
   ·unfold ao2 at h;split at h
    ·split at h
     ·cases h;split
      ·exact .inl rfl
      ·exact .inr ⟨_,rfl⟩
     ·split at h
      ·unfold a90 at h;obtain⟨_,rfl⟩:=aa0 h;exact .inl rfl
      unfold a92 at h;split at h
      ·obtain⟨_,rfl⟩:=aa0 h;exact .inr ⟨_,rfl⟩
      ·cases h
    ·cases h
   ·cases h
  ·cases h
 ·split at h
  ·exact .inl (aG9 h)
  ·cases h
 ·repeat' (split at h)
  all_goals first|(cases h;done)|(unfold as3 at h;obtain⟨_,rfl⟩:=aa0 h;exact .inr ⟨_,rfl⟩)
 ·repeat' (split at h)
  all_goals first|(cases h;done)|exact .inl (bD0 h)|exact .inl (bo5 h)|exact .inl (bh2 h)
 ·repeat' (split at h)
  all_goals first|(cases h;done)|exact .inl (aK7 h)|exact .inl (aK8 h)
 ·rename_i c ho;split at h
  ·rename_i b hb;obtain⟨cc,ca,ct⟩:=c;simp only at hb
   subst hb;rw[ho]at hp;unfold aj5 at h;split at h
   ·simp at hp
   ·repeat' (split at h)
    all_goals first|(cases h;done)|exact .inl (ae1 h)|exact .inl (bC9 h)|(cases h;exact .inl rfl)
   ·simp at hp
   ·simp at hp
   ·exact .inl (aD1 h)
   ·exact .inl (aD1 h)
   ·cases h
  ·rename_i x hb;split at h
   ·rename_i F n g hfn;obtain⟨s,hmem,hsf,hr,hl⟩:=az8 h;have hse:s.eff=false:=by
     obtain⟨cc,ca,ct⟩:=c;simp only at hb
     subst hb;rw[ho]at hp;simp only at hp
     cases x with
     |func f=>
      cases hfn;simp only[ba5,effS,List.any_eq_false]at hp;have:=hp s hmem
      simpa[hsf]using this
     |_=>
      simp only[ba5,effS,List.any_eq_false]at hp;simpa using hp s hmem
    cases he:y.eff with
    |keep=>exact .inl he
    |new so=>exact .inr ⟨so,he⟩
    |sets l=>rw[hl l he]at hse;cases hse
   ·rename_i F n g hfn;obtain⟨s,hmem,hsf,hr,hl⟩:=az8 h;have hse:s.eff=false:=by
     obtain⟨cc,ca,ct⟩:=c;simp only at hb
     subst hb;rw[ho]at hp;simp only at hp
     cases x with
     |func f=>cases hfn
     |_=>
      simp only[ba5,effS,List.any_eq_false]at hp;simpa using hp s hmem
    cases he:y.eff with
    |keep=>exact .inl he
    |new so=>exact .inr ⟨so,he⟩
    |sets l=>rw[hl l he]at hse;cases hse
   ·cases h
  ·cases h
 ·split at h
  ·obtain⟨so,hso⟩:=a74 h;exact .inr ⟨so,hso⟩
  ·cases h
 ·split at h
  ·split at h
   ·exact .inl (bh5 h)
   ·cases h
  ·cases h
 ·split at h
  ·unfold b04 at h;repeat' (split at h)
   all_goals first|(cases h;done)|exact .inl (ae1 h)
  ·cases h
 ·repeat' (split at h)
  all_goals first|(cases h;done)|skip
  all_goals
   unfold aM7 at h;repeat' (split at h)
   all_goals first|(cases h;done)|exact .inl (ae1 h)
 ·split at h
  ·split at h
   ·obtain⟨_,rfl⟩:=aa0 h;exact .inl rfl
   ·cases h
  ·cases h
 ·cases h
open Go.RowKit
inductive Anc(ops:Array Oper):Nat->Nat->Prop
 |dir {j o e} (ho:ops[j]?=some o) (he:e∈o.after) (hb:Region.binds .any e=true):Anc ops e.on j
 |trans {i j o e} (ho:ops[j]?=some o) (he:e∈o.after) (hb:Region.binds .any e=true) (h:Anc ops i e.on):Anc ops i j
def Closed(ops:Array Oper)(L:Nat->Prop):Prop:=∀j o,L j->ops[j]?=some o->∀e∈o.after,Region.binds .any e=true->L e.on
theorem Anc.listed{ops L i j}(hc:Closed ops L)(h:Anc ops i j):(∀o,ops[j]?=some o->∀e∈o.after,Region.binds .any e=true->L e.on)->L i:=by
 induction h with
 |dir ho he hb=>exactλhj=>hj _ ho _ he hb
 |trans ho he hb _ ih=>exactλhj=>ih λo' ho' e' he' hb'=>hc _ _ (hj _ ho _ he hb) ho' e' he' hb'
def bv3(o:Oper)(acc:List Nat):Nat:=o.after.toList.foldl (λs e=>if Region.binds .any e then s||| 2 ^ e.on||| acc.getD e.on 0 else s) 0
def befs:List Oper->List Nat->List Nat
 | [],acc=>acc
 |o::r,acc=>befs r (acc++[bv3 o acc])
theorem bf3(acc:List Nat)(i:Nat):∀(l:List Edge)(s:Nat),(l.foldl (λs e=>if Region.binds .any e then s||| 2 ^ e.on||| acc.getD e.on 0 else s) s).testBit i=true->
  s.testBit i=true\/∃e∈l,Region.binds .any e=true/\(e.on=i\/(acc.getD e.on 0).testBit i=true)
 | [],s,h=> .inl h
 |e::l,s,h=>by
  simp only[uV]at h;rcases bf3 acc i l _ h with h1|⟨e',h1,h2,h3⟩
  ·by_cases hb:Region.binds .any e=true
   ·rw[ll hb]at h1;simp only[Nat.testBit_or,xg]at h1;rcases h1 with(h1|h1)|h1
    ·exact .inl h1
    ·refine .inr ⟨e,lP,hb,.inl ?_⟩;simp only[Nat.testBit_two_pow,lE]at h1;exact h1
    ·exact .inr ⟨e,lP,hb,.inr h1⟩
   ·rw[lu hb]at h1;exact .inl h1
  ·exact .inr ⟨e',lS _ h1,h2,h3⟩
theorem bj2{ops:Array Oper}:∀(l:List Oper)(acc:List Nat),(∀j,l[j]?=ops[acc.length+j]?)->(∀j i,j<acc.length->(acc.getD j 0).testBit i=true->Anc ops i j)->
  ∀j i,((befs l acc).getD j 0).testBit i=true->Anc ops i j
 | [],acc,_,ha,j,i,h=>by
  by_cases hj:j<acc.length
  ·exact ha j i hj h
  ·simp only[befs,la,xC (uM.1 hj)]at h;simp at h
 |o::r,acc,hl,ha,j,i,h=>by
  have ho:ops[acc.length]?=some o:=by simpa using (hl 0).symm
  refine bj2 r (acc++[bv3 o acc]) (λk=>by have:=hl (k+1);simpa[xf,Nat.add_comm 1 k]using this) (λj i hj hb=>?_) j i h;simp only[lx,xU,uG]at hj;by_cases hlt:j<acc.length
  ·rw[ab0 hlt]at hb;exact ha j i hlt hb
  ·obtain rfl:j=acc.length:=by omega
   have he:(acc++[bv3 o acc]).getD acc.length 0=bv3 o acc:=by
    rw[la,lR (lh _)];simp
   rw[he]at hb;rcases bf3 acc i _ 0 hb with h0|⟨e,h1,h2,h3⟩
   ·simp at h0
   ·have hm:e∈o.after:=xE.1 h1;rcases h3 with rfl|h3
    ·exact .dir ho hm h2
    ·refine .trans ho hm h2 (ha e.on i ?_ h3);refine Nat.not_le.1 λhc=>?_
     rw[la,xC hc]at h3;simp at h3
def bZ4(ops:Array Oper)(e1 i j:Nat)(oi oj:Oper):Bool:=match oi.op with
 |.load ..=>match oj.op with
  |.store _ ad _=>match ad with
   |.tmp d=>(List.range j).any λa=>decide (i<a)&&(decide (a<e1)&&match ops[a]? with
    |some oa=>match oa.op with
     |.alloc _=>oa.dst==some d
     |_=>false
    |none=>false)
   |_=>false
  |_=>false
 |_=>false
structure Late(ops:Array Oper)(e1 i j:Nat)(oi oj:Oper):Prop where
 load:∃T x,oi.op=.load T x
 store:∃T d x a oa T',oj.op=.store T (.tmp d) x/\i<a/\a<j/\a<e1/\ops[a]?=some oa/\oa.op=.alloc T'/\oa.dst=some d
theorem bB8{ops:Array Oper}{e1 i j:Nat}{oi oj:Oper}(h:bZ4 ops e1 i j oi oj=true):Late ops e1 i j oi oj:=by
 unfold bZ4 at h;split at h
 case h_2=>cases h
 rename_i T x ho;split at h
 case h_2=>cases h
 rename_i T2 ad x2 ho2;split at h
 case h_2=>cases h
 rename_i d;obtain⟨a,ha,h⟩:=uO.1 h;rw[lr,lr,lE,lE]at h;obtain⟨h1,h2,h⟩:=h;split at h
 case h_2=>cases h
 rename_i oa hoa;split at h
 case h_2=>cases h
 rename_i T3 ho3;exact⟨⟨T,x,ho⟩,T2,d,x2,a,oa,T3,ho2,h1,lG.1 ha,h2,hoa,ho3,by simpa using h⟩
def noW(ops:Array Oper)(i t:Nat):Bool:=(ops.toList.drop i).all λo=>o.dst !=some t
theorem bv2{ops:Array Oper}{i t:Nat}(h:noW ops i t=true){m:Nat}{o:Oper}(hm:i<=m)(ho:ops[m]?=some o):o.dst≠some t:=by
 have h1:(ops.toList.drop i)[m-i]?=some o:=by rw[xx,show i+(m-i)=m by omega,lM];exact ho
 have:=xd.1 h o (xm h1)
 simpa using this
def oneT(P:Program)(T:TypeId):Bool:=match tinf P T with
 |some ti=>Nat.beq ti.1 1&&!ti.2
 |none=>false
def apB(P:Program)(n0 N:Nat)(τ':Tmps)(ops:Array Oper)(e1 i j:Nat)(oi oj:Oper):Bool:=match oi.op with
 |.load T x=>match x with
  |.tmp c=>match oj.op with
   |.store T' ad _=>match ad with
    |.tmp d=>decide (i<e1)&&(noW ops i c&&match evO N τ' (.tmp c)with
     |.own k off=>noW ops j d&&match evO N τ' (.tmp d)with
      |.own k' off'=>!Nat.beq k k'||(!Nat.beq off off'&&(oneT P T&&oneT P T'))
      |_=>false
     |.ref _ _=>true
     |_=>false)
    |_=>false
   |.call c'=>match c'.callee with
    |.builtin b=>match b with
     |.append=>decide (i<e1)&&(noW ops i c&&match evO N τ' (.tmp c)with
      |.own _ _=>true
      |_=>false)
     |_=>false
    |_=>false
   |_=>false
  |_=>false
 |.buildSlice ..=>match oj.op with
  |.call c'=>match c'.callee with
   |.builtin b=>match b with
    |.append=>match c'.args[0]? with
     |some x=>match x with
      |.tmp c=>decide (i<e1)&&(noW ops j c&&match evO N τ' (.tmp c)with
       |.osl k _=>Nat.blt k n0
       |_=>false)
      |_=>false
     |none=>false
    |_=>false
   |_=>false
  |_=>false
 |_=>false
structure Apart2(P:Program)(n0 N:Nat)(τ':Tmps)(ops:Array Oper)(e1 i j:Nat)(oi oj:Oper):Prop where
 lt:i<e1
 is:(∃T n ps c' c k ver,oi.op=.buildSlice T n ps/\oj.op=.call c'/\c'.callee=.builtin .append/\c'.args[0]?=some (.tmp c)/\noW ops j c=true/\evO N τ' (.tmp c)=.osl k ver/\k<n0)\/(∃T c c' k off,oi.op=.load T (.tmp c)/\oj.op=.call c'/\c'.callee=.builtin .append/\noW ops i c=true/\evO N τ' (.tmp c)=.own k off)\/∃T c T' d z,oi.op=.load T (.tmp c)/\oj.op=.store T' (.tmp d) z/\noW ops i c=true/\((∃n g,evO N τ' (.tmp c)=.ref n g)\/∃k off k' off',noW ops j d=true/\evO N τ' (.tmp c)=.own k off/\evO N τ' (.tmp d)=.own k' off'/\
  (k≠k'\/(off≠off'/\oneT P T=true/\oneT P T'=true)))
theorem b14{P:Program}{n0 N:Nat}{τ':Tmps}{ops:Array Oper}{e1 i j:Nat}{oi oj:Oper}(h:apB P n0 N τ' ops e1 i j oi oj=true):Apart2 P n0 N τ' ops e1 i j oi oj:=by
 unfold apB at h;split at h
 case h_3=>cases h
 case h_2 T n ps ho=>
  split at h
  case h_2=>cases h
  rename_i c' ho';split at h
  case h_2=>cases h
  rename_i b hb;split at h
  case h_2=>cases h
  split at h
  case h_2=>cases h
  rename_i x hx;split at h
  case h_2=>cases h
  rename_i c;simp only[lr,lE]at h;obtain⟨h1,h2,h⟩:=h;split at h
  case h_2=>cases h
  rename_i k ver hk;rw[Nat.blt_eq]at h;exact⟨h1,.inl ⟨T,n,ps,c',c,k,ver,ho,ho',hb,hx,h2,hk,h⟩⟩
 rename_i T x ho;split at h
 case h_2=>cases h
 rename_i c;split at h
 case h_3=>cases h
 case h_2=>
  rename_i c' ho';split at h
  case h_2=>cases h
  rename_i b hb;split at h
  case h_2=>cases h
  simp only[lr,lE]at h;obtain⟨h1,h2,h⟩:=h;split at h
  case h_2=>cases h
  rename_i k off hk;exact⟨h1,.inr (.inl ⟨T,c,c',k,off,ho,ho',hb,h2,hk⟩)⟩
 rename_i T' ad z ho';split at h
 case h_2=>cases h
 rename_i d;simp only[lr,lE]at h;obtain⟨h1,h2,h⟩:=h;split at h
 case h_3=>cases h
 case h_2=>
  rename_i n g hk;exact⟨h1,.inr (.inr ⟨T,c,T',d,z,ho,ho',h2,.inl ⟨n,g,hk⟩⟩)⟩
 rename_i k off hk;rw[lr]at h;obtain⟨h3,h⟩:=h;split at h
 case h_2=>cases h
 rename_i k' off' hk';refine⟨h1,.inr (.inr ⟨T,c,T',d,z,ho,ho',h2,.inr ⟨k,off,k',off',h3,hk,hk',?_⟩⟩)⟩;rw[xg]at h;rcases h with h|h
 ·exact .inl λhc=>(by subst hc;rw[Nat.beq_refl]at h;cases h)
 ·simp only[lr]at h;exact .inr ⟨λhc=>(by have:=h.1;subst hc;rw[Nat.beq_refl]at this;cases this),h.2.1,h.2.2⟩
def refT(N:Nat)(τ:Tmps)(t:Nat):Bool:=match Nat.blt t N with
 |true=>match ac5 τ t with
  |.ref ..=>true
  |_=>false
 |false=>false
def ce9(ops:Array Oper)(t:Nat):Bool:=ops.toList.all λo=>o.dst !=some t
def bK3(N:Nat)(τ:Tmps)(ops:Array Oper)(i:Nat)(o:Oper):Bool:=match o.op with
 |.load _ x=>match x with
  |.tmp c=>(refT N τ c&&ce9 ops c)||(List.range i).any λa=>match ops[a]? with
   |some oa=>match oa.guard with
    |none=>match oa.op with
     |.fieldAddr _ y _=>match y with
      |.tmp c0=>(oa.dst==some c)&&(Nat.blt c N&&(refT N τ c0&&ce9 ops c0))
      |_=>false
     |_=>false
    |some _=>false
   |none=>false
  |_=>false
 |_=>false
def slT(N:Nat)(τ:Tmps)(t:Nat):Bool:=match Nat.blt t N with
 |true=>match ac5 τ t with
  |.sl ..=>true
  |_=>false
 |false=>false
def slB(N:Nat)(τ:Tmps)(ops:Array Oper)(i c:Nat):Bool:=(List.range i).any λa=>match ops[a]? with
 |some oa=>match oa.guard with
  |none=>match oa.op with
   |.move y=>match y with
    |.tmp c0=>(oa.dst==some c)&&(Nat.blt c N&&(slT N τ c0&&(ops.toList.take a).all λo=>o.dst !=some c0))
    |_=>false
   |_=>false
  |some _=>false
 |none=>false
def slE(N:Nat)(τ':Tmps)(ops:Array Oper)(i c:Nat):Bool:=slT N τ' c&&noW ops i c
def slOp(N:Nat)(τ τ':Tmps)(ops:Array Oper)(i:Nat)(o:Oper):Bool:=match o.op with
 |.slice _ x _ _ _=>match x with
  |.tmp c=>slB N τ ops i c||slE N τ' ops i c
  |_=>false
 |.indexAddr _ x _=>match x with
  |.tmp c=>slB N τ ops i c||slE N τ' ops i c
  |_=>false
 |_=>false
def cr7(o:Oper):Bool:=match o.op with
 |.call c=>match c.callee with
  |.builtin b=>match b with
   |.min=>true
   |.max=>true
   |_=>false
  |_=>false
 |_=>false
def puX(N:Nat)(τ τ':Tmps)(ops:Array Oper)(i:Nat)(o:Oper):Bool:=bK3 N τ ops i o||slOp N τ τ' ops i o||cr7 o
def puB(N:Nat)(τ τ':Tmps)(ops:Array Oper)(i:Nat)(o:Oper):Bool:=at9 o||puX N τ τ' ops i o
def regB(P:Program)(ef:Option FuncId->Bool)(n0 N:Nat)(τ τ':Tmps)(ops:Array Oper):Bool:=
 let l:=ops.toList
 let b:=befs l []
 let e1:=l.findIdx (aU4 ef)
 (List.range l.length).all λj=>match l[j]? with
  |none=>true
  |some oj=>(oj.after.toList.all λe=>!Region.binds .any e||decide (e.on<j))&&
   (List.range j).all λi=>match l[i]? with
    |none=>true
    |some oi=>(oi.dst==none||oi.dst !=oj.dst)&&
     ((b.getD j 0).testBit i||(oi.apart ops oj&&(at9 oi||at9 oj||decide (j<e1)||bZ4 ops e1 i j oi oj||(puX N τ τ' ops i oi||puX N τ τ' ops j oj)||apB P n0 N τ' ops e1 i j oi oj)))
structure RegOK(pu:Nat->Oper->Bool)(ap:Nat->Nat->Oper->Oper->Prop)(ef:Option FuncId->Bool)(ops:Array Oper)(e1:Nat):Prop where
 back:∀(j:Nat)(o:Oper),ops[j]?=some o->∀e∈o.after,Region.binds .any e=true->e.on<j
 once:∀(i j:Nat)(oi oj:Oper),i<j->ops[i]?=some oi->ops[j]?=some oj->∀d,oi.dst=some d->oj.dst≠some d
 pair:∀(i j:Nat)(oi oj:Oper),i<j->ops[i]?=some oi->ops[j]?=some oj->Anc ops i j\/(oi.apart ops oj=true/\(pu i oi=true\/pu j oj=true\/j<e1\/Late ops e1 i j oi oj\/ap i j oi oj))
 free:∀(i:Nat)(o:Oper),i<e1->ops[i]?=some o->aU4 ef o=false
theorem bK2{P:Program}{ef:Option FuncId->Bool}{n0 N:Nat}{τ τ':Tmps}{ops:Array Oper}(h:regB P ef n0 N τ τ' ops=true):RegOK (puB N τ τ' ops) (Apart2 P n0 N τ' ops (ops.toList.findIdx (aU4 ef))) ef ops (ops.toList.findIdx (aU4 ef)):=by
 unfold regB at h;have hj:∀j oj,ops[j]?=some oj->(oj.after.toList.all λe=>!Region.binds .any e||decide (e.on<j))=true/\
   ∀i oi,i<j->ops[i]?=some oi->(oi.dst==none||oi.dst !=oj.dst)=true/\(((befs ops.toList []).getD j 0).testBit i||(oi.apart ops oj&&(at9 oi||at9 oj||decide (j<ops.toList.findIdx (aU4 ef))||bZ4 ops (ops.toList.findIdx (aU4 ef)) i j oi oj||(puX N τ τ' ops i oi||puX N τ τ' ops j oj)||apB P n0 N τ' ops (ops.toList.findIdx (aU4 ef)) i j oi oj)))=true:=by
  intro j oj ho;have hlt:j<ops.toList.length:=by rw[lC];exact(li.1 ho).1
  have h1:=xd.1 h j (lG.2 hlt);rw[lM,ho]at h1;simp only[lr]at h1;refine⟨h1.1,λi oi hi hoi=>?_⟩;have h2:=xd.1 h1.2 i (lG.2 hi);rw[lM,hoi]at h2;simpa only [lr]using h2
 refine⟨λj o ho e he hb=>?_,λi j oi oj hij hoi hoj d hd hc=>?_,λi j oi oj hij hoi hoj=>?_,λi o hi ho=>?_⟩
 ·have:=xd.1 (hj j o ho).1 e (xE.2 he)
  rw[hb]at this;simpa using this
 ·have:=((hj j oj hoj).2 i oi hij hoi).1
  rw[hd,hc]at this;simp at this
 ·have:=((hj j oj hoj).2 i oi hij hoi).2
  simp only[xg,lr,lE]at this;rcases this with h1|⟨h1,h2⟩
  ·exact .inl (bj2 ops.toList [] (by simp) (λj i hj=>by simp at hj) j i h1)
  ·refine .inr ⟨h1,?_⟩;rcases h2 with((((h2|h2)|h2)|h2)|h2|h2)|h2
   ·exact .inl (by unfold puB;rw[h2];rfl)
   ·exact .inr (.inl (by unfold puB;rw[h2];rfl))
   ·exact .inr (.inr (.inl h2))
   ·exact .inr (.inr (.inr (.inl (bB8 h2))))
   ·exact .inl (by unfold puB;rw[h2,Bool.or_true])
   ·exact .inr (.inl (by unfold puB;rw[h2,Bool.or_true]))
   ·exact .inr (.inr (.inr (.inr (b14 h2))))
 ·have hlt:i<ops.toList.length:=by rw[lC];exact(li.1 ho).1
  have:=List.not_of_lt_findIdx hi
  have he:ops.toList[i]=o:=by
   have:=li.1 ho
   simpa using this.2
  rw[he]at this;simpa using this
theorem Tr.cl4{P specs eqs N ops}:∀{l:List Oper}{s s':St},Tr P specs eqs N ops l s s'->∃st:Nat->St,st 0=s/\st l.length=s'/\∀i o,l[i]?=some o->Step P specs eqs N ops o (st i) (st (i+1)):=by
 intro l s s' h;induction h with
 |nil=>exact⟨λ_=>_,rfl,rfl,λi o ho=>by simp at ho⟩
 |cons hs hr ih=>
  rename_i o l s s1 s2;obtain⟨st,h0,h1,h2⟩:=ih;refine⟨λi=>match i with|0=>s|i+1=>st i,rfl,h1,λi o' ho=>?_⟩;cases i with
  |zero=>
   simp only[uC,sk]at ho;subst ho;simp only
   rw[h0];exact hs
  |succ i=>
   simp only[List.getElem?_cons_succ]at ho;exact h2 i o' ho
open Go.RowKit
theorem aF7{N τ τ'}{x:Option Operand}(h:∀y,x=some y->evO N τ y=evO N τ' y):optO N τ x=optO N τ' x:=by
 cases x with
 |none=>rfl
 |some y=>simp only[optO,h y rfl]
theorem bC5{P specs eqs N τ τ' H nm o}(h:∀x,x∈o.op.operands->evO N τ x=evO N τ' x):evOp P specs eqs N τ H nm o=evOp P specs eqs N τ' H nm o:=by
 unfold evOp;have parts:∀(ps:Array (Nat×Operand)),(∀x,x∈(ps.toList.map (·.2)).toArray->evO N τ x=evO N τ' x)->(ps.toList.map λp=>(p.1,evO N τ p.2))=ps.toList.map λp=>(p.1,evO N τ' p.2):=by
  intro ps hp;refine uR λp hm=>?_
  rw[hp p.2 (by simp only[List.mem_toArray,lX];exact⟨p,hm,rfl⟩)]
 have args:∀(xs:Array Operand),(∀x,x∈xs->evO N τ x=evO N τ' x)->mapArgs N τ xs=mapArgs N τ' xs:=by
  intro xs hx;exact uR λx hm=>hx x (xE.1 hm)
 cases hop:o.op<;>rw[hop]at h<;>simp only[Op.operands]at h<;>(try simp only)
 case move x=>rw[h x (by simp)]
 case assign x=>rw[h x (by simp)]
 case pick c a b=>rw[h c (by simp),h a (by simp),h b (by simp)]
 case box t x=>rw[h x (by simp)]
 case build t ps=>rw[parts ps h]
 case buildSlice t n ps=>rw[parts ps h]
 case load t x=>rw[h x (by simp)]
 case store t a v=>rw[h a (by simp),h v (by simp)]
 case nilCheck x=>rw[h x (by simp)]
 case binOp op t a v yt=>rw[h a (by simp),h v (by simp)]
 case unOp op t x=>rw[h x (by simp)]
 case convert s d x=>rw[h x (by simp)]
 case makeFunc fn first caps=>
  cases fn<;>simp only
  rw[args caps λx hx=>h x (by simp[hx]),args first λx hx=>h x (by simp[hx])]
 case makeSlice t a v=>rw[h a (by simp),h v (by simp)]
 case makeChan t x=>rw[h x (by simp)]
 case makeInterface t x=>rw[h x (by simp)]
 case typeAssert x t u ok=>rw[h x (by simp)]
 case lookup t x i ok=>rw[h x (by simp),h i (by simp)]
 case mapUpdate t x i v=>rw[h x (by simp),h i (by simp),h v (by simp)]
 case slice t x lo hi mx=>
  rw[h x (by simp),aF7 (x:=lo) (τ':=τ') λy hy=>h y (by subst hy;simp),aF7 (x:=hi) (τ':=τ') λy hy=>h y (by subst hy;simp),aF7 (x:=mx) (τ':=τ') λy hy=>h y (by subst hy;simp)]
 case fieldAddr t x f=>rw[h x (by simp)]
 case field t x f=>rw[h x (by simp)]
 case indexAddr t a v=>rw[h a (by simp),h v (by simp)]
 case index t a v=>rw[h a (by simp),h v (by simp)]
 case extract x i=>rw[h x (by simp)]
 case call c=>
  obtain⟨callee,cargs,cts⟩:=c;simp only[Call.operands]at h;cases callee<;>simp only
  case value f=>rw[h f (by simp),args cargs λx hx=>h x (by simp[hx])]
  case builtin b=>rw[args cargs λx hx=>h x (by simp[hx])]
theorem bP9{N τ τ' ops}{o:Oper}(h:∀t<N,t∈o.looksAt ops->ac5 τ t=ac5 τ' t):∀x,x∈o.op.operands->evO N τ x=evO N τ' x:=by
 intro x hx;cases x with
 |tmp t=>
  simp only[evO];split
  ·rename_i hlt;refine h t hlt ?_;unfold Oper.looksAt;refine List.mem_append_left _ (List.mem_filterMap.2 ⟨.tmp t,xE.2 hx,rfl⟩)
  ·rfl
 |_=>rfl
theorem cs4{N τ τ' ops}{o:Oper}(h:∀t<N,t∈o.looksAt ops->ac5 τ t=ac5 τ' t){j:Nat}{want:Bool}(hg:o.guard=some (j,want)):gsv N ops τ j=gsv N ops τ' j:=by
 unfold gsv;cases hd:(ops[j]?).bind (·.dst)with
 |none=>rfl
 |some d=>
  simp only
  split
  ·rename_i hlt;refine h d hlt ?_;unfold Oper.looksAt;refine List.mem_append_right _ ?_;rw[hg];simp[hd]
  ·rfl
theorem Want.congr{N τ τ' ops}{o:Oper}{yes:Bool}(h:∀t<N,t∈o.looksAt ops->ac5 τ t=ac5 τ' t)(hw:Want N ops τ o yes):Want N ops τ' o yes:=by
 unfold Want at *
 cases hg:o.guard with
 |none=>rw[hg]at hw;exact hw
 |some jw=>
  obtain⟨j,want⟩:=jw;rw[hg]at hw;simp only at hw⊢
  rw[<-cs4 h hg];exact hw
def pick(τ:Tmps)(ts:List Nat):Tmps:=ts.map λt=>(t,ac5 τ t)
theorem aw7{τ:Tmps}{t:Nat}:∀{ts:List Nat},(t∈ts->ac5 (pick τ ts) t=ac5 τ t)/\(t ∉ ts->ac5 (pick τ ts) t=.any)
 | []=>⟨λh=>(nomatch h),λ_=>rfl⟩
 |u::ts=>by
  obtain⟨h1,h2⟩:=@aw7 τ t ts;simp only[pick,xQ,ac5];by_cases hu:u=t
  ·subst hu;rw[ll rfl];exact⟨λ_=>rfl,λh=>absurd lP h⟩
  ·rw[lu hu];refine⟨λh=>h1 ?_,λh=>h2 λhc=>h (lS _ hc)⟩;cases h with
   |head=>exact absurd rfl hu
   |tail _ h=>exact h
theorem cj6{n0 w X E N τ a ts}(h1:a.tmps.size=N)(h2:aA4 n0 w X a.defers)(h:∀t<N,t∈ts->R w X E (ac5 τ t) (a.tmps.getD t undef)):TR n0 w X E N (pick τ ts) a:=by
 refine⟨h1,h2,λt ht=>?_⟩;by_cases hm:t∈ts
 ·rw[aw7.1 hm];exact h t ht hm
 ·rw[aw7.2 hm];exact .any
section
variable {P:Program}{specs:List FSpec}{eqs:List (TypeId×List CK)}{N:Nat}{ops:Array Oper}{st:Nat->St}{pu:Nat->Oper->Bool}{ap:Nat->Nat->Oper->Oper->Prop}
theorem bV9{o:Oper}{s s':St}(h:Step P specs eqs N ops o s s'):∃v,s'.τ=putT o.dst v s.τ:=by
 cases h with
 |run=>exact⟨_,rfl⟩
 |skip=>exact⟨_,rfl⟩
theorem bf7{dst:Option Tmp}{v:SV}{τ:Tmps}{t:Nat}(h:dst≠some t):ac5 (putT dst v τ) t=ac5 τ t:=by
 cases dst with
 |none=>rfl
 |some d=>simp only[putT,ac5];rw[lu (λhc=>h (by rw[hc]))]
theorem ak9{v:SV}{τ:Tmps}{t:Nat}:ac5 (putT (some t) v τ) t=v:=by simp[putT,ac5]
theorem chain(hst:∀i o,ops[i]?=some o->Step P specs eqs N ops o (st i) (st (i+1))){t:Nat}:∀(k i:Nat),i+k<=ops.size->(∀m o,i<=m->m<i+k->ops[m]?=some o->o.dst≠some t)->ac5 (st (i+k)).τ t=ac5 (st i).τ t
 |0,_,_,_=>rfl
 |k+1,i,hle,h=>by
  have ho:ops[i+k]?=some ops[i+k]:=lF (by omega);obtain⟨v,hv⟩:=bV9 (hst _ _ ho);rw[<-xf,hv,bf7 (h _ _ (by omega) (by omega) ho)];exact chain hst k i (by omega) λm o h1 h2=>h m o h1 (by omega)
def Look(ops:Array Oper)(st:Nat->St)(L:Nat->Prop)(t:Nat)(s:SV):Prop:=
 (∃i o,ops[i]?=some o/\L i/\o.dst=some t/\s=ac5 (st (i+1)).τ t)\/((∀i o,ops[i]?=some o->L i->o.dst≠some t)/\s=ac5 (st 0).τ t)
theorem bB4{e1:Nat}(hr:RegOK pu ap (effS specs) ops e1)(hst:∀i o,ops[i]?=some o->Step P specs eqs N ops o (st i) (st (i+1))){L:Nat->Prop}(hc:Closed ops L){i:Nat}{o:Oper}(ho:ops[i]?=some o)(hL:¬ L i)
  (hrd:∀e∈o.after,Region.binds .any e=true->L e.on) {t:Nat}(ht:t∈o.looksAt ops):Look ops st L t (ac5 (st i).τ t):=by
 have hi:i<ops.size:=(li.1 ho).1;have hrd':∀o',ops[i]?=some o'->∀e∈o'.after,Region.binds .any e=true->L e.on:=λo' ho'=>by rw[ho]at ho';cases ho';exact hrd
 by_cases hw:∃k ok,ops[k]?=some ok/\k<i/\ok.dst=some t
 ·obtain⟨k,ok,hok,hki,hd⟩:=hw;have hLk:L k:=by
   rcases hr.pair k i ok o hki hok ho with ha|⟨hap,_⟩
   ·exact ha.listed hc hrd'
   ·exact absurd ht ((Oper.apart_spec hap).1 t hd)
  refine .inl ⟨k,ok,hok,hLk,hd,?_⟩;have:=chain hst (t:=t) (i-(k+1)) (k+1) (by omega) λm om h1 h2 hom hdm=>hr.once k m ok om (by omega) hok hom t hd hdm
  rwa[show k+1+(i-(k+1))=i by omega]at this
 ·refine .inr ⟨λj oj hoj hLj hd=>?_,?_⟩
  ·rcases xL j i with hji|rfl|hji
   ·exact hw ⟨j,oj,hoj,hji,hd⟩
   ·exact hL hLj
   ·rcases hr.pair i j o oj hji ho hoj with ha|⟨hap,_⟩
    ·exact hL (ha.listed hc λo' ho'=>hc j o' hLj ho')
    ·exact(Oper.apart_spec hap).2.2 t hd ht
  ·have:=chain hst (t:=t) i 0 (by omega) λm om _ h2 hom hdm=>hw ⟨m,om,hom,by omega,hdm⟩
   rwa[lI]at this
theorem bZ0{e1:Nat}(hr:RegOK pu ap (effS specs) ops e1)(hst:∀i o,ops[i]?=some o->Step P specs eqs N ops o (st i) (st (i+1))){L:Nat->Prop}(hL:∀i<ops.size,L i)(t:Nat):Look ops st L t (ac5 (st ops.size).τ t):=by
 by_cases hw:∃(k:Nat)(ok:Oper),ops[k]?=some ok/\ok.dst=some t
 ·obtain⟨k,ok,hok,hd⟩:=hw;have hk:k<ops.size:=(li.1 hok).1;refine .inl ⟨k,ok,hok,hL k hk,hd,?_⟩;have:=chain hst (t:=t) (ops.size-(k+1)) (k+1) (by omega) λm om h1 h2 hom hdm=>hr.once k m ok om (by omega) hok hom t hd hdm
  rwa[show k+1+(ops.size-(k+1))=ops.size by omega]at this
 ·refine .inr ⟨λj oj hoj _ hd=>hw ⟨j,oj,hoj,hd⟩,?_⟩;have:=chain hst (t:=t) ops.size 0 (by omega) λm om _ _ hom hdm=>hw ⟨m,om,hom,hdm⟩
  rwa[lI]at this
def PuOK(P:Program)(specs:List FSpec)(eqs:List (TypeId×List CK))(N:Nat)(ops:Array Oper)(st:Nat->St)(pu:Nat->Oper->Bool):Prop:=
 ∀i o,ops[i]?=some o->pu i o=true->∀{τ H nm y},(∀x,x∈o.op.operands->evO N (st i).τ x=evO N τ x)->evOp P specs eqs N τ H nm o=some y->y.eff=.keep/\∀H' nm',evOp P specs eqs N τ H' nm' o=some y
theorem aq0(hpu:PuOK P specs eqs N ops st pu)(hst:∀i o,ops[i]?=some o->Step P specs eqs N ops o (st i) (st (i+1))):∀(k i:Nat),i+k<=ops.size->(∀m o,i<=m->m<i+k->ops[m]?=some o->pu m o=true)->(st (i+k)).H=(st i).H
 |0,_,_,_=>rfl
 |k+1,i,hle,h=>by
  have ho:ops[i+k]?=some ops[i+k]:=lF (by omega);have hp:=h _ _ (by omega) (by omega) ho;have ih:=aq0 hpu hst k i (by omega) λm o h1 h2=>h m o h1 (by omega)
  rw[<-xf,<-ih];generalize hs1:st (i+k+1)=s1;have hs:=hst _ _ ho;rw[hs1]at hs;cases hs with
  |run hw hy hask hv hv2 hv3 hv4=>
   rw[(hpu _ _ ho hp (λ_ _=>rfl) hy).1];rfl
  |skip=>rfl
theorem ag1{e1:Nat}(hr:RegOK pu ap (effS specs) ops e1)(hst:∀i o,ops[i]?=some o->Step P specs eqs N ops o (st i) (st (i+1))):∀(k i:Nat),i+k<=ops.size->i+k<=e1->∃l,(st (i+k)).H=(st i).H++l
 |0,i,_,_=>⟨[],by simp⟩
 |k+1,i,hle,he=>by
  have ho:ops[i+k]?=some ops[i+k]:=lF (by omega);have hp:=hr.free _ _ (by omega) ho;obtain⟨l,ih⟩:=ag1 hr hst k i (by omega) (by omega);rw[<-xf];generalize hs1:st (i+k+1)=s1;have hs:=hst _ _ ho;rw[hs1]at hs;cases hs with
  |run hw hy hask hv hv2 hv3 hv4=>
   rcases free_spec hp hy with h|⟨so,h⟩
   ·rw[h];exact⟨l,ih⟩
   ·rw[h];exact⟨l++[so],by simp only[ax6];rw[ih,xK]⟩
  |skip=>exact⟨l,ih⟩
theorem aY8:∀(l:List (Nat×SO))(H:List SO),(ad5 H l).length=H.length
 | [],H=>rfl
 |q::r,H=>by show(ad5 (H.set q.1 q.2) r).length=_;rw[aY8 r,um]
theorem a09{o:Oper}{s s':St}(h:Step P specs eqs N ops o s s'):s.H.length<=s'.H.length:=by
 cases h with
 |run hw hy hask hv hv2 hv3 hv4=>
  rename_i y v;show s.H.length<=(ax6 s.H y.eff).length;cases y.eff with
  |keep=>exact lh _
  |new so=>simp[ax6]
  |sets l=>show s.H.length<=(ad5 s.H l).length;rw[aY8];exact lh _
 |skip=>exact lh _
theorem bn4(hst:∀i o,ops[i]?=some o->Step P specs eqs N ops o (st i) (st (i+1))):∀(k i:Nat),i+k<=ops.size->(st i).H.length<=(st (i+k)).H.length
 |0,_,_=>lh _
 |k+1,i,h=>by
  have ho:ops[i+k]?=some ops[i+k]:=lF (by omega);have h1:=a09 (hst _ _ ho);have h2:=bn4 hst k i (by omega);rw[<-xf];omega
def ApOK(P:Program)(N:Nat)(ops:Array Oper)(st:Nat->St)(e1:Nat)(ap:Nat->Nat->Oper->Oper->Prop):Prop:=
 ∀i j oi oj,ops[i]?=some oi->ops[j]?=some oj->ap i j oi oj->i<e1/\((∃T x,oi.op=.load T x/\∀ti y,tinf P T=some ti->y.ask->ad4 ti (st j).H (evO N (st i).τ x)=some y->ad4 ti (st (j+1)).H (evO N (st i).τ x)=some y)\/
  (∃T n ps,oi.op=.buildSlice T n ps)/\(st (j+1)).H.getD (st i).H.length .dead=(st j).H.getD (st i).H.length .dead)
theorem Late.lt{ops:Array Oper}{e1 i j:Nat}{oi oj:Oper}(h:Late ops e1 i j oi oj):i<e1:=by
 obtain⟨_,_,_,a,_,_,_,h2,_,h4,_⟩:=h.store;omega
theorem bC8{ti:Nat×Bool}{H0 H:List SO}{A:SV}{y0 y:Yd}{q:Nat}{so:SO}(h0:ad4 ti H0 A=some y0)(h:ad4 ti H A=some y)(hq:H0.length<=q):ad4 ti (H.set q so) A=some y:=by
 have big:∀k,H0.length<=k->H0.getD k .dead=.dead:=λk hk=>by rw[la,xC hk];rfl
 cases A<;>simp only[ad4,reduceCtorEq]at h h0⊢
 case own k off=>
  have hk:k≠q:=λhc=>by rw[hc,big q hq]at h0;cases h0
  rw[aa3 hk];exact h
 case ownAt k ver i m off=>
  have hk:k≠q:=λhc=>by rw[hc,big q hq]at h0;cases h0
  rw[aa3 hk];exact h
 all_goals exact h
theorem bg1(hpu:PuOK P specs eqs N ops st pu){e1:Nat}(hap:ApOK P N ops st e1 ap)(hr:RegOK pu ap (effS specs) ops e1)(hst:∀i o,ops[i]?=some o->Step P specs eqs N ops o (st i) (st (i+1))){i:Nat}{o:Oper}(hi:i<e1)(he1:e1<=ops.size)
  (hoi:ops[i]?=some o) {T:TypeId}{x:Operand}(hop:o.op=.load T x) {ti:Nat×Bool}(hti:tinf P T=some ti) {y:Yd}(hask:y.ask) (hy:ad4 ti (st i).H (evO N (st i).τ x)=some y):
  ∀(k:Nat),e1+k<=ops.size->(∀m om,e1<=m->m<e1+k->ops[m]?=some om->pu m om=true\/Late ops e1 i m o om\/ap i m o om)->ad4 ti (st (e1+k)).H (evO N (st i).τ x)=some y
 |0,_,_=>by
  obtain⟨l,hl⟩:=ag1 hr hst (e1-i) i (by omega) (by omega);rw[show i+(e1-i)=e1 by omega]at hl;rw[lV,hl];exact aG8 (Ext.app _ _) hy
 |k+1,hle,h=>by
  have ih:=bg1 hpu hap hr hst hi he1 hoi hop hti hask hy k (by omega) λm om h1 h2=>h m om h1 (by omega)
  have ho:ops[e1+k]?=some ops[e1+k]:=lF (by omega);rcases h _ _ (by omega) (by omega) ho with hp|hL|hA
  ·have:=aq0 hpu hst 1 (e1+k) (by omega) λm om h1 h2 hom=>by
    obtain rfl:m=e1+k:=by omega
    rw[ho]at hom;cases hom;exact hp
   rw[<-xf,this];exact ih
  ·obtain⟨T,d,x,a,oa,T',h1,h2,h3,h4,h5,h6,h7⟩:=hL.store;rw[<-xf];have hch:ac5 (st (e1+k)).τ d=ac5 (st (a+1)).τ d:=by
    have:=chain hst (t:=d) (e1+k-(a+1)) (a+1) (by omega) λm om g1 g2 hom hdm=>hr.once a m oa om (by omega) h5 hom d h7 hdm
    rwa[show a+1+(e1+k-(a+1))=e1+k by omega]at this
   obtain⟨l,hl⟩:=ag1 hr hst (a-i) i (by omega) (by omega);rw[show i+(a-i)=a by omega]at hl;have hlen:(st i).H.length<=(st a).H.length:=by rw[hl];simp
   have hname:ac5 (st (a+1)).τ d=.own (st a).H.length 0\/ac5 (st (a+1)).τ d=aN6:=by
    generalize hs1:st (a+1)=s1;have hs:=hst _ _ h5;rw[hs1]at hs;cases hs with
    |run hw hy hask hv hv2 hv3 hv4=>
     rename_i y v;unfold evOp at hy;rw[h6]at hy;simp only at hy
     split at hy
     case h_2=>cases hy
     cases hy;rw[h7,hv2 _ _ rfl,ak9];exact .inl rfl
    |skip=>rw[h7,ak9];exact .inr rfl
   generalize hs1:st (e1+k+1)=s1;have hs:=hst _ _ ho;rw[hs1]at hs;cases hs with
   |run hw hy' hask' hv hv2 hv3 hv4=>
    rename_i y' v;unfold evOp at hy';rw[h1]at hy';simp only at hy'
    split at hy'
    case h_2=>cases hy'
    rename_i ti' hti';have hev:evO N (st (e1+k)).τ (.tmp d)=.any\/evO N (st (e1+k)).τ (.tmp d)=.own (st a).H.length 0\/evO N (st (e1+k)).τ (.tmp d)=aN6:=by
     simp only[evO];split
     ·rw[hch];rcases hname with g|g<;>rw[g]<;>simp
     ·exact .inl rfl
    unfold ao5 at hy';split at hy'
    case h_2=>cases hy'
    split at hy'
    case isFalse=>cases hy'
    have hsets:∃so,y'.eff=.sets [((st a).H.length,so)]:=by
     rcases hev with g|g|g<;>rw[g]at hy'
     ·cases hy'
     ·simp only at hy'
      split at hy'
      ·split at hy'<;>(cases hy';exact⟨_,rfl⟩)
      ·cases hy'
     ·cases hy'
    obtain⟨so,hso⟩:=hsets;rw[hso];exact bC8 hy ih hlen
   |skip=>exact ih
  ·obtain⟨_,hA⟩:=hap i (e1+k) o _ hoi ho hA;rcases hA with⟨T2,x2,hop2,hA⟩|⟨⟨T2,n2,ps2,hop2⟩,_⟩
   ·rw[hop]at hop2;cases hop2;rw[<-xf];exact hA ti y hti hask ih
   ·rw[hop]at hop2;cases hop2
end
open Go.RowKit
def LB(listed:Array Bool)(i:Nat):Prop:=listed.getD i false=true
section
variable {P:Program}{w0:World}{X0:Fr}{specs:List FSpec}{eqs:List (TypeId×List CK)}{N:Nat}{ops:Array Oper}{st:Nat->St}{pu:Nat->Oper->Bool}{ap:Nat->Nat->Oper->Oper->Prop}
structure Mid(pu:Nat->Oper->Bool)(w0:World)(X0:Fr)(N:Nat)(ops:Array Oper)(st:Nat->St)(e1:Nat)(L:Nat->Prop)(a:Act)(w:World)(p:Nat)(E:Env):Prop where
 closed:Closed ops L
 le1:e1<=p
 len:p<=ops.size
 done:∀i o,ops[i]?=some o->pu i o=false->e1<=i->i<p->L i
 todo:∀i o,ops[i]?=some o->pu i o=false->p<=i->¬ L i
 rep:Rep w0 X0 (st p).H E w
 names:∀i o,ops[i]?=some o->i<e1->¬ L i->(st (i+1)).H.length≠(st i).H.length->E (st i).H.length=none
 size:a.tmps.size=N
 defers:aA4 (X0.n0 w0) w (Xo X0 E (st p).H) a.defers
 look:∀t<N,∀s,Look ops st L t s->R w (Xo X0 E (st p).H) E s (a.tmps.getD t undef)
theorem bW5{a:Act}{dst:Option Tmp}{v:Value}{t:Nat}(h:dst≠some t):(a.put dst v).tmps.getD t undef=a.tmps.getD t undef:=by
 cases dst with
 |none=>rfl
 |some d=>
  simp only[Act.put];rw[lc,lj (λhc=>h (by rw[hc])),<-lc]
theorem a29{a:Act}{v:Value}{t:Nat}(h:t<a.tmps.size):(a.put (some t) v).tmps.getD t undef=v:=by
 simp only[Act.put];rw[lc,lm h];rfl
theorem Mid.step{e1:Nat}(hr:RegOK pu ap (effS specs) ops e1){L:Nat->Prop}{a:Act}{w w':World}{p p':Nat}{E E':Env}(h:Mid pu w0 X0 N ops st e1 L a w p E){i:Nat}{o:Oper}(ho:ops[i]?=some o)
  (hrd:∀e∈o.after,Region.binds .any e=true->L e.on) {sv:SV}{v:Value}(hs:(st (i+1)).τ=putT o.dst sv (st i).τ)
  (hp1:e1<=p') (hp2:p'<=ops.size) (hp3:∀j oj,ops[j]?=some oj->pu j oj=false->e1<=j->j<p'->L j\/j=i) (hp4:∀j oj,ops[j]?=some oj->pu j oj=false->p'<=j->¬ L j/\j≠i)
  (le:E.le E') (hk:aA1 (Xo X0 E (st p).H) w w') (hx:ab7 (Xo X0 E (st p).H) (Xo X0 E' (st p').H) w) (hrep:Rep w0 X0 (st p').H E' w') (hv:R w' (Xo X0 E' (st p').H) E' sv v)
  (hn:∀j oj,ops[j]?=some oj->j<e1->¬ L j->j≠i->(st (j+1)).H.length≠(st j).H.length->E (st j).H.length=none->E' (st j).H.length=none):
  Mid pu w0 X0 N ops st e1 (λj=>L j\/j=i) (a.put o.dst v) w' p' E':=by
 refine⟨λj oj hj hoj e he hb=>?_,hp1,hp2,hp3,λj oj hoj hpj hle hc=>?_,hrep,λj oj hoj hj hL hne=>?_,?_,?_,λt ht s hl=>?_⟩
 ·rcases hj with hj|rfl
  ·exact .inl (h.closed j oj hj hoj e he hb)
  ·rw[ho]at hoj;cases hoj;exact .inl (hrd e he hb)
 ·obtain⟨g1,g2⟩:=hp4 j oj hoj hpj hle;rcases hc with hc|hc
  ·exact g1 hc
  ·exact g2 hc
 ·exact hn j oj hoj hj (λhc=>hL (.inl hc)) (λhc=>hL (.inr hc)) hne (h.names j oj hoj hj (λhc=>hL (.inl hc)) hne)
 ·cases o.dst with
  |none=>exact h.size
  |some d=>simp[Act.put,h.size]
 ·cases o.dst with
  |none=>exact h.defers.mono hk hx
  |some d=>exact h.defers.mono hk hx
 ·have hold:o.dst≠some t->Look ops st L t s->R w' (Xo X0 E' (st p').H) E' s ((a.put o.dst v).tmps.getD t undef):=λhd hl'=>by
   rw[bW5 hd];exact(h.look t ht s hl').mono hk hx le
  rcases hl with⟨j,oj,hoj,hj,hd,rfl⟩|⟨hno,rfl⟩
  ·by_cases hji:j=i
   ·subst hji;rw[ho]at hoj;cases hoj;rw[hs,hd,ak9,a29 (by rw[h.size];exact ht)];exact hv
   ·refine hold (λhc=>?_) (.inl ⟨j,oj,hoj,hj.resolve_right hji,hd,rfl⟩);rcases ut hji with hlt|hgt
    ·exact hr.once j i oj o hlt hoj ho t hd hc
    ·exact hr.once i j o oj hgt ho hoj t hc hd
  ·exact hold (hno i o ho (.inr rfl)) (.inr ⟨λj oj hoj hj=>hno j oj hoj (.inl hj),rfl⟩)
theorem cr8(hpu:PuOK P specs eqs N ops st pu)(hspecs:∀s∈specs,ah9 P w0 X0 s)(heqs:∀t n,(t,n)∈eqs->EqOK P t n){e1:Nat}(hap:ApOK P N ops st e1 ap)(hr:RegOK pu ap (effS specs) ops e1)(hst:∀i o,ops[i]?=some o->Step P specs eqs N ops o (st i) (st (i+1)))
  {F:Fence}{n:Nat}(hF:Wd F) {Q:Exit->Act->World->Prop}{K:Act->World->Prop}{L:Nat->Prop}{a:Act}{w:World}{p:Nat}{E:Env}(h:Mid pu w0 X0 N ops st e1 L a w p E) {i:Nat}{o:Oper}(ho:ops[i]?=some o) (hL:¬ L i)
  (hrd:∀e∈o.after,Region.binds .any e=true->L e.on) (hK:∀a' w' p' E',Mid pu w0 X0 N ops st e1 (λj=>L j\/j=i) a' w' p' E'->K a' w'):wpOpIn F n P ops Q i K a w:=by
 have hi:i<ops.size:=(li.1 ho).1;have htr:TR (X0.n0 w0) w (Xo X0 E (st p).H) E N (pick (st i).τ (o.looksAt ops)) a:=cj6 h.size h.defers λt ht hm=>h.look t ht _ (bB4 hr hst h.closed ho hL hrd hm)
 have heq:∀t<N,t∈o.looksAt ops->ac5 (st i).τ t=ac5 (pick (st i).τ (o.looksAt ops)) t:=λt _ hm=>(aw7.1 hm).symm
 have hrd':∀o',ops[i]?=some o'->∀e∈o'.after,Region.binds .any e=true->L e.on:=λo' ho'=>by rw[ho]at ho';cases ho';exact hrd
 have before:∀j oj,ops[j]?=some oj->pu j oj=false->pu i o=false->j<i->e1<=i->L j\/Late ops e1 j i oj o\/ap j i oj o:=λj oj hoj hpj hpi hji hle=>by
  rcases hr.pair j i oj o hji hoj ho with ha|⟨_,hc⟩
  ·exact .inl (ha.listed h.closed hrd')
  ·rw[hpj,hpi]at hc;rcases hc with hc|hc|hc|hc|hc
   ·cases hc
   ·cases hc
   ·omega
   ·exact .inr (.inl hc)
   ·exact .inr (.inr hc)
 have after:∀j oj,ops[j]?=some oj->pu j oj=false->pu i o=false->i<j->e1<=j->¬ L j\/Late ops e1 i j o oj\/ap i j o oj:=λj oj hoj hpj hpi hij hle=>by
  rcases hr.pair i j o oj hij ho hoj with ha|⟨_,hc⟩
  ·exact .inl λhLj=>hL (ha.listed h.closed λo' ho'=>h.closed j o' hLj ho')
  ·rw[hpj,hpi]at hc;rcases hc with hc|hc|hc|hc|hc
   ·cases hc
   ·cases hc
   ·omega
   ·exact .inr (.inl hc)
   ·exact .inr (.inr hc)
 have laLt:∀{j k oj ok},ops[j]?=some oj->ops[k]?=some ok->(Late ops e1 j k oj ok\/ap j k oj ok)->j<e1/\((∃T x,oj.op=.load T x)\/∃T n ps,oj.op=.buildSlice T n ps):=λhj hk h=>by
  rcases h with h|h
  ·exact⟨h.lt,.inl h.load⟩
  ·obtain⟨h1,h2⟩:=hap _ _ _ _ hj hk h;rcases h2 with⟨T,x,h2,_⟩|⟨h2,_⟩
   ·exact⟨h1,.inl ⟨T,x,h2⟩⟩
   ·exact⟨h1,.inr h2⟩
 have before2:∀j oj,ops[j]?=some oj->pu j oj=false->pu i o=false->j<i->e1<=i->e1<=j->L j:=λj oj hoj hpj hpi hji hle hle2=>by
  rcases before j oj hoj hpj hpi hji hle with hb|hb
  ·exact hb
  ·have:=(laLt hoj ho hb).1
   omega
 have after2:∀j oj,ops[j]?=some oj->pu j oj=false->pu i o=false->i<j->e1<=j->e1<=i->¬ L j:=λj oj hoj hpj hpi hij hle hle2=>by
  rcases after j oj hoj hpj hpi hij hle with hb|hb
  ·exact hb
  ·have:=(laLt ho hoj hb).1
   omega
 have same:∀q,q<=p->(∀m om,q<=m->m<p->ops[m]?=some om->pu m om=true)->(st p).H=(st q).H:=λq hq hm=>by
  have:=aq0 hpu hst (p-q) q (by have:=h.len;omega) λm om h1 h2 hom=>hm m om h1 (by omega) hom
  rwa[show q+(p-q)=p by omega]at this
 have first:pu i o=false->(∀T x,o.op≠.load T x)->(∀T n ps,o.op≠.buildSlice T n ps)->i<e1->(st p).H=(st e1).H:=λhpi hnl hnb hie=>by
  refine same e1 h.le1 λm om h1 h2 hom=>?_
  cases hpm:pu m om with
  |true=>rfl
  |false=>
   rcases after m om hom hpm hpi (by omega) h1 with hb|hb
   ·exact absurd (h.done m om hom hpm h1 h2) hb
   ·rcases(laLt ho hom hb).2 with⟨T,x,hc⟩|⟨T,n,ps,hc⟩
    ·exact absurd hc (hnl T x)
    ·exact absurd hc (hnb T n ps)
 have lateE:pu i o=false->i<e1->∀{T x ti y},o.op=.load T x->tinf P T=some ti->y.ask->ad4 ti (st i).H (evO N (st i).τ x)=some y->ad4 ti (st p).H (evO N (st i).τ x)=some y:=λhpi hie {T x ti y} hop hti hask hy=>by
  have:=bg1 hpu hap hr hst hie (lU h.le1 h.len) ho hop hti hask hy (p-e1) (by have:=h.le1;have:=h.len;omega) λm om h1 h2 hom=>by
   cases hpm:pu m om with
   |true=>exact .inl rfl
   |false=>
    rcases after m om hom hpm hpi (by omega) h1 with hb|hb
    ·exact absurd (h.done m om hom hpm h1 (by have:=h.le1;omega)) hb
    ·exact .inr hb
  rwa[show e1+(p-e1)=p by have:=h.le1;omega]at this
 have second:pu i o=false->e1<=i->p<=i/\(st p).H=(st i).H:=λhpi hie=>by
  have hpi':p<=i:=by
   refine uM.1 λhc=>hL (h.done i o ho hpi hie hc)
  refine⟨hpi',?_⟩;have:=aq0 hpu hst (i-p) p (by omega) λm om h1 h2 hom=>by
   cases hpm:pu m om with
   |true=>rfl
   |false=>exact absurd (before2 m om hom hpm hpi (by omega) hie (lU h.le1 h1)) (h.todo m om hom hpm h1)
  rw[show p+(i-p)=i by omega]at this;exact this.symm
 have p3:∀j oj,ops[j]?=some oj->pu j oj=false->e1<=j->j<p->L j\/j=i:=λj oj hoj hpj h1 h2=> .inl (h.done j oj hoj hpj h1 h2)
 unfold wpOpIn;rw[ho];simp only
 generalize hs1:st (i+1)=s1;have hst1:=hst i o ho;rw[hs1]at hst1;cases hst1 with
 |skip hw=>
  rw[lu (by rw[(hw.congr heq).wanted htr];simp)];refine⟨λf _=>hF.fn f,?_⟩;have hτ:(st (i+1)).τ=putT o.dst aN6 (st i).τ:=by rw[hs1]
  have hH:(st (i+1)).H=(st i).H:=by rw[hs1]
  by_cases hsec:pu i o=false/\e1<=i
  ·obtain⟨hpi,hHp⟩:=second hsec.1 hsec.2;have hHH:(st (i+1)).H=(st p).H:=by rw[hH,hHp]
   refine hK _ _ (i+1) E (h.step hr ho hrd hτ (by omega) (by omega) (λj oj hoj hpj h1 h2=>?_) (λj oj hoj hpj h1=>⟨after2 j oj hoj hpj hsec.1 (by omega) (by omega) hsec.2,by omega⟩) (Env.le_refl _) (λ_ _ _=>rfl) (by rw[hHH];exact ab7.refl _ _) (by rw[hHH];exact h.rep) at1
    λj oj _ _ _ _ _ hn=>hn)
   by_cases hji:j=i
   ·exact .inr hji
   ·exact .inl (before2 j oj hoj hpj hsec.1 (by omega) hsec.2 h1)
  ·refine hK _ _ p E (h.step hr ho hrd hτ h.le1 h.len p3 (λj oj hoj hpj h1=>⟨h.todo j oj hoj hpj h1,λhc=>?_⟩) (Env.le_refl _) (λ_ _ _=>rfl) (ab7.refl _ _) h.rep at1 λj oj _ _ _ _ _ hn=>hn);subst hc;rw[ho]at hoj;cases hoj;exact hsec ⟨hpj,lU h.le1 h1⟩
 |run hw hy hask hsv hv2 hv3 hv4=>
  rename_i y sv;rw[ll ((hw.congr heq).wanted htr)];have hτ:(st (i+1)).τ=putT o.dst sv (st i).τ:=by rw[hs1]
  have hH:(st (i+1)).H=ax6 (st i).H y.eff:=by rw[hs1]
  rw[bC5 (bP9 heq)]at hy;by_cases hpp:pu i o=true
  ·obtain⟨hkeep,hany⟩:=hpu i o ho hpp (bP9 heq) hy;refine ad8 (nm:=0) h.rep hspecs heqs htr (hany (st p).H 0) hask (λso hso=>by rw[hkeep]at hso;cases hso) F n hF K Q λv w' ⟨E',le,hk,hx,hrep,hv,hE⟩=>?_
   rw[hkeep]at hx hrep hv;refine hK _ _ p E' (h.step hr ho hrd hτ h.le1 h.len p3 (λj oj hoj hpj h1=>⟨h.todo j oj hoj hpj h1,λhc=>?_⟩) le hk hx hrep (hsv _ _ _ _ hv) λj oj _ _ _ _ _ hn=>?_)
   ·subst hc;rw[ho]at hoj;cases hoj;rw[hpp]at hpj;cases hpj
   ·cases hc:E' (st j).H.length with
    |none=>rfl
    |some e=>
     rcases hE _ (by rw[hc];simp)with h1|⟨_,so,h1⟩
     ·exact absurd hn h1
     ·rw[hkeep]at h1;cases h1
  ·have hpf:pu i o=false:=by simpa using hpp
   by_cases hie:i<e1
   ·
    by_cases hload:∃T x,o.op=.load T x
    ·obtain⟨T,x,hop⟩:=hload;have hkeep:y.eff=.keep:=by
      unfold evOp at hy;rw[hop]at hy;simp only at hy
      split at hy
      ·exact aG9 hy
      ·cases hy
     have hyp:evOp P specs eqs N (pick (st i).τ (o.looksAt ops)) (st p).H (st i).H.length o=some y:=by
      have ex:evO N (st i).τ x=evO N (pick (st i).τ (o.looksAt ops)) x:=bP9 heq x (by rw[hop];simp[Op.operands]);unfold evOp at hy⊢;rw[hop]at hy⊢;simp only at hy⊢
      split at hy
      case h_2=>cases hy
      rename_i ti hti;rw[<-ex]at hy⊢;exact lateE hpf hie hop hti hask hy
     refine ad8 h.rep hspecs heqs htr hyp hask (λso hso=>by rw[hkeep]at hso;cases hso) F n hF K Q λv w' ⟨E',le,hk,hx,hrep,hv,hE⟩=>?_
     rw[hkeep]at hx hrep hv;refine hK _ _ p E' (h.step hr ho hrd hτ h.le1 h.len p3 (λj oj hoj hpj h1=>⟨h.todo j oj hoj hpj h1,λhc=>by have:=h.le1;omega⟩) le hk hx hrep (hsv _ _ _ _ hv) λj oj hoj hje hLj hji hne hn=>?_);cases hc:E' (st j).H.length with
     |none=>rfl
     |some e=>
      rcases hE _ (by rw[hc];simp)with h1|⟨h1,so,hso⟩
      ·exact absurd hn h1
      ·rw[hkeep]at hso;cases hso
    by_cases hbs:∃T n ps,o.op=.buildSlice T n ps
    ·obtain⟨T,nn,ps,hop⟩:=hbs;have hyp:∀H nm',nm'=(st i).H.length->evOp P specs eqs N (pick (st i).τ (o.looksAt ops)) H nm' o=some y:=λH nm' hnm=>by
      subst hnm;unfold evOp at hy⊢;rw[hop]at hy⊢;exact hy
     rcases free_spec (hr.free i o hie ho) hy with hkeep|⟨so,hnew⟩
     ·refine ad8 h.rep hspecs heqs htr (hyp _ _ rfl) hask (λso hso=>by rw[hkeep]at hso;cases hso) F n hF K Q λv w' ⟨E',le,hk,hx,hrep,hv,hE⟩=>?_
      rw[hkeep]at hx hrep hv;refine hK _ _ p E' (h.step hr ho hrd hτ h.le1 h.len p3 (λj oj hoj hpj h1=>⟨h.todo j oj hoj hpj h1,λhc=>by have:=h.le1;omega⟩) le hk hx hrep (hsv _ _ _ _ hv) λj oj hoj hje hLj hji hne hn=>?_);cases hc:E' (st j).H.length with
      |none=>rfl
      |some e=>
       rcases hE _ (by rw[hc];simp)with h1|⟨h1,so,hso⟩
       ·exact absurd hn h1
       ·rw[hkeep]at hso;cases hso
     ·have hH':(st (i+1)).H=(st i).H++[so]:=by rw[hH,hnew];rfl
      have stay:∀q,e1+q<=p->(st (e1+q)).H.getD (st i).H.length .dead=so/\(st i).H.length<(st (e1+q)).H.length:=by
       intro q;induction q with
       |zero=>
        intro _;obtain⟨l2,hl2⟩:=ag1 hr hst (e1-(i+1)) (i+1) (by have:=h.le1;have:=h.len;omega) (by omega);rw[show i+1+(e1-(i+1))=e1 by omega,hH']at hl2;rw[lV,hl2];refine⟨?_,by simp⟩;rw[la,xK,lR (lh _)];simp
       |succ q ihq=>
        intro hq;obtain⟨g1,g2⟩:=ihq (by omega);have hm:e1+q<ops.size:=by have:=h.len;omega
        have hom:ops[e1+q]?=some ops[e1+q]:=lF hm;have hlen:=a09 (hst _ _ hom);refine⟨?_,by rw[<-xf];omega⟩;rw[<-xf,<-g1];cases hpm:pu (e1+q) ops[e1+q]with
        |true=>
         have:=aq0 hpu hst 1 (e1+q) (by omega) λm om h1 h2 hom'=>by
          obtain rfl:m=e1+q:=by omega
          rw[hom]at hom';cases hom';exact hpm
         rw[this]
        |false=>
         rcases after _ _ hom hpm hpf (by omega) (by omega)with hb|hb|hb
         ·exact absurd (h.done _ _ hom hpm (by omega) (by omega)) hb
         ·obtain⟨T',x',hc⟩:=hb.load;rw[hop]at hc;cases hc
         ·obtain⟨_,hc⟩:=hap _ _ _ _ ho hom hb;rcases hc with⟨T',x',hc,_⟩|⟨_,hc⟩
          ·rw[hop]at hc;cases hc
          ·exact hc
      obtain⟨g1,g2⟩:=stay (p-e1) (by have:=h.le1;omega);rw[show e1+(p-e1)=p by have:=h.le1;omega]at g1 g2;have happ:appE (st p).H y.eff=(st p).H:=by rw[hnew];rfl
      have hfree:Free (st p).H E (st i).H.length y.eff:=by
       intro so' hso;rw[hnew]at hso;cases hso;exact⟨h.names i o ho hie hL (by rw[hH'];simp),g2,g1⟩
      refine ad8 h.rep hspecs heqs htr (hyp _ _ rfl) hask hfree F n hF K Q λv w' ⟨E',le,hk,hx,hrep,hv,hE⟩=>?_
      rw[happ]at hx hrep hv;refine hK _ _ p E' (h.step hr ho hrd hτ h.le1 h.len p3 (λj oj hoj hpj h1=>⟨h.todo j oj hoj hpj h1,λhc=>by have:=h.le1;omega⟩) le hk hx hrep (hsv _ _ _ _ hv) λj oj hoj hje hLj hji hne hn=>?_);cases hc:E' (st j).H.length with
      |none=>rfl
      |some e=>
       rcases hE _ (by rw[hc];simp)with h1|⟨h1,so',hso⟩
       ·exact absurd hn h1
       ·exfalso;have hl1:(st (i+1)).H.length=(st i).H.length+1:=by rw[hH'];simp
        have hlen:∀a b,a<=b->b<=e1->(st a).H.length<=(st b).H.length:=λa b hab hb=>by
         obtain⟨l,hl⟩:=ag1 hr hst (b-a) a (by have:=h.le1;have:=h.len;omega) (by omega);rw[show a+(b-a)=b by omega]at hl;rw[hl];simp
        rcases ut hji with hlt|hgt
        ·have g1:=hlen (j+1) i (by omega) (by omega);have g2:=hlen j (j+1) (by omega) (by omega);omega
        ·have g1:=hlen (i+1) j (by omega) (by omega);omega
    have hHp:=first hpf (λT x hc=>hload ⟨T,x,hc⟩) (λT n ps hc=>hbs ⟨T,n,ps,hc⟩) hie
    obtain⟨l1,hl1⟩:=ag1 hr hst (e1-i) i (by have:=h.le1;have:=h.len;omega) (by omega);rw[show i+(e1-i)=e1 by omega]at hl1;have hext:Ext (st i).H (st p).H:=by rw[hHp,hl1];exact Ext.app _ _
    have hnk:=free_spec (hr.free i o hie ho) hy;have hnosets:∀l,y.eff≠.sets l:=λl hc=>by
     rcases hnk with h1|⟨so,h1⟩<;>rw[h1]at hc<;>cases hc
    have happ:appE (st p).H y.eff=(st p).H:=by
     rcases hnk with h1|⟨so,h1⟩<;>rw[h1]<;>rfl
    have hfree:Free (st p).H E (st i).H.length y.eff:=by
     intro so hso;have hH':(st (i+1)).H=(st i).H++[so]:=by rw[hH,hso];rfl
     obtain⟨l2,hl2⟩:=ag1 hr hst (e1-(i+1)) (i+1) (by have:=h.le1;have:=h.len;omega) (by omega);rw[show i+1+(e1-(i+1))=e1 by omega,hH']at hl2;refine⟨h.names i o ho hie hL (by rw[hH'];simp),by rw[hHp,hl2];simp,?_⟩;rw[hHp,hl2,la,xK,lR (lh _)];simp
    refine ad8 h.rep hspecs heqs htr (aM6 hspecs hext hnosets hy) hask hfree F n hF K Q λv w' ⟨E',le,hk,hx,hrep,hv,hE⟩=>?_
    rw[happ]at hx hrep hv;refine hK _ _ p E' (h.step hr ho hrd hτ h.le1 h.len p3 (λj oj hoj hpj h1=>⟨h.todo j oj hoj hpj h1,λhc=>by have:=h.le1;omega⟩) le hk hx hrep (hsv _ _ _ _ hv) λj oj hoj hje hLj hji hne hn=>?_);cases hc:E' (st j).H.length with
    |none=>rfl
    |some e=>
     rcases hE _ (by rw[hc];simp)with h1|⟨h1,so,hso⟩
     ·exact absurd hn h1
     ·
      exfalso;have hH':(st (i+1)).H.length=(st i).H.length+1:=by rw[hH,hso];simp[ax6]
      have hlen:∀a b,a<=b->b<=e1->(st a).H.length<=(st b).H.length:=λa b hab hb=>by
       obtain⟨l,hl⟩:=ag1 hr hst (b-a) a (by have:=h.le1;have:=h.len;omega) (by omega);rw[show a+(b-a)=b by omega]at hl;rw[hl];simp
      rcases ut hji with hlt|hgt
      ·have g1:=hlen (j+1) i (by omega) (by omega);have g2:=hlen j (j+1) (by omega) (by omega);omega
      ·have g1:=hlen (i+1) j (by omega) (by omega);omega
   ·
    have hie':e1<=i:=uM.1 hie;obtain⟨hpi,hHp⟩:=second hpf hie';have hp3':∀j oj,ops[j]?=some oj->pu j oj=false->e1<=j->j<i+1->L j\/j=i:=λj oj hoj hpj h1 h2=>by
     by_cases hji:j=i
     ·exact .inr hji
     ·exact .inl (before2 j oj hoj hpj hpf (by omega) hie' h1)
    have hp4':∀j oj,ops[j]?=some oj->pu j oj=false->i+1<=j->¬ L j/\j≠i:=λj oj hoj hpj h1=>⟨after2 j oj hoj hpj hpf (by omega) (by omega) hie',by omega⟩
    have noname:∀{E':Env},(∀k,E' k≠none->E k≠none\/(k=(st i).H.length/\∃so,y.eff=.new so))->∀j oj,ops[j]?=some oj->j<e1->¬ L j->j≠i->(st (j+1)).H.length≠(st j).H.length->E (st j).H.length=none->E' (st j).H.length=none:=by
     intro E' hE j oj hoj hje hLj hji hne hn;cases hc:E' (st j).H.length with
     |none=>rfl
     |some e=>
      rcases hE _ (by rw[hc];simp)with h1|⟨h1,so,hso⟩
      ·exact absurd hn h1
      ·exfalso;have g1:=a09 (hst j oj hoj);have g2:=bn4 hst (i-(j+1)) (j+1) (by omega);rw[show j+1+(i-(j+1))=i by omega]at g2;omega
    rw[hHp]at htr;have hrep0:=h.rep;rw[hHp]at hrep0;cases he:y.eff with
    |new so=>
     have hH':(st (i+1)).H=(st i).H++[so]:=by rw[hH,he];rfl
     have hn0:E (st i).H.length=none:=by
      cases hc:E (st i).H.length with
      |none=>rfl
      |some e=>have:=hrep0.dom _ _ hc;omega
     have hget:∀k<(st i).H.length,((st i).H++[so]).getD k .dead=(st i).H.getD k .dead:=λk hk=>ab0 hk
     have hxo:Xo X0 E ((st i).H++[so])=Xo X0 E (st i).H:=an4 λk e hke=>hget k (hrep0.dom k e hke)
     refine ad8 (hrep0.ext (by simp) hget) hspecs heqs (by rw[hxo];exact htr) (aM6 hspecs (Ext.app _ _) (λl hc=>by rw[he]at hc;cases hc) hy) hask (λso' hso=>?_) F n hF K Q λv w' ⟨E',le,hk,hx,hrep,hv,hE⟩=>?_
     ·rw[he]at hso;cases hso;refine⟨hn0,by simp,?_⟩;rw[la,lR (lh _)];simp
     ·have happ:appE ((st i).H++[so]) y.eff=(st (i+1)).H:=by rw[he,hH'];rfl
      rw[happ]at hx hrep hv;rw[hxo]at hk hx;exact hK _ _ (i+1) E' (h.step hr ho hrd hτ (by omega) (by omega) hp3' hp4' le (by rw[hHp];exact hk) (by rw[hHp];exact hx) hrep (hsv _ _ _ _ hv) (noname hE))
    |keep=>
     refine ad8 hrep0 hspecs heqs htr hy hask (λso hso=>by rw[he]at hso;cases hso) F n hF K Q λv w' ⟨E',le,hk,hx,hrep,hv,hE⟩=>?_
     have happ:appE (st i).H y.eff=(st (i+1)).H:=by rw[hH,he];rfl
     rw[happ]at hx hrep hv;exact hK _ _ (i+1) E' (h.step hr ho hrd hτ (by omega) (by omega) hp3' hp4' le (by rw[hHp];exact hk) (by rw[hHp];exact hx) hrep (hsv _ _ _ _ hv) (noname hE))
    |sets l=>
     refine ad8 hrep0 hspecs heqs htr hy hask (λso hso=>by rw[he]at hso;cases hso) F n hF K Q λv w' ⟨E',le,hk,hx,hrep,hv,hE⟩=>?_
     have happ:appE (st i).H y.eff=(st (i+1)).H:=by rw[hH,he];rfl
     rw[happ]at hx hrep hv;exact hK _ _ (i+1) E' (h.step hr ho hrd hτ (by omega) (by omega) hp3' hp4' le (by rw[hHp];exact hk) (by rw[hHp];exact hx) hrep (hsv _ _ _ _ hv) (noname hE))
end
open Go.RowKit
theorem aG0{ops:Array Oper}{j:Nat}{listed:Array Bool}(h:j∈Region.ready .any ops listed):
  listed.getD j true=false/\∃o,ops[j]?=some o/\∀e∈o.after,Region.binds .any e=true->listed.getD e.on false=true:=mem_ready.1 h
theorem cu6{listed:Array Bool}{i:Nat}(hi:i<listed.size)(j:Nat):LB (listed.setIfInBounds i true) j<->(LB listed j\/j=i):=by
 unfold LB;by_cases hji:j=i
 ·subst hji;rw[lc,lm hi];simp
 ·rw[lc,lj (xG hji),<-lc];simp[hji]
theorem bU3{listed:Array Bool}{i:Nat}(hi:i<listed.size):LB (listed.setIfInBounds i true)=λj=>LB listed j\/j=i:=funext λj=>propext (cu6 hi j)
def av9(listed:Array Bool):Nat:=((List.range listed.size).filter λi=>!listed.getD i true).length
section
variable {P:Program}{w0:World}{X0:Fr}{specs:List FSpec}{eqs:List (TypeId×List CK)}{N:Nat}{ops:Array Oper}{st:Nat->St}{pu:Nat->Oper->Bool}{ap:Nat->Nat->Oper->Oper->Prop}
theorem bT1(hpu:PuOK P specs eqs N ops st pu)(hspecs:∀s∈specs,ah9 P w0 X0 s)(heqs:∀t n,(t,n)∈eqs->EqOK P t n){e1:Nat}(hap:ApOK P N ops st e1 ap)(hr:RegOK pu ap (effS specs) ops e1)(hst:∀i o,ops[i]?=some o->Step P specs eqs N ops o (st i) (st (i+1)))
  {F:Fence}{n:Nat}(hF:Wd F) {Q:Exit->Act->World->Prop}(hQ:∀a w,StR w0 X0 N (st ops.size) a w->Q .normal a w):
  ∀(fuel:Nat)(listed:Array Bool)(a:Act)(w:World)(p:Nat)(E:Env),listed.size=ops.size->av9 listed<=fuel->Mid pu w0 X0 N ops st e1 (LB listed) a w p E->wpAnyIn F n P .any ops Q fuel listed a w:=by
 have fin:∀(listed:Array Bool)(a:Act)(w:World)(p:Nat)(E:Env),listed.size=ops.size->(∀i<ops.size,LB listed i)->Mid pu w0 X0 N ops st e1 (LB listed) a w p E->Q .normal a w:=by
  intro listed a w p E hsz hall h;have hH:(st ops.size).H=(st p).H:=by
   have:=aq0 hpu hst (ops.size-p) p (by have:=h.len;omega) λm om h1 h2 hom=>by
    cases hpm:pu m om with
    |true=>rfl
    |false=>exact absurd (hall m (by omega)) (h.todo m om hom hpm h1)
   rwa[show p+(ops.size-p)=ops.size by have:=h.len;omega]at this
  refine hQ a w ⟨E,by rw[hH];exact h.rep,h.size,by rw[hH];exact h.defers,λt ht=>?_⟩;rw[hH];exact h.look t ht _ (bZ0 hr hst hall t)
 have stuck:∀(listed:Array Bool),listed.size=ops.size->Region.ready .any ops listed=[]->∀i<ops.size,LB listed i:=by
  intro listed hsz hrd i;induction i using Nat.strongRecOn with
  |_ i ih=>
   intro hi;refine lz λhc=>?_
   have ho:ops[i]?=some ops[i]:=lF hi;have:i∈Region.ready .any ops listed:=mem_ready.2 ⟨?_,ops[i],ho,λe he hb=>?_⟩
   ·rw[hrd]at this;cases this
   ·unfold LB at hc;have hlt:i<listed.size:=by omega
    simp only[Array.getD,hlt,dite_true]at hc⊢;simpa using hc
   ·have hlt:=hr.back i ops[i] ho e he hb;exact ih e.on hlt (by omega)
 intro fuel;induction fuel with
 |zero=>
  intro listed a w p E hsz hf h;have hall:∀i<ops.size,LB listed i:=by
   intro i hi;refine lz λhc=>?_
   have hmem:i∈(List.range listed.size).filter λi=>!listed.getD i true:=by
    rw[List.mem_filter,lG];refine⟨by omega,?_⟩;unfold LB at hc;have hlt:i<listed.size:=by omega
    simp only[Array.getD,hlt,dite_true]at hc⊢;simpa using hc
   unfold av9 at hf;rw[List.eq_nil_of_length_eq_zero (Nat.le_zero.1 hf)]at hmem;cases hmem
  refine⟨?_,fin listed a w p E hsz hall h⟩;cases hrd:Region.ready .any ops listed with
  |nil=>rfl
  |cons j r=>
   have hj:j∈Region.ready .any ops listed:=by rw[hrd];exact lP
   obtain⟨h1,o,ho,_⟩:=aG0 hj;have hlt:j<ops.size:=(li.1 ho).1;have h2:=hall j hlt;unfold LB at h2;have hlt':j<listed.size:=by omega
   simp only[Array.getD,hlt',dite_true]at h1 h2;rw[h1]at h2;cases h2
 |succ fuel ih=>
  intro listed a w p E hsz hf h;refine⟨λhrd=>fin listed a w p E hsz (stuck listed hsz hrd) h,λi hi=>?_⟩;obtain⟨h1,o,ho,hrd⟩:=aG0 hi;have hlt:i<listed.size:=by have:=(li.1 ho).1;omega
  have hL:¬ LB listed i:=by
   unfold LB;simp only[Array.getD,hlt,dite_true]at h1⊢;rw[h1];simp
  refine cr8 hpu hspecs heqs hap hr hst hF h ho hL hrd λa' w' p' E' h'=>?_
  rw[<-bU3 hlt]at h';refine ih _ a' w' p' E' (by simp[hsz]) ?_ h';have hdec:av9 (listed.setIfInBounds i true)<av9 listed:=by
   unfold av9;rw[Array.size_setIfInBounds];have hsub:∀(l:List Nat),l.Nodup->i∈l->(∀j∈l,j<listed.size)->((l.filter λj=>!(listed.setIfInBounds i true).getD j true).length<(l.filter λj=>!listed.getD j true).length):=by
    have hsame:∀j,j≠i->(listed.setIfInBounds i true).getD j true=listed.getD j true:=λj hj=>by
     rw[lc,lj (xG hj),<-lc]
    have hit:(listed.setIfInBounds i true).getD i true=true:=by
     rw[lc,lm hlt];rfl
    intro l;induction l with
    |nil=>intro _ hm;cases hm
    |cons x r ihl=>
     intro hnd hm hj;obtain⟨hx,hnd⟩:=List.nodup_cons.1 hnd;by_cases hxi:x=i
     ·subst hxi;have hr':(r.filter λj=>!(listed.setIfInBounds x true).getD j true)=r.filter λj=>!listed.getD j true:=by
       refine List.filter_congr λj hj'=>?_
       rw[hsame j (λhc=>hx (hc▸hj'))]
      rw[lac (by rw[hit];simp),lad (by rw[h1];rfl),hr'];simp
     ·have hm':i∈r:=by
       cases hm with
       |head=>exact absurd rfl hxi
       |tail _ h=>exact h
      have:=ihl hnd hm' λj hj'=>hj j (lS _ hj')
      by_cases hb:(!listed.getD x true)=true
      ·rw[lad (by rw[hsame x hxi];exact hb),lad (p:=λj=>!listed.getD j true) hb];simpa using this
      ·rw[lac (by rw[hsame x hxi];exact hb),lac (p:=λj=>!listed.getD j true) hb];exact this
   exact hsub _ List.nodup_range (lG.2 hlt) λj hj=>lG.1 hj
  omega
theorem bN7{e1:Nat}(hr:RegOK pu ap (effS specs) ops e1)(he1:e1<=ops.size)(hst:∀i o,ops[i]?=some o->Step P specs eqs N ops o (st i) (st (i+1))){L:Nat->Prop}(hL:∀i,¬ L i){a:Act}{w:World}(h:StR w0 X0 N (st 0) a w):
  ∃E,Mid pu w0 X0 N ops st e1 L a w e1 E:=by
 obtain⟨E,hrep,htr⟩:=h;obtain⟨l,hl⟩:=ag1 hr hst e1 0 (by omega) (by omega);rw[lI]at hl;have hget:∀k<(st 0).H.length,((st 0).H++l).getD k .dead=(st 0).H.getD k .dead:=λk hk=>ab0 hk
 have hxo:Xo X0 E (st e1).H=Xo X0 E (st 0).H:=by rw[hl];exact an4 λk e hke=>hget k (hrep.dom k e hke)
 refine⟨E,λj o hj=>absurd hj (hL j),lh _,he1,λi o _ _ h1 h2=>by omega,λi o _ _ _=>hL i,by rw[hl];exact hrep.ext (by simp) hget,λi o ho hi _ hne=>?_,htr.1,by rw[hxo];exact htr.2.1,λt ht s hs=>?_⟩
 ·cases hc:E (st i).H.length with
  |none=>rfl
  |some e=>
   have hlt:=hrep.dom _ _ hc;obtain⟨l2,hl2⟩:=ag1 hr hst i 0 (by omega) (by omega);rw[lI]at hl2;rw[hl2]at hlt;simp at hlt;omega
 ·rcases hs with⟨i,o,_,hi,_⟩|⟨_,rfl⟩
  ·exact absurd hi (hL i)
  ·rw[hxo];exact htr.2.2 t ht
end
theorem bd9{N τ t}(h:refT N τ t=true):t<N/\∃n g,ac5 τ t=.ref n g:=by
 unfold refT at h;split at h
 case h_2=>cases h
 rename_i hb;split at h
 case h_2=>cases h
 rename_i n g hl;exact⟨lN hb,n,g,hl⟩
theorem aX6{ops:Array Oper}{t:Nat}(h:ce9 ops t=true){m:Nat}{o:Oper}(ho:ops[m]?=some o):o.dst≠some t:=by
 have:=xd.1 h o (xE.2 (Array.mem_of_getElem? ho))
 simpa using this
theorem bs8{N τ t}(h:slT N τ t=true):t<N/\∃n m g,ac5 τ t=.sl n m g:=by
 unfold slT at h;split at h
 case h_2=>cases h
 rename_i hb;split at h
 case h_2=>cases h
 rename_i n m g hl;exact⟨lN hb,n,m,g,hl⟩
theorem b41{P:Program}{specs:List FSpec}{eqs:List (TypeId×List CK)}{N:Nat}{ops:Array Oper}{st:Nat->St}{pu:Nat->Oper->Bool}{ap:Nat->Nat->Oper->Oper->Prop}{e1:Nat}{ef:Option FuncId->Bool}(hr:RegOK pu ap ef ops e1)
  (hst:∀i o,ops[i]?=some o->Step P specs eqs N ops o (st i) (st (i+1))) {i c:Nat}(hi:i<ops.size) (hp:(slB N (st 0).τ ops i c||slE N (st ops.size).τ ops i c)=true):∃n m g,evO N (st i).τ (.tmp c)=.sl n m g:=by
 rw[xg]at hp;rcases hp with hp|hp
 case inr=>
  unfold slE at hp;rw[lr]at hp;obtain⟨hlt,n,m,g,hl⟩:=bs8 hp.1;have hc:=chain hst (t:=c) (ops.size-i) i (by omega) λq oq h1 _ hoq=>bv2 hp.2 h1 hoq
  rw[show i+(ops.size-i)=ops.size by omega]at hc;exact⟨n,m,g,by simp only[evO];rw[ll hlt,<-hc,hl]⟩
 unfold slB at hp;obtain⟨a,ha,h⟩:=uO.1 hp;have hai:=lG.1 ha;split at h
 case h_2=>cases h
 rename_i oa hoa;split at h
 case h_2=>cases h
 rename_i hg;split at h
 case h_2=>cases h
 rename_i y2 hop2;split at h
 case h_2=>cases h
 rename_i c0;rw[lr,lr,lr]at h;obtain⟨hd,hb,h1,h2⟩:=h;have hd':oa.dst=some c:=by simpa using hd
 have hlt:c<N:=lN hb;obtain⟨hlt0,n,m,g,hl⟩:=bs8 h1;have hc0:=chain hst (t:=c0) a 0 (by omega) λm om _ hm hom=>by
  have hm':om∈ops.toList.take a:=by
   refine xm (i:=m) ?_;rw[ul (by omega),lM];exact hom
  have:=xd.1 h2 om hm'
  simpa using this
 rw[lI]at hc0;have hcc:=chain hst (t:=c) (i-(a+1)) (a+1) (by omega) λm om g1 g2 hom hdm=>hr.once a m oa om (by omega) hoa hom c hd' hdm
 rw[show a+1+(i-(a+1))=i by omega]at hcc;simp only[evO];rw[ll hlt,hcc];generalize hs1:st (a+1)=s1;have hs:=hst a oa hoa;rw[hs1]at hs;cases hs with
 |skip hw=>
  unfold Want at hw;rw[hg]at hw;cases hw
 |run hw hy2 hask hv hv2 hv3 hv4=>
  rw[hd'];rw[ak9];unfold evOp at hy2;rw[hop2]at hy2;simp only[evO]at hy2;rw[ll hlt0,hc0,hl]at hy2;simp only[ac0]at hy2;cases hy2;exact⟨_,_,_,hv4 _ _ _ rfl⟩
theorem sl_ok{P:Program}{specs:List FSpec}{eqs:List (TypeId×List CK)}{N:Nat}{ops:Array Oper}{st:Nat->St}{pu:Nat->Oper->Bool}{ap:Nat->Nat->Oper->Oper->Prop}{e1:Nat}{ef:Option FuncId->Bool}(hr:RegOK pu ap ef ops e1)
  (hst:∀i o,ops[i]?=some o->Step P specs eqs N ops o (st i) (st (i+1))) {i:Nat}{o:Oper}(ho:ops[i]?=some o) (hp:slOp N (st 0).τ (st ops.size).τ ops i o=true) {τ H nm y} (heq:∀x,x∈o.op.operands->evO N (st i).τ x=evO N τ x)
  (hy:evOp P specs eqs N τ H nm o=some y):y.eff=.keep/\∀H' nm',evOp P specs eqs N τ H' nm' o=some y:=by
 have hi:i<ops.size:=(li.1 ho).1;unfold slOp at hp;split at hp
 case h_3=>cases hp
 case h_2=>
  rename_i T x ix hop;split at hp
  case h_2=>cases hp
  rename_i c;obtain⟨n,m,g,hk⟩:=b41 hr hst hi hp;have hx:evO N τ (.tmp c)=.sl n m g:=by
   rw[<-hk];exact(heq (.tmp c) (by rw[hop];simp[Op.operands])).symm
  unfold evOp at hy⊢;rw[hop]at hy⊢;simp only[hx]at hy⊢;split at hy
  case h_2=>cases hy
  split at hy
  ·simp only[ac2]at hy⊢;obtain⟨_,rfl⟩:=aa0 hy;exact⟨rfl,λ_ _=>hy⟩
  ·split at hy
   ·simp only[ae3,reduceCtorEq]at hy
   ·cases hy
 rename_i T x lo hi' mx hop;split at hp
 case h_2=>cases hp
 rename_i c;have key:∃n m g,evO N (st i).τ (.tmp c)=.sl n m g:=b41 hr hst hi hp;obtain⟨n,m,g,hk⟩:=key;have hx:evO N τ (.tmp c)=.sl n m g:=by
  rw[<-hk];exact(heq (.tmp c) (by rw[hop];simp[Op.operands])).symm
 unfold evOp at hy⊢;rw[hop]at hy⊢;simp only[hx]at hy⊢;have he:∀(es:Nat)(lo hi mx:Option Int),ag7 es H lo hi mx (SV.sl n m g)=some y->y.eff=.keep:=λes lo hi mx h=>by
  simp only[ag7]at h;split at h
  ·cases h;rfl
  ·cases h
 refine⟨?_,λH' nm'=>hy⟩;split at hy
 case h_2=>
  split at hy
  ·split at hy
   ·simp only[al5,reduceCtorEq]at hy
   ·cases hy
  ·cases hy
 split at hy
 case h_2=>cases hy
 split at hy
 ·split at hy
  ·simp only[aD6,ac0]at hy;cases hy;rfl
  ·exact he _ _ _ _ hy
 ·exact he _ _ _ _ hy
theorem pu_ok{P:Program}{specs:List FSpec}{eqs:List (TypeId×List CK)}{N:Nat}{ops:Array Oper}{st:Nat->St}{pu:Nat->Oper->Bool}{ap:Nat->Nat->Oper->Oper->Prop}{e1:Nat}{ef:Option FuncId->Bool}(hr:RegOK pu ap ef ops e1)
  (hst:∀i o,ops[i]?=some o->Step P specs eqs N ops o (st i) (st (i+1))):PuOK P specs eqs N ops st (puB N (st 0).τ (st ops.size).τ ops):=by
 intro i o ho hp τ H nm y heq hy;have hi:i<ops.size:=(li.1 ho).1;unfold puB at hp;cases hpo:at9 o with
 |true=>exact aP2 hpo hy
 |false=>
  rw[hpo,laq]at hp;unfold puX at hp;rw[xg,xg]at hp;rcases hp with(hp|hp)|hp;rotate_left
  ·exact sl_ok hr hst ho hp heq hy
  ·unfold cr7 at hp;split at hp
   case h_2=>cases hp
   rename_i c hop;split at hp
   case h_2=>cases hp
   rename_i b hcb;unfold evOp at hy⊢;rw[hop]at hy⊢;simp only[hcb]at hy⊢;split at hp
   ·exact⟨aD1 hy,λ_ _=>hy⟩
   ·exact⟨aD1 hy,λ_ _=>hy⟩
   ·cases hp
  unfold bK3 at hp;split at hp
  case h_2=>cases hp
  rename_i T x hop;split at hp
  case h_2=>cases hp
  rename_i c;have key:∃n g,evO N (st i).τ (.tmp c)=.ref n g:=by
   rw[xg]at hp;rcases hp with hp|hp
   ·rw[lr]at hp;obtain⟨hlt,n,g,hl⟩:=bd9 hp.1;have hc:=chain hst (t:=c) i 0 (by omega) λm om _ _ hom=>aX6 hp.2 hom
    rw[lI]at hc;exact⟨n,g,by simp only[evO];rw[ll hlt,hc,hl]⟩
   ·obtain⟨a,ha,h⟩:=uO.1 hp;have hai:=lG.1 ha;split at h
    case h_2=>cases h
    rename_i oa hoa;split at h
    case h_2=>cases h
    rename_i hg;split at h
    case h_2=>cases h
    rename_i T2 y2 f hop2;split at h
    case h_2=>cases h
    rename_i c0;rw[lr,lr,lr]at h;obtain⟨hd,hb,h1,h2⟩:=h;have hd':oa.dst=some c:=by simpa using hd
    have hlt:c<N:=lN hb;obtain⟨hlt0,n,g,hl⟩:=bd9 h1;have hc0:=chain hst (t:=c0) a 0 (by omega) λm om _ _ hom=>aX6 h2 hom
    rw[lI]at hc0;have hcc:=chain hst (t:=c) (i-(a+1)) (a+1) (by omega) λm om g1 g2 hom hdm=>hr.once a m oa om (by omega) hoa hom c hd' hdm
    rw[show a+1+(i-(a+1))=i by omega]at hcc;simp only[evO];rw[ll hlt,hcc];generalize hs1:st (a+1)=s1;have hs:=hst a oa hoa;rw[hs1]at hs;cases hs with
    |skip hw=>
     unfold Want at hw;rw[hg]at hw;cases hw
    |run hw hy2 hask hv hv2 hv3 hv4=>
     rename_i y3 v3;rw[hd'];rw[ak9];unfold evOp at hy2;rw[hop2]at hy2;simp only[evO]at hy2;rw[ll hlt0,hc0,hl]at hy2;split at hy2
     ·unfold ae9 at hy2;simp only at hy2
      split at hy2
      ·cases hy2
      ·simp only[ac0]at hy2;cases hy2;exact⟨_,_,hv3 _ _ rfl⟩
     ·cases hy2
  obtain⟨n,g,hk⟩:=key;have hx:evO N τ (.tmp c)=.ref n g:=by
   rw[<-hk];exact(heq (.tmp c) (by rw[hop];simp[Op.operands])).symm
  unfold evOp at hy⊢;rw[hop]at hy⊢;simp only[hx]at hy⊢;split at hy
  ·rename_i ti hti;refine⟨aG9 hy,λH' nm'=>?_⟩;exact hy
  ·cases hy
theorem a95{te:TypeId×Nat×Nat}{H:List SO}{nm:Nat}{s x:SV}{y:Yd}(h:ak5 te H nm s x=some y){ti:Nat×Bool}{k off:Nat}{z:Yd}(hz:ad4 ti H (.own k off)=some z):ad4 ti (ax6 H y.eff) (.own k off)=some z:=by
 have sets:∀k' so,(∀n g T,H.getD k' .dead≠.cells n g T)->(∀n g,H.getD k' .dead≠.scells n g)->ad4 ti (ax6 H (.sets [(k',so)])) (.own k off)=some z:=λk' so h1 h2=>by
  show ad4 ti (H.set k' so) (.own k off)=some z;by_cases e:k=k'
  ·subst e;simp only[ad4]at hz;cases hz
  ·simp only[ad4]at hz⊢;rw[aa3 e];exact hz
 unfold ak5 at h;split at h
 ·split at h
  case isFalse=>cases h
  split at h
  ·split at h
   case h_3=>cases h
   case h_2 hk=>
    split at h
    case h_2=>cases h
    split at h
    case isFalse=>cases h
    cases h;exact sets _ _ (λn g T hc=>by rw[hk]at hc;cases hc) (λn g hc=>by rw[hk]at hc;cases hc)
   case h_1 hk=>
    split at h
    case isFalse=>cases h
    cases h;exact sets _ _ (λn g T hc=>by rw[hk]at hc;cases hc) (λn g hc=>by rw[hk]at hc;cases hc)
  ·cases h;exact aG8 (Ext.app _ _) hz
  ·cases h
 ·unfold aj6 at h;split at h
  case h_2=>cases h
  split at h
  case h_2=>cases h
  split at h
  case h_2=>cases h
  rename_i hk;split at h
  case h_2=>cases h
  split at h
  case h_2=>cases h
  split at h
  case h_2=>cases h
  split at h
  case isFalse=>cases h
  cases h;exact sets _ _ (λn g T hc=>by rw[hk]at hc;cases hc) (λn g hc=>by rw[hk]at hc;cases hc)
theorem a94{te:TypeId×Nat×Nat}{H:List SO}{nm k ver:Nat}{x:SV}{y:Yd}(h:ak5 te H nm (.osl k ver) x=some y):∃so,y.eff=.sets [(k,so)]:=by
 unfold ak5 at h;split at h
 ·split at h
  case isFalse=>cases h
  simp only at h
  split at h
  case h_3=>cases h
  case h_2=>
   split at h
   case h_2=>cases h
   split at h
   case isFalse=>cases h
   cases h;exact⟨_,rfl⟩
  case h_1=>
   split at h
   case isFalse=>cases h
   cases h;exact⟨_,rfl⟩
 ·unfold aj6 at h;simp only at h
  split at h
  case h_2=>cases h
  split at h
  case h_2=>cases h
  split at h
  case h_2=>cases h
  split at h
  case h_2=>cases h
  split at h
  case h_2=>cases h
  split at h
  case isFalse=>cases h
  cases h;exact⟨_,rfl⟩
theorem ap_ok{P:Program}{specs:List FSpec}{eqs:List (TypeId×List CK)}{N:Nat}{ops:Array Oper}{st:Nat->St}{e1:Nat}
  (hst:∀i o,ops[i]?=some o->Step P specs eqs N ops o (st i) (st (i+1))):ApOK P N ops st e1 (Apart2 P (st 0).H.length N (st ops.size).τ ops e1):=by
 intro i j oi oj hoi hoj hA;have hi:i<ops.size:=(li.1 hoi).1;have hj:j<ops.size:=(li.1 hoj).1;have look:∀{m t},m<=ops.size->noW ops m t=true->evO N (st m).τ (.tmp t)=evO N (st ops.size).τ (.tmp t):=λ{m t} hm hw=>by
  have:=chain hst (t:=t) (ops.size-m) m (by omega) λq oq h1 h2 hoq=>bv2 hw h1 hoq
  rw[show m+(ops.size-m)=ops.size by omega]at this;simp only[evO,this]
 rcases hA.is with⟨T,n,ps,c',c,k,ver,hop,hop',hcal,hx,hc,hk,hlt⟩|⟨T,c,c',k,off,hop,hop',hcal,hc,hk⟩|⟨T,c,T',d,z,hop,hop',hc,hcase⟩
 ·refine⟨hA.lt,.inr ⟨⟨T,n,ps,hop⟩,?_⟩⟩;have hx1:evO N (st j).τ (.tmp c)=.osl k ver:=(look (Nat.le_of_lt hj) hc).trans hk;have hne:k≠(st i).H.length:=by
   have:=bn4 hst i 0 (by omega)
   rw[lI]at this;omega
  generalize hs1:st (j+1)=s1;have hs:=hst _ _ hoj;rw[hs1]at hs;cases hs with
  |skip=>rfl
  |run hw hy' hask' hv hv2 hv3 hv4=>
   rename_i y' v;have he:∃so,y'.eff=.sets [(k,so)]:=by
    unfold evOp at hy';rw[hop']at hy';simp only[hcal]at hy';unfold aj5 at hy';simp only at hy'
    split at hy'
    case h_2=>cases hy'
    rename_i s _ _ hargs;split at hy'
    case isFalse=>cases hy'
    split at hy'
    case h_2=>cases hy'
    split at hy'
    case h_2=>cases hy'
    have hs0:s=.osl k ver:=by
     have h0:(mapArgs N (st j).τ c'.args)[0]?=some s:=by rw[hargs];rfl
     unfold mapArgs at h0;rw[lW,lM,hx,lD,hx1]at h0;exact(sj h0).symm
    subst hs0;exact a94 hy'
   obtain⟨so,he⟩:=he;show(ax6 (st j).H y'.eff).getD _ .dead=_;rw[he];exact aa3 (xG hne)
 ·refine⟨hA.lt,.inl ⟨T,.tmp c,hop,λti y hti hask hy=>?_⟩⟩;rw[look (Nat.le_of_lt hi) hc,hk]at hy⊢;generalize hs1:st (j+1)=s1;have hs:=hst _ _ hoj;rw[hs1]at hs;cases hs with
  |skip=>exact hy
  |run hw hy' hask' hv hv2 hv3 hv4=>
   rename_i y' v;unfold evOp at hy';rw[hop']at hy';simp only[hcal]at hy';unfold aj5 at hy';simp only at hy'
   split at hy'
   case h_2=>cases hy'
   split at hy'
   case isFalse=>cases hy'
   split at hy'
   case h_2=>cases hy'
   split at hy'
   case h_2=>cases hy'
   exact a95 hy' hy
 refine⟨hA.lt,.inl ⟨T,.tmp c,hop,λti y hti hask hy=>?_⟩⟩;rcases hcase with⟨n0,g0,hk⟩|⟨k,off,k',off',hd,hk,hk',hne⟩
 ·rw[look (Nat.le_of_lt hi) hc,hk]at hy⊢;exact hy
 rw[look (Nat.le_of_lt hi) hc,hk]at hy⊢;generalize hs1:st (j+1)=s1;have hs:=hst _ _ hoj;rw[hs1]at hs;cases hs with
 |skip=>exact hy
 |run hw hy' hask' hv hv2 hv3 hv4=>
  rename_i y' v;unfold evOp at hy';rw[hop']at hy';simp only at hy'
  split at hy'
  case h_2=>cases hy'
  rename_i ti' hti';rw[look (Nat.le_of_lt hj) hd,hk']at hy';unfold ao5 at hy';split at hy'
  case h_2=>cases hy'
  rename_i m f hcv;split at hy'
  case isFalse=>cases hy'
  rename_i hm1;simp only at hy'
  split at hy'
  case h_2=>cases hy'
  rename_i n g T0 hobj;have hlt:k'<(st j).H.length:=by
   refine Nat.not_le.1 λhc=>?_
   rw[la,xC hc]at hobj;cases hobj
  have put:∀so,ax6 (st j).H (.sets [(k',so)])=(st j).H.set k' so:=λso=>rfl
  have apart:∀so,k≠k'->ad4 ti ((st j).H.set k' so) (.own k off)=some y:=λso h=>by
   simp only[ad4]at hy⊢;rw[aa3 h];exact hy
  have one:∀{T ti},oneT P T=true->tinf P T=some ti->ti=(1,false):=λ{T ti} h1 h2=>by
   unfold oneT at h1;rw[h2]at h1;simp only[lr]at h1;obtain⟨a,b⟩:=ti;have:=lK h1.1
   simp only at this
   subst this;cases b
   ·rfl
   ·simp at h1
  by_cases hkk:k=k'
  ·subst hkk;obtain⟨ho,hT,hT'⟩:off≠off'/\oneT P T=true/\oneT P T'=true:=hne.resolve_left λh=>h rfl
   obtain rfl:=one hT hti
   obtain rfl:=one hT' hti'
   simp only[ad4,hobj,sk]at hy;subst hy;have hf:off+1<=n:=Fit.le hask;split at hy'
   ·rename_i hb;have hmn:=lK hb;cases hy';have hf':off'+m<=n:=Fit.le hask';simp only at hm1
    omega
   ·cases hy';show ad4 (1,false) (ax6 (st j).H (.sets [(k,_)])) (.own k off)=_;rw[put];simp only[ad4,ac3 hlt];congr 1;have e:updF g off' m f off=g off:=by
     unfold updF;rw[ae4];have:¬ (off'<=off/\off<off'+m):=by simp only at hm1;omega
     rw[lf this];rfl
    show Yd.mk _ (updF g off' m f off) _=Yd.mk _ (g off) _;rw[e]
  ·split at hy'<;>(cases hy';exact apart _ hkk)
def bz9(f:Nat->Nat)(o:Oper):Oper:={o with after:=o.after.map (λe=>{e with on:=f e.on}),guard:=o.guard.map λq=>(f q.1,q.2)}
def ah2(l:List Nat)(ops:Array Oper):Array Oper:=(l.map λi=>bz9 (λj=>l.idxOf j) (ops.getD i default)).toArray
def cd2(l:List Nat)(ops:Array Oper):Bool:=Nat.beq l.length ops.size&&((List.range ops.size).all λk=>Nat.beq (l.idxOf (l.getD k ops.size)) k&&(Nat.blt (l.getD k ops.size) ops.size&&Nat.beq (l.getD (l.idxOf k) ops.size) k))&&
 (List.range ops.size).all λk=>(ops.getD k default).after.toList.all λe=>Nat.blt e.on ops.size
structure PermOK(l:List Nat)(ops:Array Oper):Prop where
 len:l.length=ops.size
 inv:∀k<ops.size,l.idxOf (l.getD k ops.size)=k
 lt:∀k<ops.size,l.getD k ops.size<ops.size
 inv2:∀i<ops.size,l.getD (l.idxOf i) ops.size=i
 edge:∀(i:Nat)(o:Oper),ops[i]?=some o->∀e∈o.after,e.on<ops.size
theorem bA5{l:List Nat}{ops:Array Oper}(h:cd2 l ops=true):PermOK l ops:=by
 unfold cd2 at h;rw[lr,lr]at h;obtain⟨⟨h1,h2⟩,h3⟩:=h;have g:∀k<ops.size,_:=λk hk=>ad1 h2 hk
 simp only[lr]at g;refine⟨lK h1,λk hk=>lK (g k hk).1,λk hk=>by have:=(g k hk).2.1;rw[Nat.blt_eq]at this;exact this,λk hk=>lK (g k hk).2.2,λi o ho e he=>?_⟩;have hi:=(li.1 ho).1;have h4:=ad1 h3 hi;have h5:ops.getD i default=o:=by rw[lc,ho];rfl
 rw[h5]at h4;have:=xd.1 h4 e (xE.2 he)
 rw[Nat.blt_eq]at this;exact this
theorem PermOK.lt2{l:List Nat}{ops:Array Oper}(h:PermOK l ops){i:Nat}(hi:i<ops.size):l.idxOf i<ops.size:=by
 refine Nat.not_le.1 λhc=>?_
 have:=h.inv2 i hi
 rw[la,xC (by rw[h.len];exact hc)]at this;simp at this;omega
theorem au1{l:List Nat}{ops:Array Oper}(h:PermOK l ops):(ah2 l ops).size=ops.size:=by simp[ah2,h.len]
theorem aw5{l:List Nat}{ops:Array Oper}(h:PermOK l ops){i:Nat}{o:Oper}(ho:ops[i]?=some o):(ah2 l ops)[l.idxOf i]?=some (bz9 (λj=>l.idxOf j) o):=by
 have hi:=(li.1 ho).1;have h2:=h.lt2 hi;have h3:=h.inv2 i hi;unfold ah2;rw[xI,lW];rw[la]at h3;have hlt:l.idxOf i<l.length:=by rw[h.len];exact h2
 rw[lw hlt]at h3⊢;simp only[lZ]at h3;rw[h3,lD,lc,ho];rfl
theorem be3{l:List Nat}{ops:Array Oper}(h:PermOK l ops){i:Nat}(hi:ops.size<=i):(ah2 l ops)[l.idxOf i]?=none:=by
 have hn:i ∉ l:=λhm=>by
  obtain⟨k,hk,he⟩:=uL.1 hm;have:=h.lt k (by rw[<-h.len];exact hk)
  rw[la,lw hk,lZ,he]at this;omega
 rw[List.idxOf_eq_length hn,xX (by rw[au1 h,h.len];exact lh _)]
theorem bm6{l:List Nat}{ops:Array Oper}(h:PermOK l ops)(o:Oper)(tmps:Array Value):Region.wanted (bz9 (λj=>l.idxOf j) o) (yielded (ah2 l ops) tmps)=Region.wanted o (yielded ops tmps):=by
 unfold Region.wanted bz9;cases hg:o.guard with
 |none=>rfl
 |some q=>
  obtain⟨j,want⟩:=q;simp only[lD];congr 1;unfold yielded;cases ho:ops[j]? with
  |none=>rw[be3 h (xY.1 ho)]
  |some oj=>rw[aw5 h ho];rfl
structure Corr(l:List Nat)(ops:Array Oper)(listed listed':Array Bool):Prop where
 s:listed.size=ops.size
 s':listed'.size=ops.size
 at':∀i b,i<ops.size->listed'.getD (l.idxOf i) b=listed.getD i b
theorem Corr.ready{l:List Nat}{ops:Array Oper}(h:PermOK l ops){listed listed':Array Bool}(c:Corr l ops listed listed'){i:Nat}(hi:i∈Region.ready .any ops listed):l.idxOf i∈Region.ready .any (ah2 l ops) listed':=by
 obtain⟨h1,o,ho,hrd⟩:=aG0 hi;have hlt:=(li.1 ho).1;refine mem_ready.2 ⟨by rw[c.at' i true hlt];exact h1,_,aw5 h ho,λe he hb=>?_⟩;obtain⟨e0,he0,rfl⟩:=Array.mem_map.1 he;simp only
 rw[c.at' _ false (h.edge i o ho e0 he0)];exact hrd e0 he0 (by simpa[Region.binds]using hb)
theorem Corr.co6{l:List Nat}{ops:Array Oper}(h:PermOK l ops){listed listed':Array Bool}(c:Corr l ops listed listed')(hr:Region.ready .any (ah2 l ops) listed'=[]):Region.ready .any ops listed=[]:=by
 cases hc:Region.ready .any ops listed with
 |nil=>rfl
 |cons i r=>
  have:=c.ready h (i:=i) (by rw[hc];exact lP)
  rw[hr]at this;cases this
theorem Corr.set{l:List Nat}{ops:Array Oper}(h:PermOK l ops){listed listed':Array Bool}(c:Corr l ops listed listed'){i:Nat}(hi:i<ops.size):Corr l ops (listed.setIfInBounds i true) (listed'.setIfInBounds (l.idxOf i) true):=by
 refine⟨by simp[c.s],by simp[c.s'],λj b hj=>?_⟩;by_cases hji:j=i
 ·subst hji;rw[lc,lc,lm (by rw[c.s'];exact h.lt2 hj),lm (by rw[c.s];exact hj)]
 ·have hne:l.idxOf i≠l.idxOf j:=λhc=>hji (by rw[<-h.inv2 j hj,<-hc,h.inv2 i hi])
  rw[lc,lc,lj hne,lj (xG hji),<-lc,<-lc];exact c.at' j b hj
theorem bX1{l:List Nat}{ops:Array Oper}(h:PermOK l ops){P:Program}{F:Fence}{n:Nat}{Q:Exit->Act->World->Prop}:
  ∀(fuel:Nat)(listed listed':Array Bool)(a:Act)(w:World),Corr l ops listed listed'->wpAnyIn F n P .any (ah2 l ops) Q fuel listed' a w->wpAnyIn F n P .any ops Q fuel listed a w:=by
 intro fuel;have back:∀{listed listed':Array Bool}{a:Act}{w:World},Corr l ops listed listed'->(Region.ready .any (ah2 l ops) listed'=[]->Q .normal a w)->Region.ready .any ops listed=[]->Q .normal a w:=by
  intro listed listed' a w c hq hr;refine hq ?_;cases hc:Region.ready .any (ah2 l ops) listed' with
  |nil=>rfl
  |cons k r=>
   exfalso;have hk:k∈Region.ready .any (ah2 l ops) listed':=by rw[hc];exact lP
   obtain⟨h1,o',ho',hrd⟩:=aG0 hk;have hlt:k<ops.size:=by have:=(li.1 ho').1;rwa[au1 h]at this
   have hi:=h.lt k hlt;have ho:ops[l.getD k ops.size]?=some ops[l.getD k ops.size]:=lF hi;have hp:=aw5 h ho;rw[h.inv k hlt,ho']at hp;cases hp;have:l.getD k ops.size∈Region.ready .any ops listed:=mem_ready.2 ⟨by have:=c.at' (l.getD k ops.size) true hi;rw[h.inv k hlt]at this;rw[<-this];exact h1,_,ho,λe he hb=>?_⟩
   ·rw[hr]at this;cases this
   ·have he':({e with on:=l.idxOf e.on}:Edge)∈(bz9 (λj=>l.idxOf j) ops[l.getD k ops.size]).after:=by
     simp only[bz9,Array.mem_map];exact⟨e,he,rfl⟩
    have:=hrd _ he' (by simpa[Region.binds]using hb)
    simp only at this
    rw[<-c.at' e.on false (h.edge _ _ ho e he)];exact this
 induction fuel with
 |zero=>intro listed listed' a w c hw;exact⟨c.co6 h hw.1,hw.2⟩
 |succ fuel ih=>
  intro listed listed' a w c hw;refine⟨back c hw.1,λi hi=>?_⟩;have h1:=hw.2 _ (c.ready h hi);obtain⟨_,o,ho,_⟩:=aG0 hi;have hlt:=(li.1 ho).1;unfold wpOpIn at h1⊢;rw[aw5 h ho]at h1;rw[ho];simp only at h1⊢
  rw[bm6 h]at h1;have hK:∀a' w',wpAnyIn F n P .any (ah2 l ops) Q fuel (listed'.setIfInBounds (l.idxOf i) true) a' w'->wpAnyIn F n P .any ops Q fuel (listed.setIfInBounds i true) a' w':=λa' w' hw'=>ih _ _ a' w' (c.set h hlt) hw'
  by_cases hwant:Region.wanted o (yielded ops a.tmps)=true
  ·rw[ll hwant]at h1⊢;exact Oper.wpIn_mono hK (show o.wpIn F n P a w _ Q from h1)
  ·rw[lu hwant]at h1⊢;exact⟨h1.1,hK _ _ h1.2⟩
theorem bA0{P:Program}{w0 X0 N}{specs:List FSpec}(hspecs:∀s∈specs,ah9 P w0 X0 s){eqs:List (TypeId×List CK)}(heqs:∀t n,(t,n)∈eqs->EqOK P t n){ops:Array Oper}
  {F:Fence}{n:Nat}(hF:Wd F) {Q:Exit->Act->World->Prop}{s s':St}(ht:Tr P specs eqs N ops ops.toList s s') (hd:regB P (effS specs) s.H.length N s.τ s'.τ ops=true) (hQ:∀a w,StR w0 X0 N s' a w->Q .normal a w) {a:Act}{w:World}(h:StR w0 X0 N s a w):
  wpAnyIn F n P .any ops Q ops.size (Array.replicate ops.size false) a {w with drawn:=w.drawn+1}:=by
 have hr:=bK2 hd;obtain⟨st,h0,h1,h2⟩:=ht.cl4;rw[lC]at h1;rw[<-h0,<-h1]at hr;have hst:∀i o,ops[i]?=some o->Step P specs eqs N ops o (st i) (st (i+1)):=λi o ho=>h2 i o (by rw[lM];exact ho)
 have hdr:StR w0 X0 N (st 0) a {w with drawn:=w.drawn+1}:=by
  rw[h0];obtain⟨E,hrep,htr⟩:=h;have hb:Below w.heap.size w w.drew:=(Below.refl _ _).drew;exact⟨E,hrep.world hb,htr.mono (Rep.keeps hb) (ab7.refl _ _) (Env.le_refl _)⟩
 have hnone:∀i,¬ LB (Array.replicate ops.size false) i:=λi hi=>by
  unfold LB at hi;rw[lc,Array.getElem?_replicate]at hi;split at hi<;>simp at hi
 obtain⟨E,hmid⟩:=bN7 hr (by have:=List.findIdx_le_length (p:=aU4 (effS specs)) (xs:=ops.toList);simpa using this) hst hnone hdr;refine bT1 (pu_ok hr hst) hspecs heqs (ap_ok hst) hr hst hF (by rw[h1];exact hQ) ops.size _ a _ _ E (by simp) ?_ hmid;unfold av9;have:=List.length_filter_le (λi=>!(Array.replicate ops.size false).getD i true) (List.range (Array.replicate ops.size false).size)
 simpa using this
theorem aI9{P:Program}{w0 X0 N}{specs:List FSpec}(hspecs:∀s∈specs,ah9 P w0 X0 s){eqs:List (TypeId×List CK)}(heqs:∀t n,(t,n)∈eqs->EqOK P t n)(hm:P.follows .mixedOrders=true){ops ops':Array Oper}{id:Nat}{draw:Bool}(ho:ops'=ops\/draw=true/\∃l,PermOK l ops/\ops'=ah2 l ops)
  {F:Fence}{n:Nat}(hF:Wd F) {Q:Exit->Act->World->Prop}{s s':St}(ht:Tr P specs eqs N ops' ops'.toList s s') (hd:draw=true->regB P (effS specs) s.H.length N s.τ s'.τ ops'=true) (hQ:∀a w,StR w0 X0 N s' a w->Q .normal a w) {a:Act}{w:World}(h:StR w0 X0 N s a w):
  (Code.region id ops draw).wpIn F n P Q a w:=by
 cases draw with
 |false=>
  rcases ho with rfl|⟨hc,_⟩
  ·exact wpIn_region_list (b27 hspecs heqs hF ht hQ a w h)
  ·cases hc
 |true=>
  have hw:=bA0 hspecs heqs (F:=F) (n:=n) hF (Q:=Q) ht (hd rfl) hQ h;rcases ho with rfl|⟨_,l,hp,rfl⟩
  ·exact wpIn_region_any hm hw
  ·rw[au1 hp]at hw;refine wpIn_region_any hm (bX1 hp _ _ _ a _ ⟨by simp,by simp,λi b hi=>?_⟩ hw);have:=hp.lt2 hi
   simp[lc,Array.getElem?_replicate,hi,this]
end Sx
end Go.Proofs.YtnhecfkpiojmhaaGreat
