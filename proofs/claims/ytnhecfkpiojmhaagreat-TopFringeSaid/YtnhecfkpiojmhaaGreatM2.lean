import Derived.Test.YtnhecfkpiojmhaaGreatM1
set_option linter.all false
/- Part 2. -/
namespace Go.Proofs.YtnhecfkpiojmhaaGreat
namespace Sx
open Go.RowKit
theorem Goes.new{w0 X0 H E w w' nm e so sv v}(h:Rep w0 X0 H E w)(hf:Free H E nm (.new so))(hb:Below w.heap.size w w')
  (hh:∀b,holds e so b->w.heap.size<=b)
  (hok:aA1 (Xo X0 E H) w w'->ab7 (Xo X0 E H) (Xo X0 (E.put nm e) H) w->E.le (E.put nm e)->EIok w' (Xo X0 (E.put nm e) H) (E.put nm e) e so)
  (hr:∀X,R w' X (E.put nm e) sv v):Goes w0 X0 H E w nm (.new so) sv v w':=by
 obtain⟨h1,h2,h3⟩:=hf so rfl;have hwi:ab7 (Xo X0 E H) (Xo X0 (E.put nm e) H) w:=by
  rintro b hlt (hx|⟨j,e',hj,hh'⟩)
  ·exact .inl hx
  ·by_cases hjk:j=nm
   ·subst hjk;rw[Env.aa8]at hj;cases hj;rw[h3]at hh';have:=hh b hh'
    omega
   ·rw[Env.ac6 hjk]at hj;exact .inr ⟨j,e',hj,hh'⟩
 obtain⟨g1,g2⟩:=h.new (e:=e) h1 h2 hb (by rw[h3];exact hh) (by rw[h3];exact hok (Rep.keeps hb) hwi (Env.aQ6 h1));refine⟨E.put nm e,Env.aQ6 h1,Rep.keeps hb,g2,g1,hr _,λk hk=>?_⟩;by_cases hjk:k=nm
 ·exact .inr ⟨hjk,so,rfl⟩
 ·rw[Env.ac6 hjk]at hk;exact .inl hk
theorem Goes.cells{w0 X0 H E w nm n g T}{vs:Array Value}(h:Rep w0 X0 H E w)(hf:Free H E nm (.new (.cells n g T)))(hs:vs.size=n)
  (hr:∀i<n,ab1 (vs.getD i undef)/\R w (Xo X0 E H) E (g i) (vs.getD i undef)):
  Goes w0 X0 H E w nm (.new (.cells n g T)) (.own nm 0) (.pointer (some ⟨w.heap.size,0,none⟩)) (w.alloc (.cells vs T)):=
 Goes.new (e:= .blk w.heap.size) h hf (Below.aT4 w _) (λb hb=>by simp only[holds]at hb;omega)
  (λhke hwi hle=>⟨vs,aj4 w _,hs,λi hi=>⟨(hr i hi).1,(hr i hi).2.mono hke hwi hle⟩⟩) λX=> .own (Env.aa8 _ _ _)
theorem ai4{P:Program}{t:TypeId}{z:List Value}(h:am4 P t=some z):
  ∃i v,P.info? t=some i/\i.zero=some v/\v.cells.toList=z/\v.cells.size=i.size/\∀k<z.length,ab1 (z.getD k undef):=by
 unfold am4 at h;cases hi:P.info? t with
 |none=>simp[hi]at h
 |some i=>
  cases hz:i.zero with
  |none=>simp[hi,hz]at h
  |some v=>
   simp only[hi,hz]at h;obtain⟨⟨h1,h2⟩,rfl⟩:=aa0 h;refine⟨i,v,rfl,hz,rfl,h1,λk hk=>?_⟩;rw[la,lw hk];exact xd.1 h2 _ (xv hk)
theorem bq2{P:Program}{w0 X0 H E w nm}(h:Rep w0 X0 H E w){t:TypeId}{z:List Value}(ht:am4 P t=some z)
  (hf:Free H E nm (.new (.cells z.length (ax5 z) t))):
  ∃u w',(Instr.alloc t true (.tuple #[])).run P w=.ok u w'/\Goes w0 X0 H E w nm (.new (.cells z.length (ax5 z) t)) (.own nm 0) u w':=by
 obtain⟨i,v,h1,h2,rfl,h4,h5⟩:=ai4 ht;have hrun:(Instr.alloc t true (.tuple #[])).run P w=.ok (.pointer (some ⟨w.heap.size,0,none⟩)) (w.alloc (.cells v.cells t)):=by simp[Instr.alloc,zeroValue,typeInfo,h1,h2,newVar,newRow]
 refine⟨_,_,hrun,?_⟩;refine Goes.cells h hf (by simp) λk hk=>?_
 have:=h5 k hk
 rw[ab9]at this;refine⟨this,?_⟩;unfold ax5;rw[ab9];exact ah8 _
theorem bS4{P:Program}{w0 X0 H E w nm}(h:Rep w0 X0 H E w){t:TypeId}{x:SV}{v:Value}(hx:R w (Xo X0 E H) E x v){n g}(hc:cellsOf x=some (n,g))
  (hf:Free H E nm (.new (.cells n g t))):
  ∃u w',(Instr.box t v).run P w=.ok u w'/\Goes w0 X0 H E w nm (.new (.cells n g t)) (.own nm 0) u w':=by
 obtain⟨h1,h2⟩:=al8 hx hc;have hrun:(Instr.box t v).run P w=.ok (.pointer (some ⟨w.heap.size,0,none⟩)) (w.alloc (.cells v.cells t)):=by simp[Instr.box,newVar,newRow]
 exact⟨_,_,hrun,Goes.cells h hf h1 h2⟩
theorem bD7{P:Program}{w0 X0 H E w nm}(h:Rep w0 X0 H E w){t:TypeId}{x:SV}{v:Value}(hx:R w (Xo X0 E H) E x v){n g}(hc:cellsOf x=some (n,g))
  (hp:∀i<n,ac4 6 (g i)=true):
  ∃u w',(Instr.box t v).run P w=.ok u w'/\Goes w0 X0 H E w nm .keep (.ref n g) u w':=by
 obtain⟨h1,h2⟩:=al8 hx hc;have hrun:(Instr.box t v).run P w=.ok (.pointer (some ⟨w.heap.size,0,none⟩)) (w.alloc (.cells v.cells t)):=by simp[Instr.box,newVar,newRow]
 have hbel:Below w.heap.size w (w.alloc (.cells v.cells t)):=Below.aT4 w _;refine⟨_,_,hrun,Goes.world h hbel (.ref (aj4 w _) (λhX=>absurd (h.xlt _ hX) (xt _)) (by omega) (λj hj=>?_) λj hj=>?_)⟩
 ·rw[lI];exact(h2 j hj).1
 ·rw[lI];exact(ae6 6 _ _ (hp j hj) (h2 j hj).2).mono (Rep.keeps hbel) (ab7.refl _ _) (Env.le_refl _)
theorem bv5(off:Nat):∀(l:List Value)(s:Nat)(cs:Array Value),off+s+l.length<=cs.size->
  ((l.zipIdx s).foldl (λ(cs:Array Value) p=>cs.setIfInBounds (off+p.2) p.1) cs).size=cs.size/\
  ∀k,((l.zipIdx s).foldl (λ(cs:Array Value) p=>cs.setIfInBounds (off+p.2) p.1) cs).getD k undef=if off+s<=k/\k<off+s+l.length then l.getD (k-(off+s)) undef else cs.getD k undef
 | [],s,cs,_=>⟨rfl,λk=>by rw[lu (by simp only[uG];omega)];rfl⟩
 |v::l,s,cs,h=>by
  simp only[xU]at h;obtain⟨h1,h2⟩:=bv5 off l (s+1) (cs.setIfInBounds (off+s) v) (by simp;omega);refine⟨by simp only[List.zipIdx_cons,uV];rw[h1];simp,λk=>?_⟩;simp only[List.zipIdx_cons,uV,xU];rw[h2 k];by_cases hk:off+(s+1)<=k/\k<off+(s+1)+l.length
  ·rw[ll hk,ll (by omega),show k-(off+s)=(k-(off+(s+1)))+1 by omega,List.getD_cons_succ]
  ·rw[lu hk,lc,Array.getElem?_setIfInBounds];by_cases hk2:off+s=k
   ·rw[ll hk2,ll (by omega),ll (by omega)];subst hk2;simp
   ·rw[lu hk2,lu (by omega),lc]
def ay3(w:World)(X:Nat->Prop)(E:Env)(n:Nat)(g:Nat->SV)(cs:Array Value):Prop:=cs.size=n/\∀i<n,ab1 (cs.getD i undef)/\R w X E (g i) (cs.getD i undef)
def aZ1(w:World)(X:Nat->Prop)(E:Env):List (Nat×SV)->List (Nat×Value)->Prop
 | [],[]=>True
 |(i,s)::r,(j,v)::q=>i=j/\R w X E s v/\aZ1 w X E r q
 |_,_=>False
theorem ak0{w X E}(place:Nat->Option (Nat×Nat))(n:Nat):∀(ps:List (Nat×SV))(vs:List (Nat×Value))(g g':Nat->SV)(cs:Array Value),
  aZ1 w X E ps vs->ay3 w X E n g cs->aU6 place n g ps=some g'->∃cs',Instr.fill place cs vs=some cs'/\ay3 w X E n g' cs'
 | [],[],g,g',cs,_,hc,hf=>by simp only[aU6,sk]at hf;subst hf;exact⟨cs,rfl,hc⟩
 | [],_::_,_,_,_,hp,_,_=>hp.elim
 |_::_,[],_,_,_,hp,_,_=>hp.elim
 |(i,s)::r,(j,v)::q,g,g',cs,hp,hc,hf=>by
  obtain⟨rfl,hr,hp'⟩:=hp;simp only[aU6]at hf;cases hpl:place i with
  |none=>simp[hpl]at hf
  |some os=>
   obtain⟨off,sz⟩:=os;cases hcl:cellsOf s with
   |none=>simp[hpl,hcl]at hf
   |some mf=>
    obtain⟨m,f⟩:=mf;simp only[hpl,hcl]at hf;split at hf
    case isFalse=>cases hf
    rename_i hcond;obtain⟨rfl,hle⟩:=hcond;obtain⟨h1,h2⟩:=al8 hr hcl;have hlen:v.cells.toList.length=m:=by rw[lC,h1]
    obtain⟨f1,f2⟩:=bv5 off v.cells.toList 0 cs (by rw[hlen,hc.1];omega);have hsame:v.cells.zipIdx.foldl (λ(cs:Array Value) p=>cs.setIfInBounds (off+p.2) p.1) cs=(v.cells.toList.zipIdx 0).foldl (λ(cs:Array Value) p=>cs.setIfInBounds (off+p.2) p.1) cs:=by
     rw[<-Array.foldl_toList,Array.toList_zipIdx]
    have hnew:ay3 w X E n (updF g off m f) (v.cells.zipIdx.foldl (λ(cs:Array Value) p=>cs.setIfInBounds (off+p.2) p.1) cs):=by
     rw[hsame];refine⟨by rw[f1];exact hc.1,λk hk=>?_⟩;rw[f2 k,hlen,lV];by_cases hkk:off<=k/\k<off+m
     ·rw[ll hkk,aZ7 hkk,ab9];exact h2 (k-off) (by omega)
     ·rw[lu hkk,aZ6 hkk];exact hc.2 k hk
    obtain⟨cs',g1,g2⟩:=ak0 place n r q _ g' _ hp' hnew hf;refine⟨cs',?_,g2⟩;have hcs:=hc.1;rw[Instr.fill,hpl];simp only
    rw[lu (by simp only[xg,lE,ne_eq];omega)];exact g1
theorem aV9{w X E}{v:Value}{z:List Value}(hz:v.cells.toList=z)(h:∀k<z.length,ab1 (z.getD k undef)):ay3 w X E z.length (ax5 z) v.cells:=by
 subst hz;refine⟨by simp,λi hi=>?_⟩;have:=h i hi
 rw[ab9]at this;refine⟨this,?_⟩;unfold ax5;rw[ab9];exact ah8 _
theorem aK3{w X E n g cs}(h:ay3 w X E n g cs):R w X E (.agg n g) (.agg cs):= .agg h.1 (λi hi=>(h.2 i hi).1) λi hi=>(h.2 i hi).2
theorem aV1{P:Program}{w0 X0 H E w nm}(h:Rep w0 X0 H E w){t:TypeId}{z:List Value}{fl:List (Nat×Nat)}(ht:am4 P t=some z)(hfl:bU9 P t=some fl)
  {ps:List (Nat×SV)}{vs:Array (Nat×Value)}(hp:aZ1 w (Xo X0 E H) E ps vs.toList) {y:Yd}(hy:aD8 z fl ps=some y):
  ∃u w',(Instr.build t vs).run P w=.ok u w'/\Goes w0 X0 H E w nm y.eff y.val u w':=by
 obtain⟨i,v,h1,h2,h3,h4,h5⟩:=ai4 ht;unfold aD8 at hy;cases hg:aU6 (λi=>fl[i]?) z.length (ax5 z) ps with
 |none=>simp[hg]at hy
 |some g=>
  simp only[hg,ac0,sk]at hy;subst hy;obtain⟨cs',c1,c2⟩:=ak0 _ _ _ _ _ _ _ hp (aV9 h3 h5) hg;unfold bU9 at hfl;cases hd:P.underlying t with
  |none=>simp[hd]at hfl
  |some d=>
   cases d<;>simp only[hd,reduceCtorEq]at hfl
   rename_i fields;refine⟨_,w,run_build w t vs cs' ?_,Goes.pure h (aK3 c2)⟩;unfold Program.built;simp only[h1,hd,h2,hfl];simpa using c1
theorem at3{P:Program}{t:TypeId}{len s:Nat}{a:Bool}(h:tarr P t=some (len,s,a)):∃e i,P.underlying t=some (.array len e)/\tinf P e=some (s,a)/\P.info? e=some i/\i.size=s:=by
 unfold tarr at h;cases hd:P.underlying t with
 |none=>simp[hd]at h
 |some d=>
  cases d<;>simp only[hd,reduceCtorEq]at h
  rename_i l e;cases hi:tinf P e with
  |none=>simp[hi]at h
  |some q=>
   obtain⟨s',a'⟩:=q;simp only[hi,sk,Prod.mk.injEq]at h;obtain⟨rfl,rfl,rfl⟩:=h;have hi':=hi;unfold tinf at hi;cases hie:P.info? e with
   |none=>simp[hie]at hi
   |some i=>
    cases hde:P.underlying e with
    |none=>simp[hie,hde]at hi
    |some de=>
     simp only[hie,hde,sk,Prod.mk.injEq]at hi;exact⟨e,i,rfl,hi',hie,hi.1⟩
theorem aV2{P:Program}{w0 X0 H E w nm}(h:Rep w0 X0 H E w){t:TypeId}{z:List Value}{ai:Nat×Nat×Bool}(ht:am4 P t=some z)(hfl:tarr P t=some ai)
  {ps:List (Nat×SV)}{vs:Array (Nat×Value)}(hp:aZ1 w (Xo X0 E H) E ps vs.toList) {y:Yd}(hy:aD9 z ai.2.1 ps=some y):
  ∃u w',(Instr.build t vs).run P w=.ok u w'/\Goes w0 X0 H E w nm y.eff y.val u w':=by
 obtain⟨i,v,h1,h2,h3,h4,h5⟩:=ai4 ht;obtain⟨len,es,ag⟩:=ai;obtain⟨e,ie,q1,q2,q3,q4⟩:=at3 hfl;unfold aD9 at hy;cases hg:aU6 (λi=>some (i*es,es)) z.length (ax5 z) ps with
 |none=>simp[hg]at hy
 |some g=>
  simp only[hg,ac0,sk]at hy;subst hy;obtain⟨cs',c1,c2⟩:=ak0 _ _ _ _ _ _ _ hp (aV9 h3 h5) hg;refine⟨_,w,run_build w t vs cs' ?_,Goes.pure h (aK3 c2)⟩;unfold Program.built;simp only[h1,q1,h2,q3,q4];exact c1
theorem ai8{P:Program}{t:TypeId}{te:TypeId×Nat×Nat}(h:tsl P t=some te):∃i,P.underlying t=some (.slice te.1)/\P.info? te.1=some i/\i.size=te.2.1/\i.bytes=te.2.2:=by
 unfold tsl at h;cases hd:P.underlying t with
 |none=>simp[hd]at h
 |some d=>
  cases d<;>simp only[hd,reduceCtorEq]at h
  rename_i e;cases hi:P.info? e with
  |none=>simp[hi]at h
  |some i=>
   simp only[hi,sk]at h;subst h;exact⟨i,rfl,hi,rfl,rfl⟩
theorem Goes.row{w0 X0 H E w nm len cap n T}{g:Nat->Nat->SV}{cur:Array Value}(h:Rep w0 X0 H E w)(hf:Free H E nm (.new (.row 0 len n g T)))(hlc:len<=cap)(hcm:cap<=maxLen)(hs:cur.size=cap*n)
  {w1:World}(hw1:Below w.heap.size w w1) (hsz:w1.heap.size=w.heap.size)
  (hr:∀i j,i<len->j<n->ab1 (cur.getD (i*n+j) undef)/\R w (Xo X0 E H) E0 (g i j) (cur.getD (i*n+j) undef)):
  Goes w0 X0 H E w nm (.new (.row 0 len n g T)) (.osl nm 0) (.slice (some ⟨w.heap.size,0,none⟩) len cap) (w1.alloc (.cells cur T)):=by
 have hb:Below w.heap.size w (w1.alloc (.cells cur T)):=hw1.alloc (by rw[hsz];exact lh _) _;refine Goes.new (e:= .slc 0 (.slice (some ⟨w.heap.size,0,none⟩) len cap) (λ_=>none)) h hf hb (λb hb'=>?_) (λhke hwi hle=>?_) λX=> .osl (Env.aa8 _ _ _) ⟨_,_,_,rfl⟩
 ·cases cap with
  |zero=>simp[holds,ad7]at hb'
  |succ cap=>
   simp only[holds,ad7,sk]at hb';omega
 ·cases cap with
  |zero=>
   obtain rfl:len=0:=by omega
   exact⟨rfl,[],.inl ⟨_,rfl,rfl,rfl⟩,λi j hi=>absurd hi (ln _)⟩
  |succ cap=>
   have hll:len*n<=(cap+1)*n:=lk _ hlc;refine⟨rfl,_,.inr ⟨w.heap.size,0,cap,cur,rfl,by have:=aj4 w1 (.cells cur T);rwa[hsz]at this,hlc,hcm,by omega,rfl,by rw[xu,xH,lC];omega⟩,λi j hi hj=>?_⟩;rw[ab5 (ab8 hi hj),lI];exact⟨(hr i j hi hj).1,(hr i j hi hj).2.mono hke hwi (Env.le_refl _)⟩
theorem ak4{n k:Nat}{f:Nat->Value}(h:k<n):((Array.range n).map f).getD k undef=f k:=by
 rw[lc,xc,Array.getElem?_range,ll h];rfl
theorem aR0{a:Array Value}{k:Nat}(h:k<a.size):a[k]! = a.getD k undef:=by
 simp[Array.getD,h]
theorem aG7{P:Program}{w0 X0 H E w nm}(h:Rep w0 X0 H E w){t:TypeId}{te:TypeId×Nat×Nat}(ht:tsl P t=some te){z:List Value}(hz:am4 P te.1=some z)
  {kl kc:IntKind}{l c:Int}{y:Yd}(hy:as3 te z nm l c=some y) (hask:y.ask) (hf:Free H E nm y.eff):
  ∃u w',(Instr.makeSlice t (.int kl l) (.int kc c)).run P w=.ok u w'/\Goes w0 X0 H E w nm y.eff y.val u w':=by
 obtain⟨i,q1,q2,q3,q4⟩:=ai8 ht;obtain⟨i',v,h1,h2,h3,h4,h5⟩:=ai4 hz;rw[q2]at h1;cases h1;unfold as3 at hy;obtain⟨⟨hzl,hpos⟩,rfl⟩:=aa0 hy;obtain⟨a1,a2,a3,a4⟩:=hask.out;have hvs:v.cells.size=z.length:=by rw[<-h3,lC]
 refine⟨_,_,run_make w t te.1 i v q1 q2 h2 kl kc l c a1 a2 (by rw[q4];omega) a4,?_⟩;have hsize:i.size=te.2.1:=q3;rw[hsize];refine Goes.row h hf (Int.toNat_le_toNat a2) (by unfold maxLen;omega) (by rw[size_madeCells]) (Below.refl _ _) rfl λi j hi hj=>?_
 have hlt:=ab8 (n:=te.2.1) (show i<c.toNat by have:=Int.toNat_le_toNat a2;omega) hj;unfold madeCells;rw[ak4 hlt,aR0 (xS _ (by omega)),hvs,hzl,Nat.add_comm,Nat.add_mul_mod_self_right,uN hj];have:=h5 j (by omega)
 rw[<-h3,ab9]at this;refine⟨this,?_⟩;unfold b85;rw[<-h3,ab9];exact ah8 _
theorem bt4{n:Nat}{g:Nat->SV}:∀{len i j:Nat},i<len->aP3 n g len i j=g (i*n+j)
 |0,i,j,h=>absurd h (ln _)
 |1,i,j,h=>by
  obtain rfl:i=0:=by omega
  simp[aP3]
 |m+2,i,j,h=>by
  show selS (decide (i=m+1)) (g ((m+1)*n+j)) (aP3 n g (m+1) i j)=_;rw[ae4];by_cases hi:i=m+1
  ·rw[lg hi,hi];rfl
  ·rw[lf hi];exact bt4 (len:=m+1) (by omega)
theorem aD7{P:Program}{w0 X0 H E w nm}(h:Rep w0 X0 H E w){t:TypeId}{te:TypeId×Nat×Nat}(ht:tsl P t=some te){z:List Value}(hz:am4 P te.1=some z)
  {len:Nat}{ps:List (Nat×SV)}{vs:Array (Nat×Value)}(hp:aZ1 w (Xo X0 E H) E ps vs.toList) {y:Yd}(hy:ao2 te z nm len ps=some y) (hf:Free H E nm y.eff):
  ∃u w',(Instr.buildSlice t len vs).run P w=.ok u w'/\Goes w0 X0 H E w nm y.eff y.val u w':=by
 obtain⟨i,q1,q2,q3,q4⟩:=ai8 ht;obtain⟨i',v,h1,h2,h3,h4,h5⟩:=ai4 hz;rw[q2]at h1;cases h1;have hvs:v.cells.size=z.length:=by rw[<-h3,lC]
 unfold ao2 at hy;cases hg:aU6 (λi=>some (i*te.2.1,te.2.1)) (len*te.2.1) (λk=>ax5 z (k%z.length)) ps with
 |none=>simp[hg]at hy
 |some g=>
  simp only[hg]at hy;split at hy
  case isFalse=>
   split at hy
   ·rename_i hblt;unfold a90 at hy;obtain⟨⟨hzl,h1n,hlen1,hlen2⟩,rfl⟩:=aa0 hy;rw[h1n,ux]at hg;rw[h1n]at hzl;have hz0:ay3 w (Xo X0 E H) E len (λk=>ax5 z (k%z.length)) ((Array.range len).map (v.cells[· % v.cells.size]!)):=by
     refine⟨by simp,λk hk=>?_⟩;rw[ak4 hk,aR0 (xS _ (by omega)),hvs];have:=h5 (k%z.length) (xS _ (by omega))
     rw[<-h3,ab9]at this;rw[<-h3]at *
     refine⟨this,?_⟩;show R _ _ _ (ofV (v.cells.toList.getD (k%v.cells.toList.length) undef)) _;rw[ab9];exact ah8 _
    obtain⟨cs',c1,c2⟩:=ak0 _ _ _ _ _ _ _ hp hz0 hg;have hrun:(Instr.buildSlice t len vs).run P w=.ok (.slice (some ⟨w.heap.size,0,none⟩) len len) (w.alloc (.cells cs' te.1)):=by
     have hne':¬ (len=0):=by omega
     have hno':¬ (16777216<len):=by omega
     have q3':i.size=1:=by rw[q3,h1n]
     have c1':=c1;simp only[h1n,ux]at c1';simp only[Instr.buildSlice,run_underlying q1,sizeOf,typeInfo,zeroValue,q2,newRow,q3',h2,c1',hne',hno',ux,Sem.run_bind,Sem.run_pure,rk,run_program,gt_iff_lt,xn,Sem.run_ite,run_newObj_alloc,Nat.reducePow]
    refine⟨_,_,hrun,?_⟩;have hbel:Below w.heap.size w (w.alloc (.cells cs' te.1)):=Below.aT4 w _;exact Goes.world h hbel (.slP (aj4 w _) (λhX=>absurd (h.xlt _ hX) (xt _)) (by rw[c2.1,lI];exact lh _) (lh _) (λi hi=>by rw[lI];exact(c2.2 i hi).1) (λi hi=>by
     rw[lI];exact(c2.2 i hi).2.mono (Rep.keeps hbel) (ab7.refl _ _) (Env.le_refl _)))
   unfold a92 at hy;split at hy
   case h_2=>cases hy
   obtain⟨⟨hzl,hpos,hle,hall⟩,rfl⟩:=aa0 hy;rw[uD]at hg;have hz0:ay3 w (Xo X0 E H) E te.2.1 (λk=>ax5 z (k%z.length)) ((Array.range te.2.1).map (v.cells[· % v.cells.size]!)):=by
    refine⟨by simp,λk hk=>?_⟩;rw[ak4 hk,aR0 (xS _ (by omega)),hvs];have:=h5 (k%z.length) (xS _ (by omega))
    rw[<-h3,ab9]at this;rw[<-h3]at *
    refine⟨this,?_⟩;show R _ _ _ (ofV (v.cells.toList.getD (k%v.cells.toList.length) undef)) _;rw[ab9];exact ah8 _
   obtain⟨cs',c1,c2⟩:=ak0 _ _ _ _ _ _ _ hp hz0 hg;have hrun:(Instr.buildSlice t 1 vs).run P w=.ok (.slice (some ⟨w.heap.size,0,none⟩) 1 1) (w.alloc (.cells cs' te.1)):=by
    have hne':¬ (te.2.1=0):=by omega
    have hno':¬ (16777216<te.2.1):=by omega
    simp only[Instr.buildSlice,run_underlying q1,sizeOf,typeInfo,zeroValue,q2,newRow,q3,h2,c1,hne',hno',uD,Sem.run_bind,Sem.run_pure,rk,run_program,gt_iff_lt,xn,Sem.run_ite,run_newObj_alloc,Nat.reducePow]
   refine⟨_,_,hrun,?_⟩;have hbel:Below w.heap.size w (w.alloc (.cells cs' te.1)):=Below.aT4 w _;refine Goes.new (e:= .slc 0 (.slice (some ⟨w.heap.size,0,none⟩) 1 1) (λ_=>none)) h hf hbel (λb hb=>?_) (λhke hwi hle'=>?_) λX=> .osl (Env.aa8 _ _ _) ⟨_,_,_,rfl⟩
   ·rcases hb with hb|⟨i,hi,hh,hb⟩
    ·simp only[ad7,sk]at hb;omega
    ·cases hb
   ·have hown:ah4 (w.alloc (.cells cs' te.1)) te.1 te.2.1 (.slice (some ⟨w.heap.size,0,none⟩) 1 1) 1 (cs'.toList.take (1*te.2.1)):=
     .inr ⟨_,0,0,cs',rfl,aj4 w _,lh _,by unfold maxLen;omega,by rw[c2.1];omega,rfl,by rw[xu,lC,c2.1];omega⟩
    have hget:∀i j,i<1->j<te.2.1->(cs'.toList.take (1*te.2.1)).getD (i*te.2.1+j) undef=cs'.getD j undef:=λi j hi hj=>by
     obtain rfl:i=0:=by omega
     rw[a48 (by omega),xz,lI]
    refine⟨rfl,_,hpos,hown,λi j hi h0 hj=>?_,λi sv hi hh=>?_,λi hi hh=>?_,λi b hi hh hb=>(nomatch hb),λi i' b hi hi' hh hh' hb=>(nomatch hb)⟩
    ·rw[hget i j hi hj];have hq:=ad1 hall hj;have hpure:ac4 6 (g j)=true:=by
      cases hbq:Nat.beq j 0 with
      |true=>have:=lK hbq;omega
      |false=>rw[hbq]at hq;exact hq
     exact⟨(c2.2 j hj).1,(ae6 6 _ _ hpure (c2.2 j hj).2).mono hke hwi (Env.le_refl _)⟩
    ·have h0:i=0:=by omega
     subst h0;simp only[hoAt,xj,sk]at hh;subst hh;have:=hget 0 0 hi hpos
     rw[lV]at this;rw[this];exact⟨(c2.2 0 hpos).1,(c2.2 0 hpos).2.mono hke hwi hle'⟩
    ·have h0:i=0:=by omega
     subst h0;simp[hoAt]at hh
  rename_i hcond;obtain⟨hzl,hpos,hlen,hle,hall⟩:=hcond;simp only[sk]at hy;subst hy;have fin:∀{cs':Array Value},(Instr.buildSlice t len vs).run P w=.ok (.slice (some ⟨w.heap.size,0,none⟩) len len) (w.alloc (.cells cs' te.1))->ay3 w (Xo X0 E H) E (len*te.2.1) g cs'->
    ∃u w',(Instr.buildSlice t len vs).run P w=.ok u w'/\Goes w0 X0 H E w nm (match Nat.blt 1 len with
     |true=>(⟨True,.sl len te.2.1 (aP3 te.2.1 g len),.keep⟩:Yd)
     |false=>⟨True,.osl nm 0,.new (.row 0 len te.2.1 (aP3 te.2.1 g len) te.1)⟩).eff (match Nat.blt 1 len with
     |true=>(⟨True,.sl len te.2.1 (aP3 te.2.1 g len),.keep⟩:Yd)
     |false=>⟨True,.osl nm 0,.new (.row 0 len te.2.1 (aP3 te.2.1 g len) te.1)⟩).val u w':=by
   intro cs' hrun c2;refine⟨_,_,hrun,?_⟩;have cont:∀i j,i<len->j<te.2.1->ab1 (cs'.getD (i*te.2.1+j) undef)/\R w (Xo X0 E H) E0 (aP3 te.2.1 g len i j) (cs'.getD (i*te.2.1+j) undef):=λi j hi hj=>by
    have hlt:=ab8 (n:=te.2.1) hi hj;rw[bt4 hi];exact⟨(c2.2 _ hlt).1,ae6 6 _ _ (ad1 hall hlt) (c2.2 _ hlt).2⟩
   clear hrun;generalize Nat.blt 1 len=bb at hf⊢;cases bb with
   |false=>
    simp only at hf⊢
    exact Goes.row h hf (lh _) (by unfold maxLen;omega) c2.1 (Below.refl _ _) rfl cont
   |true=>
    simp only
    have hbel:Below w.heap.size w (w.alloc (.cells cs' te.1)):=Below.aT4 w _;refine Goes.world h hbel (.sl (aj4 w _) (λhX=>absurd (h.xlt _ hX) (xt _)) (by rw[c2.1,lI];exact lh _) (lh _) (λi j hi hj=>by rw[lI];exact(cont i j hi hj).1) (λi j hi hj=>by
     rw[lI];exact(cont i j hi hj).2.mono (Rep.keeps hbel) (ab7.refl _ _) (Env.le_refl _)))
  by_cases hlen0:len=0
  ·subst hlen0;have hz0:ay3 w (Xo X0 E H) E (0*te.2.1) (λk=>ax5 z (k%z.length)) (#[]:Array Value):=⟨by simp,λk hk=>by simp at hk⟩
   obtain⟨cs',c1,c2⟩:=ak0 _ _ _ _ _ _ _ hp hz0 hg;refine fin ?_ c2;simp only[Instr.buildSlice,run_underlying q1,sizeOf,typeInfo,q2,newRow,q3,xz,Sem.run_bind,Sem.run_pure,rk,run_program,gt_iff_lt,ln,xn,xj];have hemp:Array.map (λx=>(#[]:Array Value)[x%(#[]:Array Value).size]!) (Array.range 0) = #[]:=uB (by simp);simp only[hemp,c1,Sem.run_bind,Sem.run_pure,rk,run_newObj_alloc]
  have hz0:ay3 w (Xo X0 E H) E (len*te.2.1) (λk=>ax5 z (k%z.length)) ((Array.range (len*te.2.1)).map (v.cells[· % v.cells.size]!)):=by
   refine⟨by simp,λk hk=>?_⟩;rw[ak4 hk,aR0 (xS _ (by omega)),hvs];have:=h5 (k%z.length) (xS _ (by omega))
   rw[<-h3,ab9]at this;rw[<-h3]at *
   refine⟨this,?_⟩;show R _ _ _ (ofV (v.cells.toList.getD (k%v.cells.toList.length) undef)) _;rw[ab9];exact ah8 _
  obtain⟨cs',c1,c2⟩:=ak0 _ _ _ _ _ _ _ hp hz0 hg;have hno:¬ (len*i.size>2 ^ 24):=by rw[q3];omega
  have hrun:(Instr.buildSlice t len vs).run P w=.ok (.slice (some ⟨w.heap.size,0,none⟩) len len) (w.alloc (.cells cs' te.1)):=by
   have hpos2:0<len*te.2.1:=Nat.mul_pos (by omega) hpos;have hne:¬ (len=0\/te.2.1=0):=by omega
   have hne':¬ (len*te.2.1=0):=by omega
   have hno':¬ (16777216<len*te.2.1):=by omega
   simp only[Instr.buildSlice,run_underlying q1,sizeOf,typeInfo,zeroValue,q2,newRow,q3,h2,c1,hne',hno',Sem.run_bind,Sem.run_pure,rk,run_program,gt_iff_lt,xn,Sem.run_ite,run_newObj_alloc,Nat.reducePow]
  exact fin hrun c2
open Go.RowKit
theorem up{w X E sv v}(h:R w X E0 sv v):R w X E sv v:=h.mono (λ_ _ _=>rfl) (ab7.refl _ _) (Env.bk1 E)
theorem bb8{P:Program}{t:TypeId}{f:Nat}{fd:Nat×Nat×Bool}(h:tfld P t f=some fd):
  ∃fs x,P.underlying t=some (.struct fs)/\fs[f]?=some x/\x.offset=fd.1/\tinf P x.type=some (fd.2.1,fd.2.2):=by
 unfold tfld at h;cases hd:P.underlying t with
 |none=>simp[hd]at h
 |some d=>
  cases d<;>simp only[hd,reduceCtorEq]at h
  rename_i fs;cases hf:fs[f]? with
  |none=>simp[hf]at h
  |some x=>
   cases hi:tinf P x.type with
   |none=>simp[hf,hi]at h
   |some q=>
    simp only[hf,hi,sk]at h;subst h;exact⟨fs,x,rfl,hf,rfl,hi⟩
theorem bj8{w X E n g b o m k}(h:R w X E (.ref n g) (.pointer (some ⟨b,o,none⟩)))(hm:m+k<=n):R w X E (.ref k (λj=>g (m+j))) (.pointer (some ⟨b,o+m,none⟩)):=by
 cases h with
 |ref hb hX hc ho hr=>
  refine .ref hb hX (by omega) (λj hj=>?_) λj hj=>?_
  ·have:=ho (m+j) (by omega);rwa[<-xf]at this
  ·have:=hr (m+j) (by omega);rwa[<-xf]at this
theorem aH0{P:Program}{w0 X0 H E w nm}(h:Rep w0 X0 H E w){t:TypeId}{f:Nat}{fd:Nat×Nat×Bool}(ht:tfld P t f=some fd){x:SV}{v:Value}(hx:R w (Xo X0 E H) E x v){y:Yd}
  (hy:ae9 fd x=some y):∃u w',(Instr.fieldAt t v f).run P w=.ok u w'/\Goes w0 X0 H E w nm y.eff y.val u w':=by
 obtain⟨fs,fx,h1,h2,h3,h4⟩:=bb8 ht;have hsz:=(ak7 h4 w).2;have fin:∀{b o:Nat},v=.pointer (some ⟨b,o,none⟩)->fd.2.1≠0->y.eff=.keep->R w (Xo X0 E H) E y.val (.pointer (some ⟨b,o+fd.1,none⟩))->
   ∃u w',(Instr.fieldAt t v f).run P w=.ok u w'/\Goes w0 X0 H E w nm y.eff y.val u w':=by
  intro b o hv hne he hr;subst hv;refine⟨.pointer (some ⟨b,o+fd.1,none⟩),w,?_,?_⟩
  ·simp only[Instr.fieldAt,Sem.run_bind,run_underlying h1,rk,h2,Instr.sureAddr,Sem.run_pure,fieldPlace,hsz,hne,xn,ad9,h3]
  ·rw[he];exact Goes.pure h hr
 cases hx with
 |own he=>
  simp only[ae9]at hy;split at hy
  ·cases hy
  ·cases hy;exact fin rfl ‹_› rfl (.own he)
 |ref hb hX hc ho hr=>
  simp only[ae9]at hy;split at hy
  ·cases hy
  ·rename_i hne;cases hy;exact fin rfl (by omega) rfl (bj8 (.ref hb hX hc ho hr) (by omega))
 |ownAt he=>
  simp only[ae9]at hy;split at hy
  ·cases hy
  ·cases hy;refine fin rfl ‹_› rfl ?_;rw[xf];exact .ownAt he
 |ownAtOld he hl hv=>
  obtain⟨b,o,rfl⟩:=hv;simp only[ae9]at hy;split at hy
  ·cases hy
  ·cases hy;exact fin rfl ‹_› rfl (.ownAtOld he hl ⟨_,_,rfl⟩)
 |_=>simp[ae9]at hy
theorem aD3{P:Program}{w0 X0 H E w nm}(h:Rep w0 X0 H E w){t:TypeId}{te:TypeId×Nat×Nat}(ht:tsl P t=some te){x:SV}{v:Value}(hx:R w (Xo X0 E H) E x v){k:IntKind}{i:Int}{y:Yd}
  (hy:ac2 te.2.1 H i x=some y) (hask:y.ask):∃u w',(Instr.indexAt t v (.int k i)).run P w=.ok u w'/\Goes w0 X0 H E w nm y.eff y.val u w':=by
 obtain⟨ti,h1,h2,h3,h4⟩:=ai8 ht;have hsz:(sizeOf te.1).run P w=.ok te.2.1 w:=by simp[sizeOf,typeInfo,h2,h3]
 have fin:∀{b o len cap:Nat},v=.slice (some ⟨b,o,none⟩) len cap->aj9 i len->y.eff=.keep->R w (Xo X0 E H) E y.val (.pointer (some ⟨b,o+i.toNat*te.2.1,none⟩))->
   ∃u w',(Instr.indexAt t v (.int k i)).run P w=.ok u w'/\Goes w0 X0 H E w nm y.eff y.val u w':=by
  intro b o len cap hv hin he hr;subst hv;refine⟨.pointer (some ⟨b,o+i.toNat*te.2.1,none⟩),w,?_,?_⟩
  ·simp only[Instr.indexAt,asIntOf,Sem.run_bind,Sem.run_pure,run_underlying h1,rk,hsz,ad9,Sem.run_ite,ll (show 0<=i/\i<(len:Int)from hin)]
  ·rw[he];exact Goes.pure h hr
 have onSl:∀{E':Env}{len n:Nat}{g:Nat->Nat->SV},R w (Xo X0 E H) E' (.sl len n g) v->n=te.2.1->y=⟨Aq (aj9 i len),.ref n (g i.toNat),.keep⟩->
   ∃u w',(Instr.indexAt t v (.int k i)).run P w=.ok u w'/\Goes w0 X0 H E w nm y.eff y.val u w':=by
  intro E' len n g hr hn hyy;subst hyy;have hin:aj9 i len:=hask.out;have hlt:i.toNat<len:=by have:=hin.1;have:=hin.2;omega
  cases hr with
  |sl0=>omega
  |sl hb hX hc hl ho hr=>
   rename_i b o cap c T fr;subst hn;refine fin rfl hin rfl ?_;have hle:(i.toNat+1)*te.2.1<=len*te.2.1:=lk _ hlt;rw[lL]at hle;exact .ref hb hX (by omega) (λj hj=>ho _ _ hlt hj) λj hj=>hr _ _ hlt hj
 cases hx with
 |sl0=>
  simp only[ac2]at hy;obtain⟨hn,rfl⟩:=aa0 hy;have:=hask.out.1
  have:=hask.out.2
  omega
 |sl hb hX hc hl ho hr=>
  simp only[ac2]at hy;obtain⟨hn,rfl⟩:=aa0 hy;exact onSl (.sl (E:=E0) hb hX hc hl ho hr) hn rfl
 |slP hb hX hc hl ho hr=>
  rename_i n g b o cap c T fr;simp only[ac2]at hy;obtain⟨hn,rfl⟩:=aa0 hy;have hin:aj9 i n:=hask.out;have hlt:i.toNat<n:=by have:=hin.1;have:=hin.2;omega
  refine fin rfl hin rfl ?_;rw[hn,ux];exact .refP hb hX (by omega) (ho _ hlt) (hr _ hlt)
 |osl he hv=>
  rename_i k' ver us;have hok:=h.ok k' _ he;simp only[ac2]at hy;generalize H.getD k' .dead=so at hy hok;cases so<;>simp only[reduceCtorEq]at hy
  ·rename_i ver' len n g T;obtain⟨⟨rfl,hn⟩,rfl⟩:=aa0 hy;obtain⟨_,xs,h5,_⟩:=hok;have hin:aj9 i len:=hask.out;rcases h5 with⟨a,rfl,rfl,rfl⟩|⟨b',oo,cap',cur,rfl,c1,c2,c3,c4,c5,c6⟩
   ·have:=hin.1;have:=hin.2;omega
   ·refine fin rfl hin rfl ?_;rw[<-hn];exact .ownAt (off:=0) he
  ·rename_i ver' len n g;obtain⟨⟨rfl,hn⟩,rfl⟩:=aa0 hy;exact onSl hok.2 hn rfl
  ·rename_i ver' len n c mm p g T T' ho;obtain⟨⟨rfl,hn⟩,rfl⟩:=aa0 hy;obtain⟨_,xs,d⟩:=hok;have hin:aj9 i len:=hask.out;rcases d.own with⟨a,rfl,rfl,rfl⟩|⟨b',oo,cap',cur,rfl,c1,c2,c3,c4,c5,c6⟩
   ·have:=hin.1;have:=hin.2;omega
   ·refine fin rfl hin rfl ?_;rw[<-hn];exact .ownAt (off:=0) he
 |oslOld he hl hv=>
  rename_i k' ver ver' v' us;have hok:=h.ok k' _ he;simp only[ac2]at hy;generalize H.getD k' .dead=so at hy hok;cases so<;>simp only[reduceCtorEq]at hy
  ·obtain⟨⟨rfl,hn⟩,rfl⟩:=aa0 hy;have:=hok.1
   omega
  ·obtain⟨⟨rfl,hn⟩,rfl⟩:=aa0 hy;have:=hok.1
   omega
  ·obtain⟨⟨rfl,hn⟩,rfl⟩:=aa0 hy;have:=hok.1
   omega
 |win he hl ha h0=>
  rename_i k' ver m lo l a a0 len0 cap0 us;have hok:=h.ok k' _ he;simp only[ac2]at hy;generalize H.getD k' .dead=so at hy hok;cases so<;>simp only[reduceCtorEq]at hy
  rename_i ver' len n g T;obtain⟨⟨⟨rfl,rfl⟩,hn⟩,rfl⟩:=aa0 hy;obtain⟨_,xs,h5,_⟩:=hok;have hin:aj9 i l:=hask.out;have hl0:l≠0:=by have:=hin.1;have:=hin.2;omega
  rcases h5 with⟨a',hv',rfl,rfl⟩|⟨b',oo,cap',cur,hv',c1,c2,c3,c4,c5,c6⟩
  ·cases hv';omega
  ·cases hv';have hadd:a=some ⟨b',oo+lo*m,none⟩:=by rw[ha (by omega),lD];exact congrArg some (ad9 b' oo _)
   subst hadd;refine fin rfl hin rfl ?_;rw[<-hn,xf,<-lL];exact .ownAt (off:=0) he
 |winOld he hl hv=>
  rename_i k' ver ver' v' m lo l us;have hok:=h.ok k' _ he;simp only[ac2]at hy;generalize H.getD k' .dead=so at hy hok;cases so<;>simp only[reduceCtorEq]at hy
  obtain⟨⟨⟨rfl,rfl⟩,hn⟩,rfl⟩:=aa0 hy;have:=hok.1
  omega
 |_=>simp[ac2]at hy
theorem aD4{P:Program}{w0 X0 H E w nm}(h:Rep w0 X0 H E w){t:TypeId}{ai:Nat×Nat×Bool}(ht:tarr P t=some ai){x:SV}{v:Value}(hx:R w (Xo X0 E H) E x v){k:IntKind}{i:Int}{y:Yd}
  (hy:ae3 ai.1 ai.2.1 i x=some y) (hask:y.ask):∃u w',(Instr.indexAt t v (.int k i)).run P w=.ok u w'/\Goes w0 X0 H E w nm y.eff y.val u w':=by
 obtain⟨len,es,ag⟩:=ai;obtain⟨e,ti,h1,h2,h3,h4⟩:=at3 ht;have hsz:(sizeOf e).run P w=.ok es w:=(ak7 h2 w).2;have fin:∀{b o:Nat},v=.pointer (some ⟨b,o,none⟩)->aj9 i len->y.eff=.keep->R w (Xo X0 E H) E y.val (.pointer (some ⟨b,o+i.toNat*es,none⟩))->
   ∃u w',(Instr.indexAt t v (.int k i)).run P w=.ok u w'/\Goes w0 X0 H E w nm y.eff y.val u w':=by
  intro b o hv hin he hr;subst hv;refine⟨.pointer (some ⟨b,o+i.toNat*es,none⟩),w,?_,?_⟩
  ·simp only[Instr.indexAt,asIntOf,Sem.run_bind,Sem.run_pure,run_underlying h1,rk,Instr.sureAddr,hsz,ad9,Sem.run_ite,ll (show 0<=i/\i<(len:Int)from hin)]
  ·rw[he];exact Goes.pure h hr
 cases hx with
 |own he=>
  simp only[ae3,sk]at hy;subst hy;exact fin rfl hask.out rfl (.own he)
 |ref hb hX hc ho hr=>
  rename_i n g b o c T fr;simp only[ae3]at hy;obtain⟨hle,rfl⟩:=aa0 hy;have hin:aj9 i len:=hask.out;have hlt:i.toNat<len:=by have:=hin.1;have:=hin.2;omega
  have hle2:(i.toNat+1)*es<=len*es:=lk _ hlt;rw[lL]at hle2;exact fin rfl hin rfl (bj8 (.ref hb hX hc ho hr) (by omega))
 |ownAt he=>
  simp only[ae3,sk]at hy;subst hy;refine fin rfl hask.out rfl ?_;rw[xf];exact .ownAt he
 |ownAtOld he hl hv=>
  obtain⟨b,o,rfl⟩:=hv;simp only[ae3,sk]at hy;subst hy;exact fin rfl hask.out rfl (.ownAtOld he hl ⟨_,_,rfl⟩)
 |_=>simp[ae3]at hy
theorem a18{P:Program}{w X E}{t:TypeId}{ti:Nat×Bool}(ht:tinf P t=some ti){n off:Nat}{g:Nat->SV}{cs:Array Value}{s:SV}(hs:cs.size=n)
  (ho:∀i<n,ab1 (cs.getD i undef)) (h:∀i<n,R w X E (g i) (cs.getD i undef)) (hl:ld ti n g off=some s):
  ∃v,(Go.part t cs off).run P w=.ok v w/\R w X E s v:=by
 obtain⟨m,a⟩:=ti;obtain⟨h1,h2⟩:=ak7 ht w;cases a with
 |true=>
  simp only[ld,xj]at hl;obtain⟨hle,rfl⟩:=aa0 hl;have hg:∀i<m,(cs.extract off (off+m)).getD i undef=cs.getD (off+i) undef:=λi hi=>by
   rw[lc,Array.getElem?_extract,ll (by omega),lc]
  refine⟨.agg (cs.extract off (off+m)),by simp[Go.part,h1,h2],.agg (by rw[Array.size_extract];omega) (λi hi=>?_) λi hi=>?_⟩
  ·rw[hg i hi];exact ho _ (by omega)
  ·rw[hg i hi];exact h _ (by omega)
 |false=>
  simp only[ld,lH,xn]at hl;obtain⟨hle,rfl⟩:=aa0 hl;refine⟨cs.getD off undef,?_,h _ hle⟩;have:cs[off]?=some (cs.getD off undef):=by rw[lc,lF (by omega)];rfl
  simp only[Go.part,Sem.run_bind,h1,rk,this,lH,xn,Sem.run_pure]
theorem bb6{P:Program}{t:TypeId}(h:tstr P t=true):P.underlying t=some .string:=by
 unfold tstr at h;split at h
 ·assumption
 ·cases h
theorem aV0{P:Program}{w0 X0 H E w nm}(h:Rep w0 X0 H E w){t:TypeId}(ht:tstr P t=true){x:SV}{v:Value}(hx:R w (Xo X0 E H) E x v){k:IntKind}{i:Int}{y:Yd}
  (hy:ax0 i x=some y) (hask:y.ask):∃u w',(Instr.index t v (.int k i)).run P w=.ok u w'/\Goes w0 X0 H E w nm y.eff y.val u w':=by
 have hu:=bb6 ht;cases hx with
 |str=>
  rename_i s;simp only[ax0,sk]at hy;subst hy;have hin:aj9 i s.size:=hask.out;have hlt:i.toNat<s.size:=by have:=hin.1;have:=hin.2;omega
  refine⟨.int .u8 (bR9 s i.toNat),w,?_,Goes.pure h .int⟩;rw[run_index_string w t s k i hu,dif_pos ⟨hin.1,hin.2⟩];have e:s.data.getD i.toNat 0=s[i.toNat]'hlt:=by
   show s.data.getD i.toNat 0=s.data[i.toNat]'hlt;rw[lc,lF hlt];rfl
  unfold bR9;rw[e]
 |_=>simp[ax0]at hy
theorem a81{P:Program}{w0 X0 H E w nm}(h:Rep w0 X0 H E w){t:TypeId}{ai:Nat×Nat×Bool}(ht:tarr P t=some ai){x:SV}{v:Value}(hx:R w (Xo X0 E H) E x v){k:IntKind}{i:Int}{y:Yd}
  (hy:aR7 ai i x=some y) (hask:y.ask):∃u w',(Instr.index t v (.int k i)).run P w=.ok u w'/\Goes w0 X0 H E w nm y.eff y.val u w':=by
 obtain⟨len,es,ag⟩:=ai;obtain⟨e,ti,h1,h2,h3,h4⟩:=at3 ht;have hsz:(sizeOf e).run P w=.ok es w:=(ak7 h2 w).2;cases hx with
 |agg hs ho hr=>
  rename_i n g vs;have hy0:(if n=len*es then(if ag=true then some (Yd.mk (Aq (aj9 i len)) (.agg es (λj=>g (i.toNat*es+j))) .keep)else if es=1 then some ⟨Aq (aj9 i len),g i.toNat,.keep⟩else none)else none)=some y:=hy;clear hy;by_cases hn:n=len*es
  case neg=>rw[lu hn]at hy0;cases hy0
  rw[ll hn]at hy0;have key:∀s,aj9 i len->ld (es,ag) n g (i.toNat*es)=some s->∃u w',(Instr.index t (.agg vs) (.int k i)).run P w=.ok u w'/\Goes w0 X0 H E w nm .keep s u w':=by
   intro s hin hl;obtain⟨u,hu,hr'⟩:=a18 (P:=P) h2 hs ho hr hl;refine⟨u,w,?_,Goes.pure h hr'⟩;simp only[Instr.index,asIntOf,Sem.run_bind,Sem.run_pure,run_underlying h1,rk,Sem.run_ite,ll (show 0<=i/\i<(len:Int)from hin),hsz,hu]
  by_cases hag:ag=true
  ·rw[ll hag]at hy0;subst hag;cases hy0;have hin:aj9 i len:=hask.out;have hlt:i.toNat<len:=by have:=hin.1;have:=hin.2;omega
   have hle2:(i.toNat+1)*es<=len*es:=lk _ hlt;rw[lL]at hle2;exact key _ hin (by simp only[ld,xj];rw[ll (by omega)])
  ·rw[lu hag]at hy0;obtain⟨hes,rfl⟩:=aa0 hy0;have hin:aj9 i len:=hask.out;have hlt:i.toNat<len:=by have:=hin.1;have:=hin.2;omega
   subst hes;have:ag=false:=by simpa using hag
   subst this;exact key _ hin (by simp only[ld,lH,xn,ux];rw[ll (by omega)])
 |_=>simp[aR7]at hy
theorem a83{P:Program}{w0 X0 H E w nm}(h:Rep w0 X0 H E w){t:TypeId}{f:Nat}{fd:Nat×Nat×Bool}(ht:tfld P t f=some fd){x:SV}{v:Value}(hx:R w (Xo X0 E H) E x v){y:Yd}
  (hy:aH1 fd x=some y):∃u w',(Instr.field t v f).run P w=.ok u w'/\Goes w0 X0 H E w nm y.eff y.val u w':=by
 obtain⟨fs,fx,h1,h2,h3,h4⟩:=bb8 ht;cases hx with
 |agg hs ho hr=>
  rename_i n g vs;simp only[aH1]at hy;cases hl:ld (fd.2.1,fd.2.2) n g fd.1 with
  |none=>simp[hl]at hy
  |some s=>
   simp only[hl,lD,sk]at hy;subst hy;obtain⟨u,hu,hr'⟩:=a18 (P:=P) h4 hs ho hr hl;refine⟨u,w,?_,Goes.pure h hr'⟩;simp only[Instr.field,Sem.run_bind,run_underlying h1,rk,h2,asAgg,Sem.run_pure,h3,hu]
 |_=>simp[aH1]at hy
theorem aR9{P:Program}{w0 X0 H E w nm}(h:Rep w0 X0 H E w){i:Nat}{x:SV}{v:Value}(hx:R w (Xo X0 E H) E x v){y:Yd}
  (hy:aq1 i x=some y):∃u w',(Instr.extract v i).run P w=.ok u w'/\Goes w0 X0 H E w nm y.eff y.val u w':=by
 cases hx with
 |tup hs hr=>
  rename_i n g vs;simp only[aq1]at hy;obtain⟨hlt,rfl⟩:=aa0 hy;have:vs[i]?=some (vs.getD i undef):=by rw[lc,lF (by omega)];rfl
  exact⟨_,w,by simp only[Instr.extract,this,Sem.run_pure],Goes.pure h (hr i hlt)⟩
 |_=>simp[aq1]at hy
theorem aq8{k:IntKind}{n:Int}(h:inK k n):k.wrap n=fitK k n:=by
 cases k<;>first|rfl|exact IntWalk.i64_in n h
theorem beq_eq_decide(a b:Int):(a==b)=decide (a=b):=by by_cases h:a=b<;>simp[h]
theorem ba7(a b:Int):(a !=b)=decide (a≠b):=by by_cases h:a=b<;>simp[h]
def EqOK(P:Program)(t:TypeId)(n:List CK):Prop:=∀(w:World)(X:Nat->Prop)(E:Env)(g f:Nat->SV)(xs ys:Array Value)(b:Bool),xs.size=n.length->ys.size=n.length->af3 g f n 0=some b->
 (∀i<n.length,R w X E (g i) (xs.getD i undef))->(∀i<n.length,R w X E (f i) (ys.getD i undef))->
 ∀x y,(eqGuard .eql t x y (.agg xs) (.agg ys)).run P w=.ok () w/\(eqGuard .neq t x y (.agg xs) (.agg ys)).run P w=.ok () w/\(Op.equalIn 10000 t (.agg xs) (.agg ys)).run P w=.ok b w
theorem an0{P:Program}{w0 X0 H E w nm}(h:Rep w0 X0 H E w){op:BinOp}{t:TypeId}{xo yo:Operand}{v u:Value}{b:Bool}{y:Yd}(hy:aD5 op b=some y)
  (g1:(eqGuard .eql t xo yo v u).run P w=.ok () w) (g2:(eqGuard .neq t xo yo v u).run P w=.ok () w)
  (e1:(binOp .eql t v u).run P w=.ok (.bool b) w) (e2:(binOp .neq t v u).run P w=.ok (.bool !b) w):
  ∃r w',(do eqGuard op t xo yo v u;binOp op t v u:Sem Value).run P w=.ok r w'/\Goes w0 X0 H E w nm y.eff y.val r w':=by
 cases op<;>simp only[aD5,ac0,sk,reduceCtorEq]at hy<;>subst hy
 ·exact⟨_,w,by simp only[Sem.run_bind,g1,rk,e1],Goes.pure h .bool⟩
 ·exact⟨_,w,by simp only[Sem.run_bind,g2,rk,e2],Goes.pure h .bool⟩
theorem aV5{P:Program}(w:World)(d:Nat)(t:TypeId){a b c}(h:P.underlying t=some (.func a b c))(f:Fn)(x y:Array Value):(Op.equalIn (d+1) t (.func f x y) .nilFunc).run P w=.ok false w:=by
 simp only[Op.equalIn,Sem.run_bind,run_underlying h,rk,Sem.run_pure]
theorem a97{P:Program}(w:World)(d:Nat)(t:TypeId){a b c}(h:P.underlying t=some (.func a b c)):(Op.equalIn (d+1) t .nilFunc .nilFunc).run P w=.ok true w:=by
 simp only[Op.equalIn,Sem.run_bind,run_underlying h,rk,Sem.run_pure]
theorem aK2{P:Program}(w:World)(t:TypeId){a b c}(h:P.underlying t=some (.func a b c))(f:Fn)(x y:Array Value):
  (binOp .eql t (.func f x y) .nilFunc).run P w=.ok (.bool false) w/\(binOp .neq t (.func f x y) .nilFunc).run P w=.ok (.bool !false) w:=by
 constructor<;>simp only[binOp]<;>simp[Op.equal,Op.maxDepth,aV5 w 9999 t h]
theorem aS9{P:Program}(w:World)(t:TypeId){a b c}(h:P.underlying t=some (.func a b c)):
  (binOp .eql t .nilFunc .nilFunc).run P w=.ok (.bool true) w/\(binOp .neq t .nilFunc .nilFunc).run P w=.ok (.bool !true) w:=by
 constructor<;>simp only[binOp]<;>simp[Op.equal,Op.maxDepth,a97 w 9999 t h]
theorem aH5{w X E s b v}(hs:asB s=some b)(h:R w X E s v):v=.bool b:=by
 cases h<;>simp only[asB,sk,reduceCtorEq]at hs
 ·subst hs;rfl
 ·subst hs;rfl
theorem bh0:∀{eqs:List (TypeId×List CK)}{t:TypeId}{ks:List CK},bC4 eqs t=some ks->(t,ks)∈eqs
 | [],t,ks,h=>by cases h
 |(u,l)::r,t,ks,h=>by
  simp only[bC4]at h;split at h
  ·rename_i hu;cases h;subst hu;exact lP
  ·exact lS _ (bh0 h)
theorem bQ2{P:Program}{w0 X0 H E w nm}(h:Rep w0 X0 H E w){op:BinOp}{eqs:List (TypeId×List CK)}(heqs:∀t n,(t,n)∈eqs->EqOK P t n)
  {t:TypeId}{xo yo:Operand}{x z:SV}{v u:Value}(hx:R w (Xo X0 E H) E x v) (hz:R w (Xo X0 E H) E z u) {y:Yd}
  (hy:ev2 op eqs (bk5 P t) (aT7 P t) t x z=some y) (hask:y.ask):∃r w',(do eqGuard op t xo yo v u;binOp op t v u:Sem Value).run P w=.ok r w'/\Goes w0 X0 H E w nm y.eff y.val r w':=by
 have bools:∀{a:Bool}{s:SV},asB s=some a->v=.bool a->(ev2 op eqs (bk5 P t) (aT7 P t) t s z=match asB s,asB z with|some a,some b=>if bk5 P t=true then aD5 op (a==b)else none|_,_=>none)->ev2 op eqs (bk5 P t) (aT7 P t) t s z=some y->
   ∃r w',(do eqGuard op t xo yo v u;binOp op t v u:Sem Value).run P w=.ok r w'/\Goes w0 X0 H E w nm y.eff y.val r w':=by
  intro a s ha hv heq hy;subst hv;rw[heq,ha]at hy;cases hb:asB z with
  |none=>rw[hb]at hy;cases hy
  |some b=>
   rw[hb]at hy;have hu:=aH5 hb hz;subst hu;by_cases hbb:bk5 P t=true
   ·simp only[ll hbb]at hy;have hu:P.underlying t=some .bool:=by
     unfold bk5 at hbb;split at hbb
     ·assumption
     ·cases hbb
    exact an0 h hy (by rw[eqGuard_at_bool];rfl) (by rw[eqGuard_at_bool];rfl) (run_eql_bool w t a b hu) (run_neq_bool w t a b hu)
   ·simp only[lu hbb]at hy;cases hy
 cases hx with
 |int=>
  rename_i k a;cases hz with
  |int=>
   rename_i k' b;have hy0:(if isSh op=true then shI op k a b else if k=k' then binI op k a b else none)=some y:=hy;clear hy;by_cases hsh:isSh op=true
   ·rw[ll hsh]at hy0;cases op<;>simp only[isSh,lH]at hsh
    ·simp only[shI,sk]at hy0;subst hy0;obtain⟨⟨a1,a2⟩,a3⟩:=hask.out;refine⟨_,w,?_,Goes.pure h .int⟩;simp only[eqGuard_at_int,Sem.run_bind,Sem.run_pure,rk,binOp_shl,shift_shl k k' a b a1 a2,aq8 a3]
    ·simp only[shI,sk]at hy0;subst hy0;obtain⟨a1,a2⟩:=hask.out;refine⟨_,w,?_,Goes.pure h .int⟩;simp only[eqGuard_at_int,Sem.run_bind,Sem.run_pure,rk,binOp_shr,shift_shr k k' a b a1 a2]
   ·rw[lu hsh]at hy0;by_cases hk:k=k'
    ·rw[ll hk]at hy0;subst hk;have go:∀{sv:SV}{r:Value},y.eff=.keep->y.val=sv->(binOp op t (.int k a) (.int k b)).run P w=.ok r w->R w (Xo X0 E H) E sv r->
       ∃r w',(do eqGuard op t xo yo (.int k a) (.int k b);binOp op t (.int k a) (.int k b):Sem Value).run P w=.ok r w'/\Goes w0 X0 H E w nm y.eff y.val r w':=by
      intro sv r he hv hr hR;rw[he,hv];exact⟨r,w,by simp only[eqGuard_at_int,Sem.run_bind,Sem.run_pure,rk,hr],Goes.pure h hR⟩
     cases op<;>simp only[binI,ac0,sk,reduceCtorEq]at hy0<;>(try(exact absurd rfl hsh))<;>subst hy0
     ·exact go rfl rfl (by rw[binOp_add];simp only[Op.intArith,Sem.run_pure,aq8 hask.out]) .int
     ·exact go rfl rfl (by rw[binOp_sub];simp only[Op.intArith,Sem.run_pure,aq8 hask.out]) .int
     ·exact go rfl rfl (by rw[binOp_mul];simp only[Op.intArith,Sem.run_pure,aq8 hask.out]) .int
     ·exact go rfl rfl (by rw[binOp_quo];simp only[Op.intDiv,lu hask.out.1,Sem.run_pure,aq8 hask.out.2]) .int
     ·exact go rfl rfl (by rw[binOp_rem];have hne:b≠0:=hask.out;simp only[Op.intDiv,lu hne,Sem.run_pure]) .int
     ·exact go rfl rfl (by rw[binOp_and,intBits_and];rfl) .int
     ·exact go rfl rfl (by rw[binOp_or,intBits_or];rfl) .int
     ·exact go rfl rfl (by rw[binOp_xor,intBits_xor];rfl) .int
     ·exact go rfl rfl (by rw[binOp_andNot,intBits_andNot];rfl) .int
     ·exact go rfl rfl (by rw[binOp_eql];rfl) (by rw[beq_eq_decide];exact .bool)
     ·exact go rfl rfl (by rw[binOp_neq];rfl) (by rw[ba7];exact .bool)
     ·exact go rfl rfl (by rw[binOp_lss];rfl) .bool
     ·exact go rfl rfl (by rw[binOp_leq];rfl) .bool
     ·exact go rfl rfl (by rw[binOp_gtr];rfl) .bool
     ·exact go rfl rfl (by rw[binOp_geq];rfl) .bool
    ·rw[lu hk]at hy0;cases hy0
  |_=>simp[ev2,asB]at hy
 |bool=>
  rename_i a;exact bools (s:= .bool a) rfl rfl rfl hy
 |lit=>
  rename_i a;exact bools (s:= .lit a) rfl rfl rfl hy
 |str=>
  rename_i a;cases hz with
  |str=>
   rename_i b;have hy0:aD5 op (a.toList==b.toList)=some y:=hy;exact an0 h hy0 (by rw[eqGuard_at_string];rfl) (by rw[eqGuard_at_string];rfl) (by rw[binOp_string_eql];rfl) (by rw[binOp_string_neq];rfl)
  |_=>simp[ev2,asB]at hy
 |fn hs hr=>
  rename_i f n g vs;cases hz with
  |nilfn=>
   have hy0:(if aT7 P t=true then aD5 op false else none)=some y:=hy;by_cases hb:aT7 P t=true
   ·rw[ll hb]at hy0;have hu:∃a b c,P.underlying t=some (.func a b c):=by
     unfold aT7 at hb;split at hb
     ·exact⟨_,_,_,by assumption⟩
     ·cases hb
    obtain⟨a,b,c,hu⟩:=hu;exact an0 h hy0 (by rw[eqGuard_at_func];rfl) (by rw[eqGuard_at_func];rfl) (aK2 w t hu _ _ _).1 (aK2 w t hu _ _ _).2
   ·rw[lu hb]at hy0;cases hy0
  |_=>simp[ev2,asB]at hy
 |nilfn=>
  cases hz with
  |nilfn=>
   have hy0:(if aT7 P t=true then aD5 op true else none)=some y:=hy;by_cases hb:aT7 P t=true
   ·rw[ll hb]at hy0;have hu:∃a b c,P.underlying t=some (.func a b c):=by
     unfold aT7 at hb;split at hb
     ·exact⟨_,_,_,by assumption⟩
     ·cases hb
    obtain⟨a,b,c,hu⟩:=hu;exact an0 h hy0 (by rw[eqGuard_at_nilFunc];rfl) (by rw[eqGuard_at_nilFunc];rfl) (aS9 w t hu).1 (aS9 w t hu).2
   ·rw[lu hb]at hy0;cases hy0
  |_=>simp[ev2,asB]at hy
 |agg hs ho hr=>
  rename_i n g vs;cases hz with
  |agg hs' ho' hr'=>
   rename_i m f us;have hy0:(match bC4 eqs t with
    |some ks=>if n=ks.length/\m=n then match af3 g f ks 0 with|some b=>aD5 op b|none=>none else none
    |none=>none)=some y:=hy
   cases hfe:bC4 eqs t with
   |none=>rw[hfe]at hy0;cases hy0
   |some ks=>
    rw[hfe]at hy0;simp only at hy0
    by_cases hc:n=ks.length/\m=n
    ·rw[ll hc]at hy0;obtain⟨rfl,rfl⟩:=hc;cases hq:af3 g f ks 0 with
     |none=>rw[hq]at hy0;cases hy0
     |some b=>
      rw[hq]at hy0;obtain⟨g1,g2,g3⟩:=heqs t ks (bh0 hfe) w _ E g f vs us b hs hs' hq hr hr' xo yo;exact an0 h hy0 g1 g2 (by rw[run_eql_struct,g3];rfl) (by rw[run_neq_struct,g3];rfl)
    ·rw[lu hc]at hy0;cases hy0
  |_=>simp[ev2,asB]at hy
 |_=>simp[ev2,asB]at hy
theorem bh3{P:Program}{w0 X0 H E w nm}(h:Rep w0 X0 H E w){op:BinOp}{t:TypeId}{te:TypeId×Nat×Nat}(ht:tsl P t=some te){xo yo:Operand}{x:SV}{v:Value}{n c:Nat}(hx:R w (Xo X0 E H) E x v){y:Yd}
  (hy:aR4 op x=some y):∃r w',(do eqGuard op t xo yo v (.slice none n c);binOp op t v (.slice none n c):Sem Value).run P w=.ok r w'/\Goes w0 X0 H E w nm y.eff y.val r w':=by
 obtain⟨ti,h1,_⟩:=ai8 ht;have key:∀{a:Option Addr}{m k:Nat}{b:Bool},a.isNone=b->(op=.eql/\y=⟨True,.lit b,.keep⟩\/op=.neq/\y=⟨True,.lit (!b),.keep⟩)->v=.slice a m k->
   ∃r w',(do eqGuard op t xo yo v (.slice none n c);binOp op t v (.slice none n c):Sem Value).run P w=.ok r w'/\Goes w0 X0 H E w nm y.eff y.val r w':=by
  rintro a m k b hb (⟨rfl,rfl⟩|⟨rfl,rfl⟩) rfl
  ·refine⟨.bool b,w,?_,Goes.pure h .lit⟩;simp[eqGuard,binOp,Op.equal,Op.maxDepth,Lib.run_equalIn_slice_nil w 9999 t te.1 a m k n c h1,hb]
  ·refine⟨.bool (!b),w,?_,Goes.pure h .lit⟩;simp[eqGuard,binOp,Op.equal,Op.maxDepth,Lib.run_equalIn_slice_nil w 9999 t te.1 a m k n c h1,hb]
 cases hx with
 |nilsl=>cases op<;>simp only[aR4,ac0,reduceCtorEq,sk]at hy<;>subst hy<;>first|exact key (b:=true) rfl (.inl ⟨rfl,rfl⟩) rfl|exact key (b:=true) rfl (.inr ⟨rfl,rfl⟩) rfl
 |slN hr=>cases op<;>simp only[aR4,ac0,reduceCtorEq,sk]at hy<;>subst hy<;>first|exact key (b:=false) rfl (.inl ⟨rfl,rfl⟩) rfl|exact key (b:=false) rfl (.inr ⟨rfl,rfl⟩) rfl
 |_=>cases op<;>simp[aR4]at hy
theorem bQ4{P:Program}{w0 X0 H E w nm}(h:Rep w0 X0 H E w){op:UnOp}{x:SV}{v:Value}(hx:R w (Xo X0 E H) E x v){y:Yd}(hy:ev1 op x=some y)(hask:y.ask):
  ∃r w',(Op.unary op v).run P w=.ok r w'/\Goes w0 X0 H E w nm y.eff y.val r w':=by
 cases hx with
 |int=>
  rename_i k n;cases op<;>simp only[ev1,reduceCtorEq,sk]at hy
  subst hy;exact⟨_,w,by simp only[Op.unary,Op.intArith,Sem.run_pure,aq8 hask.out],Goes.pure h .int⟩
 |bool=>
  cases op<;>simp only[ev1,ac0,reduceCtorEq,sk]at hy
  subst hy;exact⟨_,w,by simp only[Op.unary,Sem.run_pure],Goes.pure h .bool⟩
 |lit=>
  cases op<;>simp only[ev1,ac0,reduceCtorEq,sk]at hy
  subst hy;exact⟨_,w,by simp only[Op.unary,Sem.run_pure],Goes.pure h .lit⟩
 |_=>cases op<;>simp[ev1]at hy
theorem aS0{P:Program}{w0 X0 H E w nm}(h:Rep w0 X0 H E w){src dst:TypeId}{k:IntKind}(hs:tint P src≠none)(hd:tint P dst=some k){x:SV}{v:Value}(hx:R w (Xo X0 E H) E x v){y:Yd}
  (hy:aq2 k x=some y) (hask:y.ask):∃r w',(convert src dst v).run P w=.ok r w'/\Goes w0 X0 H E w nm y.eff y.val r w':=by
 have hds:P.underlying dst=some (.int k):=by
  unfold tint at hd;split at hd
  ·rename_i k' he;cases hd;exact he
  ·cases hd
 have hss:(P.underlying src).isSome=true:=by
  unfold tint at hs;split at hs
  ·rename_i k' he;rw[he];rfl
  ·exact absurd rfl hs
 have hik:P.intKind dst=k:=by unfold Program.intKind;rw[hds]
 cases hx with
 |int=>
  rename_i k' n;simp only[aq2,sk]at hy;subst hy;have:=run_convert_int (P:=P) w src dst k' n hss (by rw[hik];exact hds)
  rw[hik]at this;exact⟨_,w,by rw[this,aq8 hask.out],Goes.pure h .int⟩
 |_=>simp[aq2]at hy
open Go.RowKit
def optV:Option (IntKind×Int)->Option Value
 |some (k,n)=>some (.int k n)
 |none=>none
def optI:Option (IntKind×Int)->Option Int
 |some (_,n)=>some n
 |none=>none
theorem bz6{P:Program}{w:World}{t e:TypeId}{es len cap:Nat}{a:Option Addr}(ht:P.underlying t=some (.slice e))(hs:(sizeOf e).run P w=.ok es w)(hlc:len<=cap)
  (lo hi mx:Option (IntKind×Int)) (hm:mx.isSome=true->hi.isSome=true) (hask:aO8 len (optI lo) (optI hi) (optI mx)):
  ∃m,(Instr.sliceAt t (.slice a len cap) (optV lo) (optV hi) (optV mx)).run P w=.ok (sliced a ((optI lo).getD 0).toNat ((optI hi).getD len).toNat m es) w/\((optI hi).getD len).toNat<=m/\m<=cap:=by
 obtain⟨a1,a2,a3,a4⟩:=hask;have hel:P.elem t=e:=by unfold Program.elem;rw[ht]
 have ht':P.underlying t=some (.slice (P.elem t)):=by rw[hel];exact ht
 rw[<-hel]at hs;cases mx with
 |none=>
  refine⟨cap,?_,?_,lh _⟩
  ·rw[run_sliceAt_slice w t _ _ _ _ ht'];cases lo with
   |none=>
    cases hi with
    |none=>
     simp only[optV,optI,xV]at *
     rw[run_slice_all w t a len cap ht',hs];simp
    |some h=>
     obtain⟨kh,h⟩:=h;simp only[optV,optI,xV,lZ]at *
     rw[run_slice_h w t a len cap ht' kh h (by omega) (by omega),hs];simp
   |some l=>
    obtain⟨kl,l⟩:=l;cases hi with
    |none=>
     simp only[optV,optI,xV,lZ]at *
     rw[run_slice_l w t a len cap ht' kl l (by omega) (by omega),hs];simp
    |some h=>
     obtain⟨kh,h⟩:=h;simp only[optV,optI,xV,lZ]at *
     rw[run_slice_lh w t a len cap ht' kl kh l h (by omega) (by omega) (by omega),hs];simp
  ·have e:(optI (none:Option (IntKind×Int))).getD (len:Int)=len:=rfl;rw[e]at a3;omega
 |some m=>
  obtain⟨km,m⟩:=m;cases hi with
  |none=>cases hm rfl
  |some h=>
   obtain⟨kh,h⟩:=h;refine⟨m.toNat,?_,?_,?_⟩
   ·rw[run_sliceAt_slice w t _ _ _ _ ht'];cases lo with
    |none=>
     simp only[optV,optI,xV,lZ]at *
     rw[run_slice_hm w t a len cap ht' kh km h m (by omega) (by omega) (by omega),hs];simp
    |some l=>
     obtain⟨kl,l⟩:=l;simp only[optV,optI,lZ]at *
     rw[run_slice_lhm w t a len cap ht' kl kh km l h m (by omega) (by omega) (by omega) (by omega),hs];simp
   ·simp only[optI,lZ]at *
    omega
   ·simp only[optI,lZ]at *
    omega
theorem bz7{P:Program}{w:World}{t e:TypeId}{es len cap:Nat}{a:Option Addr}(ht:P.underlying t=some (.slice e))(hs:(sizeOf e).run P w=.ok es w)(hlc:len<=cap)
  (lo hi:Option (IntKind×Int)) (hask:aO8 len (optI lo) (optI hi) none):
  (Instr.sliceAt t (.slice a len cap) (optV lo) (optV hi) (optV none)).run P w=.ok (sliced a ((optI lo).getD 0).toNat ((optI hi).getD len).toNat cap es) w:=by
 obtain⟨a1,a2,a3,a4⟩:=hask;have hel:P.elem t=e:=by unfold Program.elem;rw[ht]
 have ht':P.underlying t=some (.slice (P.elem t)):=by rw[hel];exact ht
 rw[<-hel]at hs;rw[run_sliceAt_slice w t _ _ _ _ ht'];cases lo with
 |none=>
  cases hi with
  |none=>
   simp only[optV,optI,xV]at *
   rw[run_slice_all w t a len cap ht',hs];simp
  |some h=>
   obtain⟨kh,h⟩:=h;simp only[optV,optI,xV,lZ]at *
   rw[run_slice_h w t a len cap ht' kh h (by omega) (by omega),hs];simp
 |some l=>
  obtain⟨kl,l⟩:=l;cases hi with
  |none=>
   simp only[optV,optI,xV,lZ]at *
   rw[run_slice_l w t a len cap ht' kl l (by omega) (by omega),hs];simp
  |some h=>
   obtain⟨kh,h⟩:=h;simp only[optV,optI,xV,lZ]at *
   rw[run_slice_lh w t a len cap ht' kl kh l h (by omega) (by omega) (by omega),hs];simp
theorem b19{w X E E' len n g a cap l h m}(hr:R w X E (.sl len n g) (.slice a len cap))(h1:l<=h)(h2:h<=len)(h3:h<=m)(_:m<=cap):R w X E' (.sl (h-l) n (λi j=>g (l+i) j)) (sliced a l h m n):=by
 by_cases hl:l=h
 ·subst hl;simp only[uE,sliced];exact .sl0
 ·have hne:m≠l:=by omega
  unfold sliced;rw[lu hne];cases hr with
  |sl0=>omega
  |sl hb hX hc hlc ho hr=>
   rename_i b o c T fr;simp only[lD,ad9];have e1:∀i j,o+l*n+i*n+j=o+(l+i)*n+j:=λi j=>by rw[lL];omega
   have hle:h*n<=len*n:=lk _ h2;have he:(h-l)*n=h*n-l*n:=Nat.sub_mul _ _ _;have hle2:l*n<=h*n:=lk _ h1;refine .sl hb hX (by omega) (by omega) (λi j hi hj=>?_) λi j hi hj=>?_
   ·rw[e1];exact ho _ _ (by omega) hj
   ·rw[e1];exact hr _ _ (by omega) hj
theorem aH6{w X E len n g v}(h:R w X E (.sl len n g) v):∃a cap,v=.slice a len cap:=by
 cases h with
 |sl0=>exact⟨_,_,rfl⟩
 |sl=>exact⟨_,_,rfl⟩
theorem b20{w X E len n g a cap}(h:R w X E (.sl len n g) (.slice a len cap)):len<=cap:=by
 cases h with
 |sl0=>exact lB _
 |sl _ _ _ hl=>exact hl
theorem aU7{P:Program}{w0 X0 H E w nm}(h:Rep w0 X0 H E w){t:TypeId}{n:Nat}{ag:Bool}(ht:tarr P t=some (n,1,ag)){x:SV}{v:Value}(hx:R w (Xo X0 E H) E x v){lo hi:Option (IntKind×Int)}{y:Yd}
  (hy:al5 n (optI lo) (optI hi) x=some y) (hask:y.ask):∃u w',(Instr.sliceAt t v (optV lo) (optV hi) none).run P w=.ok u w'/\Goes w0 X0 H E w nm y.eff y.val u w':=by
 obtain⟨e,ti,h1,h2,h3,h4⟩:=at3 ht;have hsz:(sizeOf e).run P w=.ok 1 w:=(ak7 h2 w).2;have run:∀{b o:Nat}{kh:IntKind}{q:Int},0<=q->q<=n->(Instr.sliceAt t (.pointer (some ⟨b,o,none⟩)) none (some (.int kh q)) none).run P w=.ok (.slice (some ⟨b,o,none⟩) q.toNat n) w:=by
  intro b o kh q q0 q1;have e0:(⟨b,o,none⟩:Addr).add 0=⟨b,o,none⟩:=by rw[ad9];rfl
  have hbd:(Instr.sliceBound (.int kh q) n .sliceAlen).run P w=.ok q.toNat w:=by simp[Instr.sliceBound,asIntOf,q0,q1]
  simp only[Instr.sliceAt,Instr.sureAddr,Instr.sliceBounds,Sem.run_bind,Sem.run_pure,run_underlying h1,rk,hsz,hbd,lH,xn];simp only[xz,lah,e0,ite_self]
 have runL:∀{b o:Nat}{kh:IntKind}{q:Int},0<=q->q<=n->∃a,(Instr.sliceAt t (.pointer (some ⟨b,o,none⟩)) (some (.int kh q)) none none).run P w=.ok (.slice (some a) (n-q.toNat) (n-q.toNat)) w/\(q<n->a=⟨b,o+q.toNat,none⟩):=by
  intro b o kh q q0 q1;have hbd:(Instr.sliceBound (.int kh q) n .sliceB).run P w=.ok q.toNat w:=by simp[Instr.sliceBound,asIntOf,q0,q1]
  refine⟨if n=q.toNat then⟨b,o,none⟩else(⟨b,o,none⟩:Addr).add (q.toNat*1),?_,λhlt=>?_⟩
  ·simp only[Instr.sliceAt,Instr.sureAddr,Instr.sliceBounds,Sem.run_bind,Sem.run_pure,run_underlying h1,rk,hsz,hbd,Option.isSome_none,lH,xn]
  ·rw[lu (by omega),ad9,ux]
 cases hx with
 |ref hb hX hc ho hr=>
  rename_i m g b o c T fr;simp only[al5]at hy;cases lo with
  |none=>
   cases hi with
   |none=>simp[optI]at hy
   |some hq=>
    obtain⟨kh,q⟩:=hq;simp only[optI,lD,uH]at hy;obtain⟨hle,rfl⟩:=aa0 hy;obtain⟨q0,q1⟩:=hask.out;refine⟨_,w,run q0 q1,Goes.pure h (.sl hb hX (by omega) (by omega) (λi j hi hj=>?_) (λi j hi hj=>?_))⟩
    ·obtain rfl:j=0:=by omega
     have:=ho i (by omega)
     rwa[show o+i*1+0=o+i by omega]
    ·obtain rfl:j=0:=by omega
     have:=hr i (by omega)
     rwa[show o+i*1+0=o+i by omega]
  |some lq=>
   cases hi with
   |some hq=>simp[optI]at hy
   |none=>
    obtain⟨kl,q⟩:=lq;simp only[optI,lD,uH]at hy;obtain⟨hle,rfl⟩:=aa0 hy;obtain⟨q0,q1⟩:=hask.out;obtain⟨a,hrun,ha⟩:=runL (b:=b) (o:=o) (kh:=kl) q0 q1;refine⟨_,w,hrun,Goes.pure h ?_⟩;by_cases hlt:q<n
    ·rw[ha hlt];refine .sl hb hX (by omega) (lh _) (λi j hi hj=>?_) (λi j hi hj=>?_)
     ·obtain rfl:j=0:=by omega
      have:=ho (q.toNat+i) (by omega)
      rwa[show o+q.toNat+i*1+0=o+(q.toNat+i)by omega]
     ·obtain rfl:j=0:=by omega
      have:=hr (q.toNat+i) (by omega)
      rwa[show o+q.toNat+i*1+0=o+(q.toNat+i)by omega]
    ·rw[show n-q.toNat=0 by omega];exact .sl0
 |ownAt he=>
  simp only[al5]at hy;cases lo<;>cases hi<;>simp only[optI,uH,lD,reduceCtorEq,sk]at hy
  subst hy;obtain⟨q0,q1⟩:=hask.out;exact⟨_,w,run q0 q1,Goes.pure h (by rw[xf];exact .part he (by omega))⟩
 |ownAtOld he hl hv=>
  obtain⟨b,o,rfl⟩:=hv;simp only[al5]at hy;cases lo<;>cases hi<;>simp only[optI,uH,lD,reduceCtorEq,sk]at hy
  subst hy;obtain⟨q0,q1⟩:=hask.out;exact⟨_,w,run q0 q1,Goes.pure h (.partOld he hl ⟨_,_,_,rfl⟩)⟩
 |_=>simp[al5]at hy
theorem aD0{P:Program}{w0 X0 H E w nm}(h:Rep w0 X0 H E w){t:TypeId}{te:TypeId×Nat×Nat}(ht:tsl P t=some te){x:SV}{v:Value}(hx:R w (Xo X0 E H) E x v)
  {lo hi mx:Option (IntKind×Int)}{y:Yd}(hy:ag7 te.2.1 H (optI lo) (optI hi) (optI mx) x=some y) (hask:y.ask):
  ∃u w',(Instr.sliceAt t v (optV lo) (optV hi) (optV mx)).run P w=.ok u w'/\Goes w0 X0 H E w nm y.eff y.val u w':=by
 obtain⟨ti,h1,h2,h3,h4⟩:=ai8 ht;have hsz:(sizeOf te.1).run P w=.ok te.2.1 w:=by simp[sizeOf,typeInfo,h2,h3]
 have go:∀{E':Env}{len n:Nat}{g:Nat->Nat->SV},R w (Xo X0 E H) E' (.sl len n g) v->n=te.2.1->((optI mx).isSome=true->(optI hi).isSome=true)->
   y=⟨Aq (aO8 len (optI lo) (optI hi) (optI mx)),.sl ((optI hi).getD len-(optI lo).getD 0).toNat n (λi j=>g (((optI lo).getD 0).toNat+i) j),.keep⟩->
   ∃u w',(Instr.sliceAt t v (optV lo) (optV hi) (optV mx)).run P w=.ok u w'/\Goes w0 X0 H E w nm y.eff y.val u w':=by
  intro E' len n g hr hn hm hyy;subst hyy;obtain⟨a,cap,rfl⟩:=aH6 hr;have hask':aO8 len (optI lo) (optI hi) (optI mx):=hask.out;obtain⟨m,hrun,hm1,hm2⟩:=bz6 (P:=P) (w:=w) (a:=a) h1 hsz (b20 hr) lo hi mx (by cases mx<;>cases hi<;>simp_all [optI]) hask';obtain⟨a1,a2,a3,a4⟩:=hask';refine⟨_,w,hrun,Goes.pure h ?_⟩;subst hn;have:=b19 (E':=E) hr (l:=((optI lo).getD 0).toNat) (h:=((optI hi).getD len).toNat) (m:=m) (by omega) (by omega) hm1 hm2
  rwa[show((optI hi).getD len-(optI lo).getD 0).toNat=((optI hi).getD len).toNat-((optI lo).getD 0).toNat by omega]
 have own:∀{k ver lo0 len len0 cap:Nat}{a a0:Option Addr}{us:Nat->Option Nat},E k=some (.slc ver (.slice a0 len0 cap) us)->len0<=cap->lo0+len<=len0->(cap-lo0≠0->a=a0.map (·.add (lo0*te.2.1)))->(lo0=0->a=a0)->(cap≠0->∃b o,a0=some ⟨b,o,none⟩)->(optI mx).isSome=false->
   y=⟨Aq (aO8 len (optI lo) (optI hi) none),.win k ver te.2.1 (lo0+((optI lo).getD 0).toNat) ((optI hi).getD len-(optI lo).getD 0).toNat,.keep⟩->v=.slice a len (cap-lo0)->
   ∃u w',(Instr.sliceAt t v (optV lo) (optV hi) (optV mx)).run P w=.ok u w'/\Goes w0 X0 H E w nm y.eff y.val u w':=by
  intro k ver lo0 len len0 cap a a0 us he hlc hl0 ha h0 hadd hm hyy hv;subst hyy;subst hv;have hmx:mx=none:=by cases mx<;>simp_all [optI]
  subst hmx;have hask':aO8 len (optI lo) (optI hi) none:=hask.out;obtain⟨a1,a2,a3,a4⟩:=id hask';have hrun:(Instr.sliceAt t (.slice a len (cap-lo0)) (optV lo) (optV hi) (optV none)).run P w=.ok (sliced a ((optI lo).getD 0).toNat ((optI hi).getD len).toNat (cap-lo0) te.2.1) w:=bz7 (P:=P) (w:=w) (a:=a) h1 hsz (by omega) lo hi hask';refine⟨_,w,hrun,Goes.pure h ?_⟩;have e3:(none:Option Int).getD (len:Int)=len:=rfl;rw[e3]at a3 a4;generalize hl:((optI lo).getD 0).toNat=l at *
  generalize hh:((optI hi).getD (len:Int)).toNat=q at *
  have e4:((optI hi).getD (len:Int)-(optI lo).getD 0).toNat=q-l:=by omega
  rw[e4];unfold sliced;rw[show cap-lo0-l=cap-(lo0+l)by omega];refine .win he (by omega) (λhne=>?_) λhz=>?_
  ·rw[lu (by omega),ha (by omega)];obtain⟨b,oo,rfl⟩:=hadd (by omega);simp only[lD,ad9];rw[xf,<-lL]
  ·obtain rfl:lo0=0:=by omega
   obtain rfl:l=0:=by omega
   rw[h0 rfl];split
   ·rfl
   ·obtain⟨b,oo,rfl⟩:=hadd (by omega);simp only[lD,ad9,xz,lV]
 cases hx with
 |sl0=>
  simp only[ag7]at hy;obtain⟨⟨hn,hm⟩,hyy⟩:=aa0 hy;exact go (E':=E) .sl0 hn hm hyy.symm
 |sl hb hX hc hl ho hr=>
  simp only[ag7]at hy;obtain⟨⟨hn,hm⟩,hyy⟩:=aa0 hy;exact go (E':=E) (.sl hb hX hc hl ho hr) hn hm hyy.symm
 |osl he hv=>
  rename_i k ver us;have hok:=h.ok k _ he;simp only[ag7]at hy;generalize H.getD k .dead=so at hy hok;cases so<;>simp only[reduceCtorEq]at hy
  ·rename_i ver' len n g T;obtain⟨⟨rfl,hn,hm⟩,hyy⟩:=aa0 hy;obtain⟨_,xs,h5,_⟩:=hok;have hsh:∃a cap,v=.slice a len cap/\len<=cap/\(cap≠0->∃b o,a=some ⟨b,o,none⟩):=by
    rcases h5 with⟨a,rfl,rfl,rfl⟩|⟨b',oo,cap',cur,rfl,c1,c2,c3,c4,c5,c6⟩
    ·exact⟨_,_,rfl,lh _,λhc=>absurd rfl hc⟩
    ·exact⟨_,_,rfl,c2,λ_=>⟨_,_,rfl⟩⟩
   obtain⟨a,cap,rfl,hlc,hadd⟩:=hsh;subst hn;refine own (lo0:=0) (a:=a) (cap:=cap) he hlc (by omega) (λ_=>?_) (λ_=>rfl) hadd hm (by rw[<-hyy,lI]) rfl;rw[xz];cases cap with
   |zero=>omega
   |succ cap=>obtain⟨b,oo,rfl⟩:=hadd (by omega);rw[lD,ad9,lV]
  ·obtain⟨⟨_,hn,hm⟩,hyy⟩:=aa0 hy;exact go hok.2 hn hm hyy.symm
  ·rename_i ver' len n c mm p g T T' ho;obtain⟨⟨rfl,hn,hm⟩,hyy⟩:=aa0 hy;obtain⟨_,xs,d⟩:=hok;have hsh:∃a cap,v=.slice a len cap/\len<=cap/\(cap≠0->∃b o,a=some ⟨b,o,none⟩):=by
    rcases d.own with⟨a,rfl,rfl,rfl⟩|⟨b',oo,cap',cur,rfl,c1,c2,c3,c4,c5,c6⟩
    ·exact⟨_,_,rfl,lh _,λhc=>absurd rfl hc⟩
    ·exact⟨_,_,rfl,c2,λ_=>⟨_,_,rfl⟩⟩
   obtain⟨a,cap,rfl,hlc,hadd⟩:=hsh;subst hn;refine own (lo0:=0) (a:=a) (cap:=cap) he hlc (by omega) (λ_=>?_) (λ_=>rfl) hadd hm (by rw[<-hyy,lI]) rfl;rw[xz];cases cap with
   |zero=>omega
   |succ cap=>obtain⟨b,oo,rfl⟩:=hadd (by omega);rw[lD,ad9,lV]
 |oslOld he hl hv=>
  rename_i k ver ver' v' us;have hok:=h.ok k _ he;simp only[ag7]at hy;generalize H.getD k .dead=so at hy hok;cases so<;>simp only[reduceCtorEq]at hy
  ·obtain⟨⟨rfl,hn,hm⟩,hyy⟩:=aa0 hy;have:=hok.1
   omega
  ·obtain⟨⟨rfl,hn,hm⟩,hyy⟩:=aa0 hy;have:=hok.1
   omega
  ·obtain⟨⟨rfl,hn,hm⟩,hyy⟩:=aa0 hy;have:=hok.1
   omega
 |win he hl ha h0=>
  rename_i k ver m lo0 l a a0 len0 cap0 us;have hok:=h.ok k _ he;simp only[ag7]at hy;generalize H.getD k .dead=so at hy hok;cases so<;>simp only[reduceCtorEq]at hy
  rename_i ver' len n g T;obtain⟨⟨⟨rfl,rfl⟩,hn,hm⟩,hyy⟩:=aa0 hy;obtain⟨_,xs,h5,_⟩:=hok;have hsh:len0=len/\len0<=cap0/\(cap0≠0->∃b o,a0=some ⟨b,o,none⟩):=by
   rcases h5 with⟨a,hv',rfl,rfl⟩|⟨b',oo,cap',cur,hv',c1,c2,c3,c4,c5,c6⟩
   ·cases hv';exact⟨rfl,lh _,λhc=>absurd rfl hc⟩
   ·cases hv';exact⟨rfl,c2,λ_=>⟨_,_,rfl⟩⟩
  obtain⟨rfl,hlc,hadd⟩:=hsh;subst hn;exact own (lo0:=lo0) he hlc hl ha h0 hadd hm hyy.symm rfl
 |winOld he hl hv=>
  rename_i k ver ver' v' m lo0 l us;have hok:=h.ok k _ he;simp only[ag7]at hy;generalize H.getD k .dead=so at hy hok;cases so<;>simp only[reduceCtorEq]at hy
  obtain⟨⟨⟨rfl,rfl⟩,hn,hm⟩,hyy⟩:=aa0 hy;have:=hok.1
  omega
 |_=>simp[ag7]at hy
theorem bh9{P:Program}{w0 X0 H E w nm}(h:Rep w0 X0 H E w){t:TypeId}{te:TypeId×Nat×Nat}(ht:tsl P t=some te){x:SV}{v:Value}(hx:R w (Xo X0 E H) E x v){kh km:IntKind}
  {y:Yd}(hy:aD6 x=some y):
  ∃u w',(Instr.sliceAt t v none (some (.int kh 0)) (some (.int km 0))).run P w=.ok u w'/\Goes w0 X0 H E w nm y.eff y.val u w':=by
 obtain⟨ti,h1,h2,h3,h4⟩:=ai8 ht;have hel:P.elem t=te.1:=by unfold Program.elem;rw[h1]
 have ht':P.underlying t=some (.slice (P.elem t)):=by rw[hel];exact h1
 have hsz:(sizeOf (P.elem t)).run P w=.ok te.2.1 w:=by rw[hel];simp[sizeOf,typeInfo,h2,h3]
 have go:∀{a:Option Addr}{n c:Nat},v=.slice a n c->y=⟨True,.cap0,.keep⟩->∃u w',(Instr.sliceAt t v none (some (.int kh 0)) (some (.int km 0))).run P w=.ok u w'/\Goes w0 X0 H E w nm y.eff y.val u w':=by
  rintro a n c rfl rfl;refine⟨.slice a 0 0,w,?_,Goes.pure h .cap0⟩;rw[run_sliceAt_slice w t _ _ _ _ ht',run_slice_hm w t a n c ht' kh km 0 0 (by omega) (by omega) (by omega),hsz];simp[sliced]
 cases hx with
 |sl0=>simp only[aD6,ac0,sk]at hy;exact go rfl hy.symm
 |sl=>simp only[aD6,ac0,sk]at hy;exact go rfl hy.symm
 |cap0=>simp only[aD6,ac0,sk]at hy;exact go rfl hy.symm
 |_=>simp[aD6]at hy
theorem ay5{w0 X0 H E w}(h:Rep w0 X0 H E w){x:SV}{v:Value}(hx:R w (Xo X0 E H) E x v){len n:Nat}{g:Nat->Nat->SV}(hs:aj0 H x=some (len,n,g)):
  ∃a cap,v=.slice a len cap/\(len=0\/∃b o c T fr,a=some ⟨b,o,none⟩/\w.heap[b]?=some (.cells c T fr)/\o+len*n<=c.size/\
   ∀i j,i<len->j<n->ab1 (c.getD (o+i*n+j) undef)/\R w (Xo X0 E H) E0 (g i j) (c.getD (o+i*n+j) undef)):=by
 have onSl:∀{E':Env},R w (Xo X0 E H) E' (.sl len n g) v->∃a cap,v=.slice a len cap/\(len=0\/∃b o c T fr,a=some ⟨b,o,none⟩/\w.heap[b]?=some (.cells c T fr)/\o+len*n<=c.size/\
   ∀i j,i<len->j<n->ab1 (c.getD (o+i*n+j) undef)/\R w (Xo X0 E H) E0 (g i j) (c.getD (o+i*n+j) undef)):=by
  intro E' hr;cases hr with
  |sl0=>exact⟨_,_,rfl,.inl rfl⟩
  |sl hb hX hc hl ho hr=>exact⟨_,_,rfl,.inr ⟨_,_,_,_,_,rfl,hb,hc,λi j hi hj=>⟨ho i j hi hj,hr i j hi hj⟩⟩⟩
 cases hx with
 |sl0=>
  simp only[aj0,sk,Prod.mk.injEq]at hs;obtain⟨rfl,rfl,rfl⟩:=hs;exact⟨_,_,rfl,.inl rfl⟩
 |sl hb hX hc hl ho hr=>
  simp only[aj0,sk,Prod.mk.injEq]at hs;obtain⟨rfl,rfl,rfl⟩:=hs;exact⟨_,_,rfl,.inr ⟨_,_,_,_,_,rfl,hb,hc,λi j hi hj=>⟨ho i j hi hj,hr i j hi hj⟩⟩⟩
 |osl he hv=>
  rename_i k ver us;have hok:=h.ok k _ he;simp only[aj0]at hs;generalize hk:H.getD k .dead=so at hs hok;cases so<;>simp only[reduceCtorEq]at hs
  ·rename_i ver' len' n' g' T;obtain⟨rfl,hs⟩:=aa0 hs;simp only at hs
   obtain⟨rfl,rfl,rfl⟩:=hs;obtain⟨_,xs,h2,h3⟩:=hok;rcases h2 with⟨a,rfl,rfl,rfl⟩|⟨b,oo,cap,cur,rfl,c1,c2,c3,c4,c5,c6⟩
   ·exact⟨_,_,rfl,.inl rfl⟩
   ·have hle:len*n<=(cap+1)*n:=lk _ c2;refine⟨_,_,rfl,.inr ⟨b,oo,cur,T,_,rfl,c1,by omega,λi j hi hj=>?_⟩⟩;have:=h3 i j hi hj
    subst c5;rw[ab5 (ab8 hi hj)]at this;rwa[xf]
  ·rename_i ver' len' n' g';obtain⟨rfl,hs⟩:=aa0 hs;simp only at hs
   obtain⟨rfl,rfl,rfl⟩:=hs;exact onSl hok.2
 |oslOld he hl hv=>
  rename_i k ver ver' v' us;have hok:=h.ok k _ he;simp only[aj0]at hs;generalize H.getD k .dead=so at hs hok;cases so<;>simp only[reduceCtorEq]at hs
  ·obtain⟨rfl,hs⟩:=aa0 hs;have:=hok.1
   omega
  ·obtain⟨rfl,hs⟩:=aa0 hs;have:=hok.1
   omega
 |slN hr=>
  simp only[aj0,sk,Prod.mk.injEq]at hs;obtain⟨rfl,rfl,rfl⟩:=hs;exact onSl hr
 |win he hl ha h0=>
  rename_i k ver m lo l a a0 len0 cap0 us;have hok:=h.ok k _ he;simp only[aj0]at hs;generalize hk:H.getD k .dead=so at hs hok;cases so<;>simp only[reduceCtorEq]at hs
  rename_i ver' len' n' g' T;obtain⟨⟨rfl,rfl⟩,hs⟩:=aa0 hs;simp only at hs
  obtain⟨rfl,rfl,rfl⟩:=hs;by_cases hz:len=0
  ·exact⟨_,_,rfl,.inl hz⟩
  obtain⟨_,xs,h2,h3⟩:=hok;rcases h2 with⟨a',hv',rfl,rfl⟩|⟨b,oo,cap,cur,hv',c1,c2,c3,c4,c5,c6⟩
  ·cases hv';omega
  ·cases hv';have hadd:a=some ⟨b,oo+lo*n,none⟩:=by rw[ha (by omega),lD];exact congrArg some (ad9 b oo _)
   have hle:=lk n c2;have hle2:=lk n hl;rw[lL]at hle2;refine⟨_,_,rfl,.inr ⟨b,oo+lo*n,cur,T,_,hadd,c1,by omega,λi j hi hj=>?_⟩⟩;have:=h3 (lo+i) j (by omega) hj
   subst c5;rw[ab5 (ab8 (by omega) hj)]at this;rwa[show oo+lo*n+i*n+j=oo+((lo+i)*n+j)by rw[lL];omega]
 |winOld he hl hv=>
  rename_i k ver ver' v' m lo l us;have hok:=h.ok k _ he;simp only[aj0]at hs;generalize H.getD k .dead=so at hs hok;cases so<;>simp only[reduceCtorEq]at hs
  obtain⟨⟨rfl,rfl⟩,hs⟩:=aa0 hs;have:=hok.1
  omega
 |_=>simp[aj0]at hs
theorem bO2{P:Program}{w0 X0 H E w nm}(h:Rep w0 X0 H E w){t ty:TypeId}(ht:P.underlying t=some (.slice (P.elem t))){x:SV}{v:Value}(hx:R w (Xo X0 E H) E x v){n:Nat}(hl:lenOf H x=some n)(hs:∀s,x≠.str s):
  ∃u w',(Builtin.len_ #[t] ty #[v]).run P w=.ok u w'/\Goes w0 X0 H E w nm .keep (.int .i64 n) u w':=by
 have go:∀{a:Option Addr}{c:Nat},v=.slice a n c->∃u w',(Builtin.len_ #[t] ty #[v]).run P w=.ok u w'/\Goes w0 X0 H E w nm .keep (.int .i64 n) u w':=by
  rintro a c rfl;exact⟨_,w,run_len_slice w t ty a n c ht,Goes.pure h .int⟩
 have viaSrc:∀{len m:Nat}{g:Nat->Nat->SV},aj0 H x=some (len,m,g)->len=n->∃u w',(Builtin.len_ #[t] ty #[v]).run P w=.ok u w'/\Goes w0 X0 H E w nm .keep (.int .i64 n) u w':=by
  intro len m g hq hn;obtain⟨a,cap,hv,_⟩:=ay5 h hx hq;exact go (by rw[hv,hn])
 have hsrc:lenOf H x=(aj0 H x).map (·.1)->∃u w',(Builtin.len_ #[t] ty #[v]).run P w=.ok u w'/\Goes w0 X0 H E w nm .keep (.int .i64 n) u w':=by
  intro hq;rw[hq]at hl;cases hc:aj0 H x with
  |none=>simp[hc]at hl
  |some q=>
   obtain⟨len,m,g⟩:=q;simp only[hc,lD,sk]at hl;exact viaSrc hc hl
 cases x with
 |cap0=>
  cases hx with
  |cap0=>
   simp only[lenOf,sk]at hl;subst hl;exact go rfl
 |slP m g=>
  simp only[lenOf,sk]at hl;subst hl;cases hx with
  |slP=>exact go rfl
 |str s=>exact absurd rfl (hs s)
 |nilsl=>
  cases hx with
  |nilsl=>
   simp only[lenOf,sk]at hl;subst hl;exact go rfl
 |win k ver m lo len=>
  simp only[lenOf,sk]at hl;subst hl;cases hx with
  |win=>exact go rfl
  |winOld _ _ hv=>obtain⟨a,c,hv⟩:=hv;exact go hv
 |osl k ver=>
  by_cases hd:∃ver' len n c m p g T T' ho,H.getD k .dead=.deep ver' len n c m p g T T' ho
  ·obtain⟨ver',len,n',c,m,p,g,T,T',ho,hd⟩:=hd;simp only[lenOf,hd]at hl;obtain⟨rfl,rfl⟩:=aa0 hl;cases hx with
   |osl he hv=>
    have hok:=h.ok k _ he;rw[hd]at hok;obtain⟨_,xs,d⟩:=hok;rcases d.own with⟨a,rfl,rfl,rfl⟩|⟨b',oo,cap',cur,rfl,_⟩
    ·exact go rfl
    ·exact go rfl
   |oslOld he hlt hv=>
    have hok:=h.ok k _ he;rw[hd]at hok;have:=hok.1
    omega
  ·refine hsrc ?_;simp only[lenOf];split
   ·rename_i hd';exact absurd ⟨_,_,_,_,_,_,_,_,_,_,hd'⟩ hd
   ·rfl
 |_=>exact hsrc rfl
open Go.RowKit
theorem at7{P:Program}(w:World)(t ty e:TypeId)(i:TypeInfo)(ht:P.underlying t=some (.slice e))(hi:P.info? e=some i)(a a':Option Addr)(n cap c:Nat)(hn:n<=cap):
  (Builtin.append_ #[t,t] ty #[.slice a n cap,.slice a' 0 c]).run P w=.ok (.slice a n cap) w:=by
 have hf:(Builtin.firstCells i.size 0 (.slice a' 0 c)).run P w=.ok #[] w:=by
  cases a' with
  |none=>exact run_firstCells_none w _ _ _ _
  |some b=>simp[Builtin.firstCells,loadCells,loadCellsFrom]
 cases a with
 |none=>simp[Builtin.append_,run_underlying ht,sizeOf,typeInfo,hi,Builtin.lenOf,hf,hn]
 |some b=>simp[Builtin.append_,run_underlying ht,sizeOf,typeInfo,hi,Builtin.lenOf,hf,storeCells,hn]
def ad0(c:Array Value)(o m:Nat):List Value:=(List.range m).map λq=>c.getD (o+q) undef
theorem ac1(c o m):(ad0 c o m).length=m:=by simp[ad0]
theorem aj7{c:Array Value}{o m q:Nat}(h:q<m):(ad0 c o m).getD q undef=c.getD (o+q) undef:=by
 simp[ad0,la,h]
theorem ak2{xs ys:List Value}{q:Nat}:(xs++ys).getD q undef=if q<xs.length then xs.getD q undef else ys.getD (q-xs.length) undef:=by
 simp only[la,List.getElem?_append];split<;>rfl
theorem ba8{len:Nat}{g h:Nat->Nat->SV}{i j:Nat}(hi:i<len):appG len g h i j=g i j:=by unfold appG;rw[ae4,lg hi];rfl
theorem bq1{len:Nat}{g h:Nat->Nat->SV}{i j:Nat}(hi:¬ i<len):appG len g h i j=h (i-len) j:=by unfold appG;rw[ae4,lf hi];rfl
theorem bR3{lo m:Nat}{g h:Nat->Nat->SV}{i j:Nat}(hi:lo<=i/\i<lo+m):cpyG lo m g h i j=h (i-lo) j:=by unfold cpyG;rw[ae4,lg hi];rfl
theorem ci3{n o m:Nat}{g h:Nat->Nat->SV}{i j:Nat}(hi:o<=i*n+j/\i*n+j<o+m):cpyP n o m g h i j=h (i*n+j-o) 0:=by unfold cpyP;rw[ae4,lg hi];rfl
theorem bw1{n o m:Nat}{g h:Nat->Nat->SV}{i j:Nat}(hi:¬ (o<=i*n+j/\i*n+j<o+m)):cpyP n o m g h i j=g i j:=by unfold cpyP;rw[ae4,lf hi];rfl
theorem aM9{lo m:Nat}{g h:Nat->Nat->SV}{i j:Nat}(hi:¬ (lo<=i/\i<lo+m)):cpyG lo m g h i j=g i j:=by unfold cpyG;rw[ae4,lf hi];rfl
theorem aT3{w:World}{X:Nat->Prop}{len len2 n:Nat}{g h:Nat->Nat->SV}{xs news:List Value}(hx:xs.length=len*n)
  (h1:∀i j,i<len->j<n->ab1 (xs.getD (i*n+j) undef)/\R w X E0 (g i j) (xs.getD (i*n+j) undef))
  (h2:∀i j,i<len2->j<n->ab1 (news.getD (i*n+j) undef)/\R w X E0 (h i j) (news.getD (i*n+j) undef)):
  ∀i j,i<len+len2->j<n->ab1 ((xs++news).getD (i*n+j) undef)/\R w X E0 (appG len g h i j) ((xs++news).getD (i*n+j) undef):=by
 intro i j hi hj;rw[ak2,hx];by_cases hlt:i<len
 ·rw[ll (ab8 hlt hj),ba8 hlt];exact h1 i j hlt hj
 ·have hle:len*n<=i*n:=lk _ (by omega);rw[lu (by omega),bq1 hlt,show i*n+j-len*n=(i-len)*n+j by rw[Nat.sub_mul];omega];exact h2 (i-len) j (by omega) hj
theorem aq3{w:World}{b o m:Nat}{c:Array Value}{T:TypeId}{fr:Nat×Nat}(hb:w.heap[b]?=some (.cells c T fr))(hc:o+m<=c.size):
  ∀j u,(ad0 c o m)[j]?=some u->w.cell? ((⟨b,o,none⟩:Addr).add j)=some u:=by
 intro j u hj;have hlt:j<m:=by
  have:=(lT.1 hj).1
  rwa[ac1]at this
 rw[ad9,aH4 hb (by omega)];rw[<-hj,ad0];simp[hlt]
theorem an7{c:Array Value}{o len n:Nat}(h:∀i j,i<len->j<n->ab1 (c.getD (o+i*n+j) undef))(hn:0<n):∀u∈ad0 c o (len*n),u.oneCell'=true:=by
 intro u hu;obtain⟨q,hq,rfl⟩:=lX.1 hu;have hlt:=lG.1 hq;have h1:q/n<len:=Nat.div_lt_of_lt_mul (by rwa[xO]at hlt);have:=h (q/n) (q%n) h1 (xS _ hn)
 rwa[xf,xO (q/n) n,Nat.div_add_mod]at this
theorem bf0{w X}{c:Array Value}{o len n:Nat}{g:Nat->Nat->SV}(h:∀i j,i<len->j<n->ab1 (c.getD (o+i*n+j) undef)/\R w X E0 (g i j) (c.getD (o+i*n+j) undef)):
  ∀i j,i<len->j<n->ab1 ((ad0 c o (len*n)).getD (i*n+j) undef)/\R w X E0 (g i j) ((ad0 c o (len*n)).getD (i*n+j) undef):=by
 intro i j hi hj;rw[aj7 (ab8 hi hj),<-xf];exact h i j hi hj
theorem ah4.grown{w:World}{T n len cap:Nat}{xs rest:List Value}(hx:xs.length=len*n)(hr:rest.length=(cap-len)*n)(hlc:len<=cap)(h0:0<len)(hm:cap<=maxLen){cur:Array Value}(hcur:cur.toList=xs++rest){b:Nat}
  (hb:w.heap[b]?=some (.cells cur T (0,0))):ah4 w T n (.slice (some ⟨b,0,none⟩) len cap) len xs:=by
 obtain⟨cap,rfl⟩:∃c,cap=c+1:=⟨cap-1,by omega⟩
 refine .inr ⟨b,0,cap,cur,rfl,hb,hlc,hm,?_,?_,hx⟩
 ·rw[lI,<-lC,hcur,lx,hx,hr,<-lL];congr 1;omega
 ·rw[List.drop_zero,hcur,<-hx];exact List.take_left
theorem aW5{cur xs news rest:List Value}{oo m k:Nat}(h:(cur.drop oo).take m=xs)(hxl:xs.length=m)(hl:oo+m<=cur.length)(hk:k=m+news.length):((cur.take (oo+m)++news++rest).toArray.toList.drop oo).take k=xs++news:=by
 subst hk;show((cur.take (oo+m)++news++rest).drop oo).take (m+news.length)=xs++news;have e:cur.take (oo+m)=cur.take oo++xs:=by rw[List.take_add,h]
 rw[e,xK,xK,List.drop_left' (by rw[xu];omega),<-xK];exact List.take_left' (by rw[lx,hxl])
theorem av2{P:Program}(w:World)(t ty e:TypeId)(i:TypeInfo)(ht:P.underlying t=some (.slice e))(hi:P.info? e=some i)(g o sLen sCap:Nat)(cur:Array Value)(hg:w.heap[g]?=some (.cells cur e (0,0)))
  (a:Addr) (m c:Nat) (news:List Value) (hl:news.length=m*i.size) (hnews:∀j u,news[j]?=some u->w.cell? (a.add j)=some u) (h1:∀u∈news,u.oneCell'=true) (hroom:sLen+m<=sCap) (hfit:o+sLen*i.size+news.length<=cur.size):
  (Builtin.append_ #[t,t] ty #[.slice (some ⟨g,o,none⟩) sLen sCap,.slice (some a) m c]).run P w=.ok (.slice (some ⟨g,o,none⟩) (sLen+m) sCap) (w.setRow g (cur.toList.take (o+sLen*i.size)++news++cur.toList.drop (o+sLen*i.size+news.length)).toArray):=by
 have h2:=run_firstCells_some (P:=P) w i.size m a m c news hl hnews;have h3:=run_storeCells_at P g (o+sLen*i.size) e news 0 cur w hg (by simpa using hfit) h1;simp only[lV]at h3;simp[Builtin.append_,run_underlying ht,sizeOf,typeInfo,hi,Builtin.lenOf,hroom,h2,Addr.add_lit,h3]
theorem a65{P:Program}{w:World}{t ty e:TypeId}{i:TypeInfo}{z:Value}(ht:P.underlying t=some (.slice e))(hi:P.info? e=some i)(hz:i.zero=some z)(hzs:z.cells.size=i.size)
  {a:Option Addr}{sLen sCap len2 n b2 o2 c2:Nat}{c:Array Value}{T:TypeId}{fr:Nat×Nat}(hin:i.size=n) (h0:0<len2) (hg:sCap<sLen+len2) (olds:List Value) (hlo:olds.length=sLen*n)
  (holds:∀b,a=some b->∀j v,olds[j]?=some v->w.cell? (b.add j)=some v) (hnone:a=none->sLen=0/\sCap=0)
  (hb:w.heap[b2]?=some (.cells c T fr)) (hc:o2+len2*n<=c.size) (hroom:room (sLen+len2) i.bytes):
  ∃cap cur,(Builtin.append_ #[t,t] ty #[.slice a sLen sCap,.slice (some ⟨b2,o2,none⟩) len2 c2]).run P w=.ok (.slice (some ⟨w.heap.size,0,none⟩) (sLen+len2) cap) (w.drew.alloc (.cells cur e))/\
   sLen+len2<=cap/\cap<=maxLen/\∃rest,cur.toList=(olds++ad0 c o2 (len2*n))++rest/\rest.length=(cap-(sLen+len2))*n:=by
 subst hin;have h63:sLen+len2<=maxLen:=hroom.1;refine⟨grownCap w (sLen+len2) sCap e,(olds++ad0 c o2 (len2*i.size)++(Builtin.zeroCells z.cells (grownCap w (sLen+len2) sCap e-(sLen+len2))).toList).toArray,?_,grownCap_ge _ _ _ _,grownCap_le_maxLen _ _ _ _ h63,_,rfl,?_⟩
 ·cases a with
  |some ad=>
   have hr:=run_append_grow (P:=P) w t ty e i z ht hi hz ad sLen sCap olds hlo (holds ad rfl) ⟨b2,o2,none⟩ len2 c2 (ad0 c o2 (len2*i.size)) (ac1 _ _ _) (aq3 hb hc) hg
    (by have:=hroom.1;omega) (growslice_fits hg hroom.2)
   rw[hr];congr 3;apply Array.ext';simp
  |none=>
   obtain⟨rfl,rfl⟩:=hnone rfl;have ho:olds=[]:=List.eq_nil_of_length_eq_zero (by simpa using hlo);subst ho;have hr:=run_append_nil (P:=P) w t ty e i z ht hi hz ⟨b2,o2,none⟩ len2 c2 (ad0 c o2 (len2*i.size)) (ac1 _ _ _) (aq3 hb hc) (by omega)
    (by have:=hroom.1;omega) (by have:=hroom.2;simp only[lI]at this;omega)
   simp only[lI]at hr⊢;rw[hr];congr 3;apply Array.ext';simp
 ·rw[lC,size_zeroCells,hzs]
def rowV:SO->Option Nat
 |.deep ver _ _ _ _ _ _ _ _ _=>some ver
 |_=>none
theorem ah4.b40{w T n v len xs}(h:ah4 w T n v len xs):∃a a2 a3,v=.slice a a2 a3:=by
 rcases h with⟨a,e1,_⟩|⟨b,oo,cap,cur,e1,_⟩<;>exact⟨_,_,_,e1⟩
theorem aT2{P:Program}{w:World}{t ty:TypeId}{te:TypeId×Nat×Nat}(ht:tsl P t=some te){z:List Value}(hz:am4 P te.1=some z){v:Value}{len:Nat}{xs:List Value}(hown:ah4 w te.1 te.2.1 v len xs)(hpos:0<te.2.1)
  {b2 o2 c2 len2:Nat}{c:Array Value}{T2:TypeId}{fr:Nat×Nat}(h0:len2≠0) (hb2:w.heap[b2]?=some (.cells c T2 fr)) (hc2:o2+len2*te.2.1<=c.size)
  (hone:∀i j,i<len2->j<te.2.1->ab1 (c.getD (o2+i*te.2.1+j) undef)) (hroom:room (len+len2) te.2.2):
  ∃r w',(Builtin.append_ #[t,t] ty #[v,.slice (some ⟨b2,o2,none⟩) len2 c2]).run P w=.ok r w'/\ah4 w' te.1 te.2.1 r (len+len2) (xs++ad0 c o2 (len2*te.2.1))/\xs.length=len*te.2.1/\
   (∀b<w.heap.size,ad7 v≠some b->w'.heap[b]?=w.heap[b]?)/\(w'.os=w.os/\w'.tape=w.tape/\w'.output=w.output/\w.heap.size<=w'.heap.size)/\∀b,ad7 r=some b->ad7 v=some b\/w.heap.size<=b:=by
 obtain⟨i,q1,q2,q3,q4⟩:=ai8 ht;obtain⟨i',zv,z1,z2,z3,z4,z5⟩:=ai4 hz;rw[q2]at z1;cases z1;have hxl:xs.length=len*te.2.1:=by
  rcases hown with⟨a,rfl,rfl,rfl⟩|⟨b,oo,cap,cur,rfl,c1,c2',c3,c4,c5,c6⟩
  ·simp
  ·exact c6
 have grows:∀(a:Option Addr)(sCap:Nat),v=.slice a len sCap->sCap<len+len2->(∀b,a=some b->∀j u,xs[j]?=some u->w.cell? (b.add j)=some u)->(a=none->len=0/\sCap=0)->
   ∃r w',(Builtin.append_ #[t,t] ty #[v,.slice (some ⟨b2,o2,none⟩) len2 c2]).run P w=.ok r w'/\ah4 w' te.1 te.2.1 r (len+len2) (xs++ad0 c o2 (len2*te.2.1))/\xs.length=len*te.2.1/\
    (∀b<w.heap.size,ad7 v≠some b->w'.heap[b]?=w.heap[b]?)/\(w'.os=w.os/\w'.tape=w.tape/\w'.output=w.output/\w.heap.size<=w'.heap.size)/\∀b,ad7 r=some b->ad7 v=some b\/w.heap.size<=b:=by
  intro a sCap hva hlt holds hnone;subst hva;obtain⟨cap,cur,hrun,k1,k2,rest,k3,k4⟩:=a65 (P:=P) (ty:=ty) (a:=a) (sLen:=len) (sCap:=sCap) (c2:=c2) q1 q2 z2 z4 q3 (by omega) hlt xs hxl holds hnone hb2 hc2 (by rw[q4];exact hroom);have hbel:Below w.heap.size w (w.drew.alloc (.cells cur te.1)):=((Below.refl _ _).drew).alloc (lh _) _;refine⟨_,_,hrun,ah4.grown (by rw[lx,hxl,ac1,<-lL]) k4 k1 (by omega) k2 k3 (aj4 w.drew _),hxl,λb hb _=>hbel.block b hb,⟨rfl,rfl,rfl,hbel.size⟩,λb hb=>?_⟩;cases cap with
  |zero=>omega
  |succ cap=>simp only[ad7,sk]at hb;exact .inr (by omega)
 rcases hown with⟨a,rfl,rfl,rfl⟩|⟨b,oo,cap,cur,rfl,c1,c2',c3,c4,c5,c6⟩
 ·exact grows a 0 rfl (by omega) (by simp) (λ_=>⟨rfl,rfl⟩)
 ·by_cases hroomy:len+len2<=cap+1
  ·have hmul:len*te.2.1+len2*te.2.1<=(cap+1)*te.2.1:=by rw[<-lL];exact lk _ hroomy
   have hfit:oo+len*te.2.1+(ad0 c o2 (len2*te.2.1)).length<=cur.size:=by rw[ac1];omega
   have hrun:=av2 (P:=P) w t ty te.1 i q1 q2 b oo len (cap+1) cur c1 ⟨b2,o2,none⟩ len2 c2 (ad0 c o2 (len2*te.2.1)) (by rw[ac1,q3]) (aq3 hb2 hc2)
    (an7 hone hpos) hroomy (by rw[q3];exact hfit)
   rw[q3]at hrun;have hsz:=ag5 cur (ad0 c o2 (len2*te.2.1)) (oo+len*te.2.1) hfit;refine⟨_,_,hrun,.inr ⟨b,oo,cap,_,rfl,setRow_heap w b cur _ te.1 _ c1,hroomy,c3,by rw[hsz];exact c4,?_,by rw[lx,hxl,ac1,<-lL]⟩,hxl,λb' hb' hne=>setRow_other w b b' _ (λhc=>hne (by rw[hc];rfl)),⟨rfl,rfl,rfl,by simp[World.setRow]⟩,λb' hb'=> .inl hb'⟩;exact aW5 c5 hxl (by rw[lC];omega) (by rw[ac1,lL])
  ·refine grows (some ⟨b,oo,none⟩) (cap+1) rfl (by omega) (λb' hb' j u hj=>?_) (λhc=>by cases hc);cases hb';have hlt:j<len*te.2.1:=by
    have:=(lT.1 hj).1
    omega
   have hmul:len*te.2.1<=(cap+1)*te.2.1:=lk _ c2';rw[ad9,cell_of_row w b (oo+j) cur te.1 _ c1];rw[<-c5,xR,ll hlt,xx,lM]at hj;exact hj
theorem bf9{E:Env}{k ver:Nat}{v:Value}{us:Nat->Option Nat}(he:E k=some (.slc ver v us))(v':Value)(us':Nat->Option Nat):E.le (E.put k (.slc (ver+1) v' us')):=by
 refine⟨λj b hj=>?_,λj ver' v'' us'' hj=>?_⟩
 ·by_cases hjk:j=k
  ·subst hjk;rw[he]at hj;cases hj
  ·rw[Env.ac6 hjk];exact hj
 ·by_cases hjk:j=k
  ·subst hjk;rw[he]at hj;cases hj;exact⟨_,_,_,Env.aa8 _ _ _,lab _,λhc=>by omega⟩
  ·exact⟨_,_,_,by rw[Env.ac6 hjk];exact hj,lh _,λ_=>rfl⟩
theorem aS3{P:Program}{w0 X0 H E w nm}(h:Rep w0 X0 H E w){t ty:TypeId}{te:TypeId×Nat×Nat}(ht:tsl P t=some te){z:List Value}(hz:am4 P te.1=some z){s x:SV}{v u:Value}
  (hs:R w (Xo X0 E H) E s v) (hx:R w (Xo X0 E H) E x u) {y:Yd}(hy:aj6 te H s x=some y) (hask:y.ask):
  ∃r w',(Builtin.append_ #[t,t] ty #[v,u]).run P w=.ok r w'/\Goes w0 X0 H E w nm y.eff y.val r w':=by
 unfold aj6 at hy;split at hy
 case h_2=>cases hy
 rename_i k ver;split at hy
 case h_2=>cases hy
 rename_i k2 ver2;split at hy
 case h_2=>cases hy
 rename_i ver' len n c m p g T T' ho hk;split at hy
 case h_2=>cases hy
 rename_i ver2' len2 n2 cc mm pp g2 TT TT' ho2 hk2;split at hy
 case h_2=>cases hy
 split at hy
 case h_2=>cases hy
 rename_i h2 sv;obtain⟨⟨⟨⟨rfl,rfl⟩,rfl,hn,rfl⟩,rfl,rfl⟩,rfl⟩:=aa0 hy;have own:∀{k ver:Nat}{v:Value}{so:SO},rowV so=some ver->H.getD k .dead=so->R w (Xo X0 E H) E (.osl k ver) v->∃us,E k=some (.slc ver v us):=by
  intro k ver v so hv hso hr;cases hr with
  |osl he _=>exact⟨_,he⟩
  |oslOld he hl _=>
   have hok:=h.ok k _ he;rw[hso]at hok;cases so<;>simp only[rowV,reduceCtorEq,sk]at hv
   have:=hok.1
   omega
 obtain⟨us,he⟩:=own rfl hk hs;obtain⟨us2,he2⟩:=own rfl hk2 hx;have hok:=h.ok k _ he;have hok2:=h.ok k2 _ he2;rw[hk]at hok;rw[hk2]at hok2;obtain⟨_,xs,d⟩:=hok;obtain⟨_,xs2,d2⟩:=hok2;subst hn;have hroom:room (len+1) te.2.2:=hask.out;rcases d2.own with⟨a,_,hz,_⟩|⟨b2,oo,cap2,cur,rfl,e1,e2,e3,e4,e5,e6⟩
 ·cases hz
 have hxs2:∀j<te.2.1,cur.getD (oo+0*te.2.1+j) undef=xs2.getD j undef:=λj hj=>by
  rw[<-e5,ab5 (by omega)];simp
 have as2:∀j<te.2.1,ab1 (xs2.getD j undef):=λj hj=>by
  cases j with
  |zero=>have:=d2.out 0 sv (by omega) (by simp[hoAt]);rw[xz]at this;exact this.1
  |succ j=>have:=d2.rest 0 (j+1) (by omega) (xF _) hj;rw[xz,lI]at this;exact this.1
 have hc4:1*te.2.1<=(cap2+1)*te.2.1:=lk _ e2;obtain⟨r,w',hrun,hown,hxl,hblk,⟨w1,w2,w3,w4⟩,hb'⟩:=aT2 (P:=P) (ty:=ty) (c2:=cap2+1) ht hz d.own d.pos (len2:=1) (o2:=oo) (by omega) e1 (by omega) (λi j hi hj=>by
  obtain rfl:i=0:=by omega
  rw[hxs2 j hj];exact as2 j hj) hroom
 refine⟨r,w',hrun,?_⟩;have hin:∀i b,i<len->us i=some b->ad7 v≠some b/\b<w.heap.size:=λi b hi hb=>by
  obtain⟨g1,ys,g2,_⟩:=d.inn i hi rfl;exact⟨d.apart i b hi rfl hb,g2.lt (g1.trans hb)⟩
 refine Goes.set (e':= .slc (ver+1) r us) h he (bf9 he r us) (λb hb hne=>hblk b hb λhc=>hne (by rw[hk];exact .inl hc)) w1 w2 w3 w4 (λb hb=>?_) (λhke hwi=>?_) λX=> .osl (Env.aa8 _ _ _) hown.b40
 ·rcases hb with hb|⟨i,hi,hh,hb⟩
  ·rcases hb' b hb with hc|hc
   ·exact .inl (by rw[hk];exact .inl hc)
   ·exact .inr hc
  ·have hne:len≠i:=λhc=>by simp[hoAt,hc]at hh
   exact .inl (by rw[hk];exact .inr ⟨i,by omega,rfl,hb⟩)
 ·have hle:=bf9 he r us;have getO:∀i j,i<len->j<te.2.1->(xs++ad0 cur oo (1*te.2.1)).getD (i*te.2.1+j) undef=xs.getD (i*te.2.1+j) undef:=λi j hi hj=>by
   rw[ak2,hxl,ll (ab8 hi hj)]
  have getN:∀j<te.2.1,(xs++ad0 cur oo (1*te.2.1)).getD (len*te.2.1+j) undef=xs2.getD j undef:=λj hj=>by
   rw[ak2,hxl,lu (by omega),show len*te.2.1+j-len*te.2.1=j by omega,aj7 (by omega)];simpa using hxs2 j hj
  refine⟨rfl,_,d.pos,hown,λi j hi h0 hj=>?_,λi sv' hi hh=>?_,λi hi hh=>?_,λi b hi hh hb=>?_,λi i' b hi hi' hh hh' hb hb2=>?_⟩
  ·by_cases hlt:i<len
   ·rw[ba8 hlt,getO i j hlt hj];exact⟨(d.rest i j hlt h0 hj).1,(d.rest i j hlt h0 hj).2.mono hke hwi (Env.le_refl _)⟩
   ·obtain rfl:i=len:=by omega
    rw[bq1 hlt,uE,getN j hj];have:=d2.rest 0 j (by omega) h0 hj
    rw[xz,lI]at this;exact⟨this.1,this.2.mono hke hwi (Env.le_refl _)⟩
  ·have hh2:(if len=i then some sv else none)=some sv':=hh;obtain⟨rfl,rfl⟩:=aa0 hh2;have:=getN 0 d.pos
   rw[lV]at this;rw[this];have:=d2.out 0 sv (by omega) (by simp[hoAt])
   rw[xz]at this;exact⟨this.1,this.2.mono hke hwi hle⟩
  ·have hne:len≠i:=λhc=>by simp[hoAt,hc]at hh
   have hlt:i<len:=by omega
   have h3:=getO i 0 hlt d.pos;rw[lV]at h3;rw[h3];obtain⟨g1,ys,g2,g3⟩:=d.inn i hlt rfl;refine⟨g1,ys,g2.mono λb ⟨a,mm,c,q1,q2⟩=>?_,λi' j hi' hj=>⟨(g3 i' j hi' hj).1,(g3 i' j hi' hj).2.mono hke hwi (Env.le_refl _)⟩⟩;rw[q1]at g1;subst q2;have:=hin i a.block hlt g1.symm
   exact hblk _ this.2 this.1
  ·have hne:len≠i:=λhc=>by simp[hoAt,hc]at hh
   have:=hin i b (by omega) hb
   exactλhc=>by
    rcases hb' b hc with hd|hd
    ·exact this.1 hd
    ·omega
  ·have hne:len≠i:=λhc=>by simp[hoAt,hc]at hh
   have hne':len≠i':=λhc=>by simp[hoAt,hc]at hh'
   exact d.inj i i' b (by omega) (by omega) rfl rfl hb hb2
theorem aS2{P:Program}{w0 X0 H E w nm}(h:Rep w0 X0 H E w){t ty:TypeId}{te:TypeId×Nat×Nat}(ht:tsl P t=some te){z:List Value}(hz:am4 P te.1=some z){v:Value}{k ver:Nat}{us:Nat->Option Nat}
  (he:E k=some (.slc ver v us)) {len c:Nat}{m:Nat->Nat}{p:Nat->Nat->Nat->SV}{g:Nat->Nat->SV}{T':TypeId}(hk:H.getD k .dead=.deep ver len te.2.1 c m p g te.1 T' none)
  {b2 o2 c2:Nat}{cur:Array Value}{T2:TypeId}{fr:Nat×Nat}{g2:Nat->Nat->SV}(hb2:w.heap[b2]?=some (.cells cur T2 fr)) (hc2:o2+1*te.2.1<=cur.size)
  (hcont:∀i j,i<1->j<te.2.1->ab1 (cur.getD (o2+i*te.2.1+j) undef)/\R w (Xo X0 E H) E0 (g2 i j) (cur.getD (o2+i*te.2.1+j) undef)) (hroom:room (len+1) te.2.2):
  ∃r w',(Builtin.append_ #[t,t] ty #[v,.slice (some ⟨b2,o2,none⟩) 1 c2]).run P w=.ok r w'/\
   Goes w0 X0 H E w nm (.sets [(k,.deep (ver+1) (len+1) te.2.1 c m p (appG len g g2) te.1 T' (some (len,g2 0 0)))]) (.osl k (ver+1)) r w':=by
 have hok:=h.ok k _ he;rw[hk]at hok;obtain⟨_,xs,d⟩:=hok;have hone:∀j<te.2.1,ab1 (cur.getD (o2+j) undef)/\R w (Xo X0 E H) E0 (g2 0 j) (cur.getD (o2+j) undef):=λj hj=>by
  have:=hcont 0 j (by omega) hj
  rw[xz,lV]at this;exact this
 obtain⟨r,w',hrun,hown,hxl,hblk,⟨w1,w2,w3,w4⟩,hb'⟩:=aT2 (P:=P) (ty:=ty) (c2:=c2) ht hz d.own d.pos (len2:=1) (o2:=o2) (by omega) hb2 hc2 (λi j hi hj=>(hcont i j hi hj).1) hroom;refine⟨r,w',hrun,?_⟩;have hin:∀i b,i<len->us i=some b->ad7 v≠some b/\b<w.heap.size:=λi b hi hb=>by
  obtain⟨g1,ys,g2,_⟩:=d.inn i hi rfl;exact⟨d.apart i b hi rfl hb,g2.lt (g1.trans hb)⟩
 refine Goes.set (e':= .slc (ver+1) r us) h he (bf9 he r us) (λb hb hne=>hblk b hb λhc=>hne (by rw[hk];exact .inl hc)) w1 w2 w3 w4 (λb hb=>?_) (λhke hwi=>?_) λX=> .osl (Env.aa8 _ _ _) hown.b40
 ·rcases hb with hb|⟨i,hi,hh,hb⟩
  ·rcases hb' b hb with hc|hc
   ·exact .inl (by rw[hk];exact .inl hc)
   ·exact .inr hc
  ·have hne:len≠i:=λhc=>by simp[hoAt,hc]at hh
   exact .inl (by rw[hk];exact .inr ⟨i,by omega,rfl,hb⟩)
 ·have hle:=bf9 he r us;have getO:∀i j,i<len->j<te.2.1->(xs++ad0 cur o2 (1*te.2.1)).getD (i*te.2.1+j) undef=xs.getD (i*te.2.1+j) undef:=λi j hi hj=>by
   rw[ak2,hxl,ll (ab8 hi hj)]
  have getN:∀j<te.2.1,(xs++ad0 cur o2 (1*te.2.1)).getD (len*te.2.1+j) undef=cur.getD (o2+j) undef:=λj hj=>by
   rw[ak2,hxl,lu (by omega),show len*te.2.1+j-len*te.2.1=j by omega,aj7 (by omega)]
  refine⟨rfl,_,d.pos,hown,λi j hi h0 hj=>?_,λi sv' hi hh=>?_,λi hi hh=>?_,λi b hi hh hb=>?_,λi i' b hi hi' hh hh' hb hb2=>?_⟩
  ·by_cases hlt:i<len
   ·rw[ba8 hlt,getO i j hlt hj];exact⟨(d.rest i j hlt h0 hj).1,(d.rest i j hlt h0 hj).2.mono hke hwi (Env.le_refl _)⟩
   ·obtain rfl:i=len:=by omega
    rw[bq1 hlt,uE,getN j hj];exact⟨(hone j hj).1,(hone j hj).2.mono hke hwi (Env.le_refl _)⟩
  ·have hh2:(if len=i then some (g2 0 0)else none)=some sv':=hh;obtain⟨rfl,rfl⟩:=aa0 hh2;have:=getN 0 d.pos
   rw[lV]at this;rw[this];exact⟨(hone 0 d.pos).1,(hone 0 d.pos).2.mono hke hwi (Env.bk1 _)⟩
  ·have hne:len≠i:=λhc=>by simp[hoAt,hc]at hh
   have hlt:i<len:=by omega
   have h3:=getO i 0 hlt d.pos;rw[lV]at h3;rw[h3];obtain⟨g1,ys,g2,g3⟩:=d.inn i hlt rfl;refine⟨g1,ys,g2.mono λb ⟨a,mm,c,q1,q2⟩=>?_,λi' j hi' hj=>⟨(g3 i' j hi' hj).1,(g3 i' j hi' hj).2.mono hke hwi (Env.le_refl _)⟩⟩;rw[q1]at g1;subst q2;have:=hin i a.block hlt g1.symm
   exact hblk _ this.2 this.1
  ·have hne:len≠i:=λhc=>by simp[hoAt,hc]at hh
   have:=hin i b (by omega) hb
   exactλhc=>by
    rcases hb' b hc with hd|hd
    ·exact this.1 hd
    ·omega
  ·have hne:len≠i:=λhc=>by simp[hoAt,hc]at hh
   have hne':len≠i':=λhc=>by simp[hoAt,hc]at hh'
   exact d.inj i i' b (by omega) (by omega) rfl rfl hb hb2
theorem aV4{P:Program}{w0 X0 H E w nm}(h:Rep w0 X0 H E w){t ty:TypeId}{te:TypeId×Nat×Nat}(ht:tsl P t=some te){z:List Value}(hz:am4 P te.1=some z){s x:SV}{v u:Value}
  (hs:R w (Xo X0 E H) E s v) (hx:R w (Xo X0 E H) E x u) {y:Yd}(hy:ak5 te H nm s x=some y) (hask:y.ask) (hf:Free H E nm y.eff):
  ∃r w',(Builtin.append_ #[t,t] ty #[v,u]).run P w=.ok r w'/\Goes w0 X0 H E w nm y.eff y.val r w':=by
 obtain⟨i,q1,q2,q3,q4⟩:=ai8 ht;obtain⟨i',zv,z1,z2,z3,z4,z5⟩:=ai4 hz;rw[q2]at z1;cases z1;unfold ak5 at hy;cases hsrc:aj0 H x with
 |none=>
  simp only[hsrc]at hy;exact aS3 h ht hz hs hx hy hask
 |some q=>
  obtain⟨len2,n2,g2⟩:=q;simp only[hsrc]at hy;obtain⟨a2,c2,rfl,hcells⟩:=ay5 h hx hsrc;split at hy
  case isFalse=>cases hy
  rename_i hcond;obtain⟨rfl,hpos⟩:=hcond;cases hs with
  |cap0=>
   rename_i a;simp only[sk]at hy;subst hy;have hroom:room len2 te.2.2:=hask.out;by_cases h0:len2=0
   ·subst h0;refine⟨_,w,at7 w t ty te.1 i q1 q2 a a2 0 0 c2 (lh _),?_⟩;refine Goes.new (e:= .slc 0 (.slice a 0 0) (λ_=>none)) h hf (Below.refl _ _) (λb hb=>by cases a<;>simp[holds,ad7]at hb) (λhke hwi hle=>⟨rfl,[],.inl ⟨_,rfl,rfl,rfl⟩,λi j hi=>absurd hi (ln _)⟩) λX=> .osl (Env.aa8 _ _ _) ⟨_,_,_,rfl⟩
   ·rcases hcells with hc0|⟨b2,o2,c,T,fr,rfl,hb2,hc2,hcont⟩
    ·exact absurd hc0 h0
    obtain⟨cap,cur,hrun,k1,k2,rest,k3,k4⟩:=a65 (P:=P) (ty:=ty) (a:=a) (sLen:=0) (sCap:=0) (c2:=c2) q1 q2 z2 z4 q3 (by omega) (by omega) [] (by simp) (by simp) (λ_=>⟨rfl,rfl⟩) hb2 hc2 (by rw[q4,lI];exact hroom);simp only[lI,uW]at hrun k1 k3 k4;refine⟨_,_,hrun,?_⟩;have hsz:cur.size=cap*te.2.1:=by
     rw[<-lC,k3,lx,ac1,k4,<-lL];congr 1;omega
    refine Goes.row h hf k1 k2 hsz ((Below.refl _ _).drew) rfl λi j hi hj=>?_
    have hlt:=ab8 (n:=te.2.1) hi hj;have hget:cur.getD (i*te.2.1+j) undef=c.getD (o2+i*te.2.1+j) undef:=by
     rw[<-ab9,k3,ak2,ac1,ll hlt,aj7 hlt,xf]
    rw[hget];exact hcont i j hi hj
  |osl he hv=>
   rename_i k ver us;have hok:=h.ok k _ he;simp only at hy
   by_cases hdp:∃ver' len n c m p g T T' ho,H.getD k .dead=.deep ver' len n c m p g T T' ho
   ·obtain⟨ver',len,n,c,m,p,g,T,T',ho,hk⟩:=hdp;rw[hk]at hok hy;simp only at hy
    split at hy
    case h_2=>cases hy
    obtain⟨⟨⟨⟨rfl,rfl,rfl⟩,rfl⟩,hpu⟩,rfl⟩:=aa0 hy;rcases hcells with hc0|⟨b2,o2,c0,T2,fr,rfl,hb2,hc2,hcont⟩
    ·omega
    exact aS2 h ht hz he hk hb2 hc2 hcont hask.out
   generalize hk:H.getD k .dead=so at hy hok hdp;cases so<;>simp only[reduceCtorEq]at hy
   case deep=>exact(hdp ⟨_,_,_,_,_,_,_,_,_,_,rfl⟩).elim
   rename_i ver' len n g T;obtain⟨⟨⟨rfl,rfl,rfl⟩,hnot⟩,rfl⟩:=aa0 hy;obtain⟨_,xs,hown,hcont1⟩:=hok;have hroom:room (len+len2) te.2.2:=hask.out;have hxl:xs.length=len*te.2.1:=by
    rcases hown with⟨a,rfl,rfl,rfl⟩|⟨b,oo,cap,cur,rfl,c1,c2',c3,c4,c5,c6⟩
    ·simp
    ·exact c6
   have hle:E.le (E.put k (.slc (ver+1) v us))/\∀v',E.le (E.put k (.slc (ver+1) v' us)):=by
    have:∀v',E.le (E.put k (.slc (ver+1) v' us)):=by
     intro v';refine⟨λj b hj=>?_,λj ver' v'' us'' hj=>?_⟩
     ·by_cases hjk:j=k
      ·subst hjk;rw[he]at hj;cases hj
      ·rw[Env.ac6 hjk];exact hj
     ·by_cases hjk:j=k
      ·subst hjk;rw[he]at hj;cases hj;exact⟨_,_,_,Env.aa8 _ _ _,lab _,λhc=>by omega⟩
      ·exact⟨_,_,_,by rw[Env.ac6 hjk];exact hj,lh _,λ_=>rfl⟩
    exact⟨this _,this⟩
   obtain⟨_,hle⟩:=hle;by_cases h0:len2=0
   ·subst h0;have hshape:∃a cap,v=.slice a len cap/\len<=cap:=by
     rcases hown with⟨a,rfl,rfl,rfl⟩|⟨b,oo,cap,cur,rfl,c1,c2',_⟩
     ·exact⟨_,_,rfl,lh _⟩
     ·exact⟨_,_,rfl,c2'⟩
    obtain⟨a,cap,rfl,hlc⟩:=hshape;refine⟨_,w,at7 w t ty te.1 i q1 q2 a a2 len cap c2 hlc,?_⟩;refine Goes.set (e':= .slc (ver+1) (.slice a len cap) us) h he (hle _) (λ_ _ _=>rfl) rfl rfl rfl (lh _) (λb hb=> .inl ?_) (λhke hwi=>⟨rfl,xs,hown,λi' j hi hj=>?_⟩) λX=> .osl (Env.aa8 _ _ _) ⟨_,_,_,rfl⟩
    ·rw[hk];exact hb
    ·have hlt:i'<len:=hi;rw[ba8 hlt];exact⟨(hcont1 i' j hlt hj).1,(hcont1 i' j hlt hj).2.mono hke hwi (Env.le_refl _)⟩
   ·rcases hcells with hc0|⟨b2,o2,c,T2,fr,rfl,hb2,hc2,hcont⟩
    ·exact absurd hc0 h0
    have hnews:=bf0 (o:=o2) hcont;have grows:∀(a:Option Addr)(sCap:Nat),v=.slice a len sCap->sCap<len+len2->(∀b,a=some b->∀j u,xs[j]?=some u->w.cell? (b.add j)=some u)->(a=none->len=0/\sCap=0)->
      ∃r w',(Builtin.append_ #[t,t] ty #[v,.slice (some ⟨b2,o2,none⟩) len2 c2]).run P w=.ok r w'/\Goes w0 X0 H E w nm (.sets [(k,.row (ver+1) (len+len2) te.2.1 (appG len g g2) te.1)]) (.osl k (ver+1)) r w':=by
     intro a sCap hva hlt holds hnone;subst hva;obtain⟨cap,cur,hrun,k1,k2,rest,k3,k4⟩:=a65 (P:=P) (ty:=ty) (a:=a) (sLen:=len) (sCap:=sCap) (c2:=c2) q1 q2 z2 z4 q3 (by omega) hlt xs hxl holds hnone hb2 hc2 (by rw[q4];exact hroom);refine⟨_,_,hrun,?_⟩;have hbel:Below w.heap.size w (w.drew.alloc (.cells cur te.1)):=((Below.refl _ _).drew).alloc (lh _) _;refine Goes.set (e':= .slc (ver+1) (.slice (some ⟨w.heap.size,0,none⟩) (len+len2) cap) us) h he (hle _) (λb hb _=>hbel.block b hb) rfl rfl rfl hbel.size (λb hb=>?_) (λhke hwi=>⟨rfl,xs++ad0 c o2 (len2*te.2.1),?_,λi' j hi hj=>?_⟩)
      λX=> .osl (Env.aa8 _ _ _) ⟨_,_,_,rfl⟩
     ·cases cap with
      |zero=>omega
      |succ cap=>simp only[Sx.holds,ad7,sk]at hb;exact .inr (by omega)
     ·exact ah4.grown (by rw[lx,hxl,ac1,<-lL]) k4 k1 (by omega) k2 k3 (aj4 w.drew _)
     ·have:=aT3 hxl hcont1 hnews i' j hi hj
      exact⟨this.1,this.2.mono hke hwi (Env.le_refl _)⟩
    rcases hown with⟨a,rfl,rfl,rfl⟩|⟨b,oo,cap,cur,rfl,c1,c2',c3,c4,c5,c6⟩
    ·exact grows a 0 rfl (by omega) (by simp) (λ_=>⟨rfl,rfl⟩)
    ·by_cases hroomy:len+len2<=cap+1
     ·have hmul:len*te.2.1+len2*te.2.1<=(cap+1)*te.2.1:=by rw[<-lL];exact lk _ hroomy
      have hfit:oo+len*te.2.1+(ad0 c o2 (len2*te.2.1)).length<=cur.size:=by rw[ac1];omega
      have hrun:=av2 (P:=P) w t ty te.1 i q1 q2 b oo len (cap+1) cur c1 ⟨b2,o2,none⟩ len2 c2 (ad0 c o2 (len2*te.2.1)) (by rw[ac1,q3]) (aq3 hb2 hc2)
       (an7 (λi j hi hj=>(hcont i j hi hj).1) hpos) hroomy (by rw[q3];exact hfit)
      rw[q3]at hrun;refine⟨_,_,hrun,?_⟩;have hsz:=ag5 cur (ad0 c o2 (len2*te.2.1)) (oo+len*te.2.1) hfit;refine Goes.set (e':= .slc (ver+1) (.slice (some ⟨b,oo,none⟩) (len+len2) (cap+1)) us) h he (hle _) (λb' hb' hne=>setRow_other w b b' _ (λhc=>hne (by rw[hk,hc];rfl))) rfl rfl rfl (by simp[World.setRow])
       (λb' hb'=> .inl (by rw[hk];exact hb')) (λhke hwi=>⟨rfl,xs++ad0 c o2 (len2*te.2.1),.inr ⟨b,oo,cap,_,rfl,setRow_heap w b cur _ te.1 _ c1,hroomy,c3,by rw[hsz];exact c4,?_,by rw[lx,hxl,ac1,<-lL]⟩,λi' j hi hj=>?_⟩)
       λX=> .osl (Env.aa8 _ _ _) ⟨_,_,_,rfl⟩
      ·exact aW5 c5 hxl (by rw[lC];omega) (by rw[ac1,lL])
      ·have:=aT3 hxl hcont1 hnews i' j hi hj
       exact⟨this.1,this.2.mono hke hwi (Env.le_refl _)⟩
     ·refine grows (some ⟨b,oo,none⟩) (cap+1) rfl (by omega) (λb' hb' j u hj=>?_) (λhc=>by cases hc);cases hb';have hlt:j<len*te.2.1:=by
       have:=(lT.1 hj).1
       omega
      have hmul:len*te.2.1<=(cap+1)*te.2.1:=lk _ c2';rw[ad9,cell_of_row w b (oo+j) cur te.1 _ c1];rw[<-c5,xR,ll hlt,xx,lM]at hj;exact hj
  |oslOld he hl hv=>
   rename_i k ver ver' v' us;have hok:=h.ok k _ he;simp only at hy
   generalize H.getD k .dead=so at hy hok;cases so<;>simp only[reduceCtorEq]at hy
   case deep=>
    split at hy
    case h_2=>cases hy
    obtain⟨⟨⟨⟨rfl,_⟩,_⟩,_⟩,_⟩:=aa0 hy;have:=hok.1
    omega
   obtain⟨⟨⟨rfl,_⟩,_⟩,_⟩:=aa0 hy;have:=hok.1
   omega
  |_=>simp at hy
theorem aB7{P:Program}(w:World)(dT sT ty e:TypeId)(i:TypeInfo)(ht:P.underlying dT=some (.slice e))(hi:P.info? e=some i)(a a':Option Addr)(n cap m c:Nat)(h0:Nat.min m n=0):
  (Builtin.copy_ #[dT,sT] ty #[.slice a n cap,.slice a' m c]).run P w=.ok (.int .i64 (Nat.min m n:Nat)) w:=by
 have hf:(Builtin.firstCells i.size 0 (.slice a' m c)).run P w=.ok #[] w:=by
  cases a' with
  |none=>exact run_firstCells_none w _ _ _ _
  |some b=>simp[Builtin.firstCells,loadCells,loadCellsFrom]
 rw[h0];cases a with
 |none=>simp[Builtin.copy_,run_underlying ht,sizeOf,typeInfo,hi,Builtin.lenOf,h0,hf,goInt]
 |some b=>simp[Builtin.copy_,run_underlying ht,sizeOf,typeInfo,hi,Builtin.lenOf,h0,hf,storeCells,goInt]
theorem bd5{P:Program}(w:World)(dT sT ty e:TypeId)(i:TypeInfo)(ht:P.underlying dT=some (.slice e))(hi:P.info? e=some i)(b o n cap m c:Nat)(a:Addr)(cur:Array Value)(T:TypeId)(cs:List Value)
  (hg:w.heap[b]?=some (.cells cur T (0,0))) (hn:cs.length=Nat.min m n*i.size) (hsrc:∀j v,cs[j]?=some v->w.cell? (a.add j)=some v) (hfit:o+cs.length<=cur.size) (h1:∀v∈cs,v.oneCell'=true):
  (Builtin.copy_ #[dT,sT] ty #[.slice (some ⟨b,o,none⟩) n cap,.slice (some a) m c]).run P w=.ok (.int .i64 (Nat.min m n:Nat)) (w.setRow b (cur.toList.take o++cs++cur.toList.drop (o+cs.length)).toArray):=by
 have hl:=run_loadCells_list (P:=P) w a cs hsrc;have hst:=run_storeCells_at P b o T cs 0 cur w hg (by simpa using hfit) h1;simp[Builtin.copy_,run_underlying ht,Builtin.lenOf,Builtin.firstCells,sizeOf,typeInfo,hi,<-hn,hl,hst,goInt]
theorem bi0{P:Program}{w0 X0 H E w nm}(h:Rep w0 X0 H E w){t t' ty:TypeId}{te:TypeId×Nat×Nat}(ht:tsl P t=some te){d x:SV}{v u:Value}
  (hd:R w (Xo X0 E H) E d v) (hx:R w (Xo X0 E H) E x u) {y:Yd}(hy:aY5 te H d x=some y) (hask:y.ask):
  ∃r w',(Builtin.copy_ #[t,t'] ty #[v,u]).run P w=.ok r w'/\Goes w0 X0 H E w nm y.eff y.val r w':=by
 obtain⟨i,q1,q2,q3,q4⟩:=ai8 ht;unfold aY5 at hy;cases hsrc:aj0 H x with
 |none=>simp[hsrc]at hy
 |some q=>
  obtain⟨len2,n2,g2⟩:=q;simp only[hsrc]at hy;obtain⟨a2,c2,rfl,hcells⟩:=ay5 h hx hsrc;have go:∀{k ver len wl lo n:Nat}{g:Nat->Nat->SV}{T:TypeId}{a a0:Option Addr}{cap0:Nat}{us:Nat->Option Nat},E k=some (.slc ver (.slice a0 len cap0) us)->H.getD k .dead=.row ver len n g T->n=n2->n2=te.2.1->0<n2->lo+wl<=len->
    (cap0-lo≠0->a=a0.map (·.add (lo*n)))->v=.slice a wl (cap0-lo)->y=⟨True,.int .i64 (Nat.min len2 wl:Nat),.sets [(k,.row ver len n (cpyG lo (Nat.min len2 wl) g g2) T)]⟩->
    ∃r w',(Builtin.copy_ #[t,t'] ty #[v,.slice a2 len2 c2]).run P w=.ok r w'/\Goes w0 X0 H E w nm y.eff y.val r w':=by
   intro k ver len wl lo n g T a a0 cap0 us he hk hn hn2 hpos hlo ha hv hyy;subst hyy;subst hv;subst hn;have hok:=h.ok k _ he;rw[hk]at hok;obtain⟨_,xs,hown,hcont1⟩:=hok;have hput:E.put k (.slc ver (.slice a0 len cap0) us)=E:=Env.af6 he;by_cases h0:Nat.min len2 wl=0
   ·refine⟨_,w,aB7 w t t' ty te.1 i q1 q2 a a2 wl _ len2 c2 h0,?_⟩;refine Goes.set (e':= .slc ver (.slice a0 len cap0) us) h he (by rw[hput];exact Env.le_refl _) (λ_ _ _=>rfl) rfl rfl rfl (lh _) (λb hb=> .inl ?_) (λhke hwi=>⟨rfl,xs,hown,λi' j hi hj=>?_⟩) λX=> .int
    ·rw[hk];exact hb
    ·rw[aM9 (by omega)];rw[hput]at hwi⊢;exact⟨(hcont1 i' j hi hj).1,(hcont1 i' j hi hj).2.mono hke hwi (Env.le_refl _)⟩
   ·have hwl:wl≠0:=λhc=>h0 (by rw[hc];exact Nat.min_zero _)
    have hl2:len2≠0:=λhc=>h0 (by rw[hc];exact Nat.zero_min _)
    rcases hcells with hc0|⟨b2,o2,c,T2,fr,rfl,hb2,hc2,hcont⟩
    ·exact absurd hc0 hl2
    rcases hown with⟨a',hv',rfl,rfl⟩|⟨b,oo,cap,cur,hv',c1,c2',c3,c4,c5,c6⟩
    ·omega
    cases hv';have hadd:a=some ⟨b,oo+lo*n,none⟩:=by rw[ha (by omega),lD];exact congrArg some (ad9 b oo _)
    subst hadd;generalize hm:Nat.min len2 wl=m at *
    have hml:m<=len2:=by rw[<-hm];exact Nat.min_le_left _ _
    have hmw:m<=wl:=by rw[<-hm];exact Nat.min_le_right _ _
    have hm2:=lk n hml;have hm3:=lk n (show lo+m<=cap+1 by omega);rw[lL]at hm3;have hfit:oo+lo*n+(ad0 c o2 (m*n)).length<=cur.size:=by rw[ac1];omega
    have hrun:=bd5 (P:=P) w t t' ty te.1 i q1 q2 b (oo+lo*n) wl (cap+1-lo) len2 c2 ⟨b2,o2,none⟩ cur T (ad0 c o2 (m*n)) c1 (by rw[ac1,q3,hm,hn2]) (aq3 hb2 (by omega))
     hfit (an7 (λi j hi hj=>(hcont i j (by omega) hj).1) hpos)
    rw[hm]at hrun;refine⟨_,_,hrun,?_⟩;have hsz:=ag5 cur (ad0 c o2 (m*n)) (oo+lo*n) hfit;refine Goes.set (e':= .slc ver (.slice (some ⟨b,oo,none⟩) len (cap+1)) us) h he (by rw[hput];exact Env.le_refl _) (λb' hb' hne=>setRow_other w b b' _ (λhc=>hne (by rw[hk,hc];rfl))) rfl rfl rfl (by simp[World.setRow])
     (λb' hb'=> .inl (by rw[hk];exact hb')) (λhke hwi=>?_) λX=> .int
    rw[hput]at hwi⊢;refine⟨rfl,_,.inr ⟨b,oo,cap,_,rfl,setRow_heap w b cur _ T _ c1,c2',c3,by rw[hsz];exact c4,rfl,?_⟩,λi' j hi hj=>?_⟩
    ·rw[xu,xH,lC,hsz,c4,xM];exact uv (lk _ c2')
    ·have hlt:=ab8 (n:=n) hi hj;have key:=(ai1 cur (ad0 c o2 (m*n)) (oo+lo*n) (oo+(i'*n+j)) hfit).trans
      (show _=if oo+lo*n<=oo+(i'*n+j)/\oo+(i'*n+j)<oo+lo*n+m*n then(ad0 c o2 (m*n)).getD (oo+(i'*n+j)-(oo+lo*n)) undef else cur.getD (oo+(i'*n+j)) undef by rw[ac1])
     rw[ab5 hlt,key];have hold:cur.getD (oo+(i'*n+j)) undef=xs.getD (i'*n+j) undef:=by subst c5;rw[ab5 hlt]
     by_cases hin:lo<=i'/\i'<lo+m
     ·have hlt2:=ab8 (n:=n) (show i'-lo<m by omega) hj;have h1:lo*n<=i'*n:=lk _ hin.1;have h2:(i'-lo)*n=i'*n-lo*n:=Nat.sub_mul _ _ _;rw[bR3 hin,ll (by omega),aj7 (by omega),show o2+(oo+(i'*n+j)-(oo+lo*n))=o2+(i'-lo)*n+j by omega];exact⟨(hcont (i'-lo) j (by omega) hj).1,(hcont (i'-lo) j (by omega) hj).2.mono hke hwi (Env.le_refl _)⟩
     ·have hne:¬ (oo+lo*n<=oo+(i'*n+j)/\oo+(i'*n+j)<oo+lo*n+m*n):=by
       rcases uk i' lo with hlt'|hge
       ·have:=ab8 (n:=n) hlt' hj
        omega
       ·have:(lo+m)*n<=i'*n:=lk _ (by omega)
        rw[lL]at this;omega
      rw[aM9 hin,lu hne,hold];exact⟨(hcont1 i' j hi hj).1,(hcont1 i' j hi hj).2.mono hke hwi (Env.le_refl _)⟩
  cases hd with
  |osl he hv=>
   rename_i k ver us;have hok:=h.ok k _ he;simp only at hy
   generalize hk:H.getD k .dead=so at hy hok;cases so<;>simp only[reduceCtorEq]at hy
   rename_i ver' len n g T;obtain⟨⟨⟨⟨rfl,rfl⟩,hn2,hpos⟩,hnot⟩,hyy⟩:=aa0 hy;have hsh:∃a cap,v=.slice a len cap/\(cap-0≠0->a=a.map (·.add (0*n))):=by
    obtain⟨_,xs,hown,_⟩:=hok;rcases hown with⟨a,rfl,rfl,rfl⟩|⟨b,oo,cap,cur,rfl,c1,c2',_⟩
    ·exact⟨_,_,rfl,λhc=>absurd rfl hc⟩
    ·exact⟨_,_,rfl,λ_=>by rw[lD,ad9,xz,lV]⟩
   obtain⟨a,cap,rfl,ha⟩:=hsh;exact go (lo:=0) he hk rfl hn2 hpos (by omega) ha rfl hyy.symm
  |oslOld he hl hv=>
   rename_i k ver ver' v' us;have hok:=h.ok k _ he;simp only at hy
   generalize H.getD k .dead=so at hy hok;cases so<;>simp only[reduceCtorEq]at hy
   obtain⟨⟨⟨⟨rfl,_⟩,_⟩,_⟩,_⟩:=aa0 hy;have:=hok.1
   omega
  |part he hl=>
   rename_i bo k ver o wl b len0 cap0 cap us;have hok:=h.ok k _ he;simp only at hy
   generalize hk:H.getD k .dead=so at hy hok;cases so<;>simp only[reduceCtorEq]at hy
   rename_i ver' len n g T;obtain⟨⟨⟨⟨rfl,rfl⟩,hte,hpos⟩,hnot⟩,rfl⟩:=aa0 hy;have hfit0:o+wl<=len*n:=hask.out;obtain⟨_,xs,hown,hcont1⟩:=hok;have hput:E.put k (.slc ver (.slice (some ⟨b,bo,none⟩) len0 cap0) us)=E:=Env.af6 he;by_cases h0:Nat.min len2 wl=0
   ·refine⟨_,w,aB7 w t t' ty te.1 i q1 q2 (some ⟨b,bo+o,none⟩) a2 wl _ len2 c2 h0,?_⟩;refine Goes.set (e':= .slc ver (.slice (some ⟨b,bo,none⟩) len0 cap0) us) h he (by rw[hput];exact Env.le_refl _) (λ_ _ _=>rfl) rfl rfl rfl (lh _) (λb hb=> .inl ?_) (λhke hwi=>⟨rfl,xs,hown,λi' j hi hj=>?_⟩) λX=> .int
    ·rw[hk];exact hb
    ·rw[bw1 (by omega)];rw[hput]at hwi⊢;exact⟨(hcont1 i' j hi hj).1,(hcont1 i' j hi hj).2.mono hke hwi (Env.le_refl _)⟩
   ·have hwl:wl≠0:=λhc=>h0 (by rw[hc];exact Nat.min_zero _)
    have hl2:len2≠0:=λhc=>h0 (by rw[hc];exact Nat.zero_min _)
    rcases hcells with hc0|⟨b2,o2,c,T2,fr,rfl,hb2,hc2,hcont⟩
    ·exact absurd hc0 hl2
    rcases hown with⟨a',hv',rfl,rfl⟩|⟨b',oo,cap',cur,hv',c1,c2',c3,c4,c5,c6⟩
    ·omega
    cases hv';generalize hm:Nat.min len2 wl=m at *
    have hml:m<=len2:=by rw[<-hm];exact Nat.min_le_left _ _
    have hmw:m<=wl:=by rw[<-hm];exact Nat.min_le_right _ _
    have hcap:=lk n c2';have hfit:bo+o+(ad0 c o2 (m*1)).length<=cur.size:=by rw[ac1];omega
    have hrun:=bd5 (P:=P) w t t' ty te.1 i q1 q2 b (bo+o) wl cap len2 c2 ⟨b2,o2,none⟩ cur T (ad0 c o2 (m*1)) c1 (by rw[ac1,q3,hm,hte]) (aq3 hb2 (by omega))
     hfit (an7 (λi j hi hj=>(hcont i j (by omega) hj).1) Nat.one_pos)
    rw[hm]at hrun;refine⟨_,_,hrun,?_⟩;have hsz:=ag5 cur (ad0 c o2 (m*1)) (bo+o) hfit;refine Goes.set (e':= .slc ver (.slice (some ⟨b,bo,none⟩) _ (cap'+1)) us) h he (by rw[hput];exact Env.le_refl _) (λb' hb' hne=>setRow_other w b b' _ (λhc=>hne (by rw[hk,hc];rfl))) rfl rfl rfl (by simp[World.setRow])
     (λb' hb'=> .inl (by rw[hk];exact hb')) (λhke hwi=>?_) λX=> .int
    rw[hput]at hwi⊢;refine⟨rfl,_,.inr ⟨b,bo,cap',_,rfl,setRow_heap w b cur _ T _ c1,c2',c3,by rw[hsz];exact c4,rfl,?_⟩,λi' j hi hj=>?_⟩
    ·rw[xu,xH,lC,hsz,c4,xM];exact uv (lk _ c2')
    ·have hlt:=ab8 (n:=n) hi hj;have key:=(ai1 cur (ad0 c o2 (m*1)) (bo+o) (bo+(i'*n+j)) hfit).trans
      (show _=if bo+o<=bo+(i'*n+j)/\bo+(i'*n+j)<bo+o+m*1 then(ad0 c o2 (m*1)).getD (bo+(i'*n+j)-(bo+o)) undef else cur.getD (bo+(i'*n+j)) undef by rw[ac1])
     rw[ab5 hlt,key];have hold:cur.getD (bo+(i'*n+j)) undef=xs.getD (i'*n+j) undef:=by subst c5;rw[ab5 hlt]
     by_cases hin:o<=i'*n+j/\i'*n+j<o+m
     ·rw[ci3 hin,ll (by omega),aj7 (by omega),show o2+(bo+(i'*n+j)-(bo+o))=o2+(i'*n+j-o)*1+0 by omega];exact⟨(hcont (i'*n+j-o) 0 (by omega) Nat.one_pos).1,(hcont (i'*n+j-o) 0 (by omega) Nat.one_pos).2.mono hke hwi (Env.le_refl _)⟩
     ·rw[bw1 hin,lu (by omega),hold];exact⟨(hcont1 i' j hi hj).1,(hcont1 i' j hi hj).2.mono hke hwi (Env.le_refl _)⟩
  |partOld he hl hv=>
   rename_i k ver ver' v' o wl us;have hok:=h.ok k _ he;simp only at hy
   generalize H.getD k .dead=so at hy hok;cases so<;>simp only[reduceCtorEq]at hy
   obtain⟨⟨⟨⟨rfl,_⟩,_⟩,_⟩,_⟩:=aa0 hy;have:=hok.1
   omega
  |win he hl ha h0=>
   rename_i k ver m lo wl a a0 len0 cap0 us;have hok:=h.ok k _ he;simp only at hy
   generalize hk:H.getD k .dead=so at hy hok;cases so<;>simp only[reduceCtorEq]at hy
   rename_i ver' len n g T;obtain⟨⟨⟨⟨rfl,rfl,rfl⟩,hn2,hpos⟩,hnot⟩,hyy⟩:=aa0 hy;have hsh:len0=len:=by
    obtain⟨_,xs,hown,_⟩:=hok;rcases hown with⟨a,hv',rfl,rfl⟩|⟨b,oo,cap,cur,hv',_⟩<;>cases hv'<;>rfl
   subst hsh;exact go he hk rfl hn2 hpos hl ha rfl hyy.symm
  |winOld he hl hv=>
   rename_i k ver ver' v' m lo wl us;have hok:=h.ok k _ he;simp only at hy
   generalize H.getD k .dead=so at hy hok;cases so<;>simp only[reduceCtorEq]at hy
   obtain⟨⟨⟨⟨rfl,_⟩,_⟩,_⟩,_⟩:=aa0 hy;have:=hok.1
   omega
  |_=>simp at hy
theorem aU0{P:Program}(w:World)(dT ty e:TypeId)(ht:P.underlying dT=some (.slice e))(a:Option Addr)(cap:Nat):
  (Builtin.clear_ #[dT] ty #[.slice a 0 cap]).run P w=.ok (.tuple #[]) w:=by
 cases a<;>simp[Builtin.clear_,run_underlying ht]
theorem bJ9{P:Program}(w:World)(dT ty e:TypeId)(i:TypeInfo)(zv:Value)(ht:P.underlying dT=some (.slice e))(hi:P.info? e=some i)(hz:i.zero=some zv)(b o n cap:Nat)(cur:Array Value)(T:TypeId)
  (hg:w.heap[b]?=some (.cells cur T (0,0))) (hn:n≠0) (hfit:o+n*zv.cells.size<=cur.size) (h1:∀v∈(Builtin.zeroCells zv.cells n).toList,v.oneCell'=true):
  (Builtin.clear_ #[dT] ty #[.slice (some ⟨b,o,none⟩) n cap]).run P w=.ok (.tuple #[]) (w.setRow b (cur.toList.take o++(Builtin.zeroCells zv.cells n).toList++cur.toList.drop (o+(Builtin.zeroCells zv.cells n).toList.length)).toArray):=by
 have hs:(Builtin.zeroCells zv.cells n).toList.length=n*zv.cells.size:=by simp[Builtin.zeroCells]
 have hst:=run_storeCells_at P b o T (Builtin.zeroCells zv.cells n).toList 0 cur w hg (by rw[hs];simpa using hfit) h1;obtain⟨n',rfl⟩:∃n',n=n'+1:=⟨n-1,by omega⟩
 simp only[lV]at hst;simp only[Builtin.clear_,Sem.run_bind,run_underlying ht,rk,xI,uC,zeroValue,typeInfo,Sem.run_pure];simp[hst,hi,hz]
theorem a88{P:Program}{w0 X0 H E w nm}(h:Rep w0 X0 H E w){t ty:TypeId}{te:TypeId×Nat×Nat}(ht:tsl P t=some te){z:List Value}(hz:am4 P te.1=some z){d:SV}{v:Value}
  (hd:R w (Xo X0 E H) E d v) {y:Yd}(hy:aH2 te z H d=some y):
  ∃r w',(Builtin.clear_ #[t] ty #[v]).run P w=.ok r w'/\Goes w0 X0 H E w nm y.eff y.val r w':=by
 obtain⟨i,q1,q2,q3,q4⟩:=ai8 ht;obtain⟨i',zv,h1,h2,h3,h4,h5⟩:=ai4 hz;rw[q2]at h1;cases h1;have hzs:zv.cells.size=z.length:=by rw[<-h3,lC]
 have rtup:∀{X:World->Nat->Prop}{E':Env}{w':World},R w' (X w') E' (.tup 0 (λ_=> .any)) (.tuple #[]):=λ{_ _ _}=> .tup rfl (λi hi=>absurd hi (ln _))
 unfold aH2 at hy;cases hd with
 |win he hl ha h0=>
  rename_i k ver m lo wl a a0 len0 cap0 us;have hok:=h.ok k _ he;simp only at hy
  generalize hk:H.getD k .dead=so at hy hok;cases so<;>simp only[reduceCtorEq]at hy
  rename_i ver' len n g T;obtain⟨⟨⟨rfl,rfl⟩,⟨hn2,hpos⟩,hzl⟩,rfl⟩:=aa0 hy;obtain⟨_,xs,hown,hcont1⟩:=hok;have hput:E.put k (.slc ver (.slice a0 len0 cap0) us)=E:=Env.af6 he;by_cases hwl:wl=0
  ·subst hwl;refine⟨_,w,aU0 w t ty te.1 q1 a _,?_⟩;refine Goes.set (e':= .slc ver (.slice a0 len0 cap0) us) h he (by rw[hput];exact Env.le_refl _) (λ_ _ _=>rfl) rfl rfl rfl (lh _) (λb hb=> .inl ?_) (λhke hwi=>⟨rfl,xs,hown,λi' j hi hj=>?_⟩) λX=> .tup rfl (λi hi=>absurd hi (ln _))
   ·rw[hk];exact hb
   ·rw[aM9 (by omega)];rw[hput]at hwi⊢;exact⟨(hcont1 i' j hi hj).1,(hcont1 i' j hi hj).2.mono hke hwi (Env.le_refl _)⟩
  ·rcases hown with⟨a',hv',rfl,rfl⟩|⟨b,oo,cap,cur,hv',c1,c2',c3,c4,c5,c6⟩
   ·cases hv';omega
   cases hv';have hadd:a=some ⟨b,oo+lo*m,none⟩:=by rw[ha (by omega),lD];exact congrArg some (ad9 b oo _)
   subst hadd;have hm3:=lk m (show lo+wl<=cap+1 by omega);rw[lL]at hm3;generalize hcs:(Builtin.zeroCells zv.cells wl).toList=cs;have hcl:cs.length=wl*m:=by subst hcs;simp[Builtin.zeroCells,hzs,hzl]
   have hget:∀j<wl*m,cs.getD j undef=z.getD (j%m) undef:=λj hj=>by
    subst hcs;have hb:j%zv.cells.size<zv.cells.size:=xS _ (by omega);rw[la,Builtin.zeroCells,lM,xc,Array.getElem?_range,ll (by rw[hzs,hzl];exact hj)];simp only[lD,lZ];rw[aR0 hb,<-h3,ab9,hzs,hzl]
   have hone:∀u∈cs,u.oneCell'=true:=λu hu=>by
    obtain⟨j,hj,rfl⟩:=uL.1 hu;have e:=hget j (by omega);rw[la,lw hj,lZ]at e;rw[e];exact h5 _ (by rw[hzl];exact xS _ hpos)
   have hfit:oo+lo*m+cs.length<=cur.size:=by rw[hcl];omega
   have hrun:=bJ9 (P:=P) w t ty te.1 i zv q1 q2 h2 b (oo+lo*m) wl (cap+1-lo) cur T c1 hwl (by rw[hzs,hzl,<-hcl];exact hfit) (by rw[hcs];exact hone);rw[hcs]at hrun;refine⟨_,_,hrun,?_⟩;have hsz:=ag5 cur cs (oo+lo*m) hfit;refine Goes.set (e':= .slc ver (.slice (some ⟨b,oo,none⟩) len0 (cap+1)) us) h he (by rw[hput];exact Env.le_refl _) (λb' hb' hne=>setRow_other w b b' _ (λhc=>hne (by rw[hk,hc];rfl))) rfl rfl rfl (by simp[World.setRow])
    (λb' hb'=> .inl (by rw[hk];exact hb')) (λhke hwi=>?_) λX=> .tup rfl (λi hi=>absurd hi (ln _))
   rw[hput]at hwi⊢;refine⟨rfl,_,.inr ⟨b,oo,cap,_,rfl,setRow_heap w b cur _ T _ c1,c2',c3,by rw[hsz];exact c4,rfl,?_⟩,λi' j hi hj=>?_⟩
   ·rw[xu,xH,lC,hsz,c4,xM];exact uv (lk _ c2')
   ·have hlt:=ab8 (n:=m) hi hj;have key:=(ai1 cur cs (oo+lo*m) (oo+(i'*m+j)) hfit).trans
     (show _=if oo+lo*m<=oo+(i'*m+j)/\oo+(i'*m+j)<oo+lo*m+wl*m then cs.getD (oo+(i'*m+j)-(oo+lo*m)) undef else cur.getD (oo+(i'*m+j)) undef by rw[hcl])
    rw[ab5 hlt,key];have hold:cur.getD (oo+(i'*m+j)) undef=xs.getD (i'*m+j) undef:=by subst c5;rw[ab5 hlt]
    by_cases hin:lo<=i'/\i'<lo+wl
    ·have hlt2:=ab8 (n:=m) (show i'-lo<wl by omega) hj;have g1:lo*m<=i'*m:=lk _ hin.1;have g2:(i'-lo)*m=i'*m-lo*m:=Nat.sub_mul _ _ _;have g3:(oo+(i'*m+j)-(oo+lo*m))%m=j:=by rw[show oo+(i'*m+j)-(oo+lo*m)=j+(i'-lo)*m by omega,Nat.add_mul_mod_self_right,uN hj]
     rw[bR3 hin,ll (by omega),hget _ (by omega),g3];exact⟨h5 _ (by omega),ah8 _⟩
    ·have hne:¬ (oo+lo*m<=oo+(i'*m+j)/\oo+(i'*m+j)<oo+lo*m+wl*m):=by
      rcases uk i' lo with hlt'|hge
      ·have:=ab8 (n:=m) hlt' hj
       omega
      ·have:(lo+wl)*m<=i'*m:=lk _ (by omega)
       rw[lL]at this;omega
     rw[aM9 hin,lu hne,hold];exact⟨(hcont1 i' j hi hj).1,(hcont1 i' j hi hj).2.mono hke hwi (Env.le_refl _)⟩
 |winOld he hl hv=>
  rename_i k ver ver' v' m lo wl us;have hok:=h.ok k _ he;simp only at hy
  generalize H.getD k .dead=so at hy hok;cases so<;>simp only[reduceCtorEq]at hy
  obtain⟨⟨⟨rfl,_⟩,_⟩,_⟩:=aa0 hy;have:=hok.1
  omega
 |_=>simp at hy
structure KeyRun(P:Program)(K:TypeId)(kk:KK):Prop where
 check:∀(w:World)(em:Bool)(l:List Int),l.length=kk.len->(Instr.checkKey em 10000 K (keyV kk l)).run P w=.ok () w
 find:∀(w:World)(l:List Int)(es:List MapEntry),l.length=kk.len->(∀e∈es,∃l',l'.length=kk.len/\e.key=keyV kk l')->
  ((Instr.findKey K (keyV kk l) es).run P w=.ok none w/\∀e∈es,e.key≠keyV kk l)\/∃j e,(Instr.findKey K (keyV kk l) es).run P w=.ok (some (j,e.val)) w/\es[j]?=some e/\e.key=keyV kk l
 stays:∀(w:World)(l:List Int),l.length=kk.len->(Instr.keyThatStays (keyV kk l) (keyV kk l)).run P w=.ok (keyV kk l) w
theorem bB9{P:Program}{K:TypeId}{q:IntKind}(hu:P.underlying K=some (.int q)):KeyRun P K (.one q) where
 check w em l _:=MapKept.run_checkKey hu (k:= .int q (l.getD 0 0)) rfl em 9999
 find w l es _ hk:=by
  have hks:∀x∈es,MapKept.IsKey (.int q) x.key:=λx hx=>by obtain⟨l',_,he⟩:=hk x hx;rw[he];rfl
  rcases MapKept.findNow_spec (d:= .int q) (k:= .int q (l.getD 0 0)) rfl es 0 hks with⟨h1,h2⟩|⟨j,e,h1,h2,h3⟩
  ·exact .inl ⟨MapKept.run_findKey hu h1,h2⟩
  ·exact .inr ⟨j,e,by have:=MapKept.run_findKey (w:=w) hu h1;rwa[lI]at this,h2,h3⟩
 stays w l _:=MapKept.run_keyThatStays (d:= .int q) rfl
theorem aJ6{q:IntKind}{l:List Int}{j:Nat}(h:j<l.length):((l.map (Value.int q)).toArray).getD j undef=.int q (l.getD j 0):=by
 rw[lc,xI,lW,lw h,la,lw h];rfl
theorem a30{P:Program}{e:TypeId}{q:IntKind}{i:TypeInfo}(he:P.underlying e=some (.int q))(hi:P.info? e=some i)(hs:i.size=1)(w:World)(l:List Int){j:Nat}(hj:j<l.length):
  (Go.part e (l.map (Value.int q)).toArray j).run P w=.ok (.int q (l.getD j 0)) w:=by
 have ht:tinf P e=some (1,false):=by simp[tinf,hi,he,hs]
 obtain⟨v,h1,h2⟩:=a18 (P:=P) (w:=w) (X:=λ_=>False) (E:=E0) ht (n:=l.length) (off:=j) (g:=λk=> .int q (l.getD k 0)) (cs:=(l.map (Value.int q)).toArray) (s:= .int q (l.getD j 0)) (by simp)
  (λk hk=>by rw[aJ6 hk];rfl) (λk hk=>by rw[aJ6 hk];exact .int) (by simp[ld,hj])
 cases h2;exact h1
theorem aS5{P:Program}{e:TypeId}{q:IntKind}{i:TypeInfo}(he:P.underlying e=some (.int q))(hi:P.info? e=some i)(hs:i.size=1)(w:World)(d:Nat){l l':List Int}(hl:l.length=l'.length):
  ∀is:List Nat,(∀j∈is,j<l.length)->(Op.eqItems (d+1) e 1 (l.map (Value.int q)).toArray (l'.map (Value.int q)).toArray is).run P w=.ok (is.all λj=>l.getD j 0==l'.getD j 0) w
 | [],_=>by simp[Op.eqItems]
 |j::is,h=>by
  have hj:=h j lP;have ih:=aS5 he hi hs w d hl is λk hk=>h k (lS _ hk)
  have h1:=a30 he hi hs w l (j:=j*1) (by omega);have h2:=a30 he hi hs w l' (j:=j*1) (by omega);have h3:(Op.equalIn (d+1) e (.int q (l.getD j 0)) (.int q (l'.getD j 0))).run P w=.ok (l.getD j 0==l'.getD j 0) w:=by
   simp[Op.equalIn,run_underlying he,Result.andThen]
  rw[ux]at h1 h2;simp only[Op.eqItems,Sem.run_bind,ux,h1,h2,h3,rk,lao];cases l.getD j 0==l'.getD j 0 with
  |true=>simp only[Bool.not_true,lH,xn,ih,lap]
  |false=>simp
theorem b15{l l':List Int}(h:l.length=l'.length):((List.range l.length).all λj=>l.getD j 0==l'.getD j 0)=decide (l=l'):=by
 by_cases hc:l=l'
 ·subst hc;simp
 ·rw[lf hc,Bool.eq_false_iff];intro hall;rw[xd]at hall;refine hc (lam h λj h1 h2=>?_);have:=hall j (lG.2 h1)
  rw[beq_iff_eq,la,la,lw h1,lw h2]at this;exact this
theorem bC0{P:Program}{K e:TypeId}{n:Nat}{q:IntKind}{i:TypeInfo}(hu:P.underlying K=some (.array n e))(he:P.underlying e=some (.int q))(hi:P.info? e=some i)(hs:i.size=1):KeyRun P K (.arr n q):=by
 have hc:P.cellsOf e=1:=by simp[Program.cellsOf,hi,hs]
 have heq:∀(w:World)(l l':List Int),l.length=n->l'.length=n->(Op.equal K (keyV (.arr n q) l) (keyV (.arr n q) l')).run P w=.ok (decide (l=l')) w:=by
  intro w l l' h1 h2;have:=run_equalIn_array (P:=P) (w:=w) 9999 (l.map (Value.int q)).toArray (l'.map (Value.int q)).toArray hu hi
  rw[hc]at this;have h3:=aS5 he hi hs w 9998 (h1.trans h2.symm) (List.range n) λj hj=>by rw[h1];exact lG.1 hj
  rw[<-h1,b15 (h1.trans h2.symm)]at h3;rw[<-h1]at this;exact this.trans h3
 refine⟨λw em l hl=>?_,λw l es hl hk=>?_,λw l hl=>?_⟩
 ·show(Instr.checkKey em (9999+1) K (.agg (l.map (Value.int q)).toArray)).run P w=.ok () w;rw[Instr.checkKey];simp only[Sem.run_bind,run_underlying hu,rk];simp only[Std.Legacy.Range.forIn_eq_forIn_range',Std.Legacy.Range.size,lah,Nat.add_one_sub_one,Nat.div_one];have hall:∀j∈List.range' 0 n,j<l.length:=λj hj=>by
   have:=List.mem_range'_1.1 hj
   simp only[KK.len]at hl;omega
  generalize List.range' 0 n=is at hall;induction is with
  |nil=>simp
  |cons j is ih=>
   have p1:=a30 he hi hs w l (j:=j) (hall j lP);have p2:=MapKept.run_checkKey (w:=w) he (k:= .int q (l.getD j 0)) rfl em 9998;simp only[List.forIn_cons,Sem.run_bind,run_sizeOf w hi,hc,ux,rk,p1,p2,Sem.run_pure];exact ih λy hy=>hall y (lS _ hy)
 ·have ask:∀(es:List MapEntry)(k:Nat),(∀e∈es,∃l',l'.length=KK.len (.arr n q)/\e.key=keyV (.arr n q) l')->
    ((Instr.findAsking K (keyV (.arr n q) l) es k).run P w=.ok none w/\∀e∈es,e.key≠keyV (.arr n q) l)\/∃j e,(Instr.findAsking K (keyV (.arr n q) l) es k).run P w=.ok (some (k+j,e.val)) w/\es[j]?=some e/\e.key=keyV (.arr n q) l:=by
   intro es;induction es with
   |nil=>intro k _;exact .inl ⟨by simp[Instr.findAsking],λe he=>(nomatch he)⟩
   |cons e es ih=>
    intro k hk;obtain⟨l',hl',hke⟩:=hk e lP;have h1:=heq w l l' hl hl';simp only[Instr.findAsking,Sem.run_bind,hke,h1,rk];by_cases hll:l=l'
    ·rw[lg hll,ll rfl];exact .inr ⟨0,e,by simp,rfl,by rw[hke,hll]⟩
    ·rw[lf hll];simp only[lH,xn];rcases ih (k+1) λe' he'=>hk e' (lS _ he')with⟨h2,h3⟩|⟨j,e',h2,h3,h4⟩
     ·refine .inl ⟨h2,λe' he'=>?_⟩;rcases xe.1 he' with rfl|he'
      ·rw[hke];exactλhc=>hll (a56 (kk:= .arr n q) hl hl' hc.symm)
      ·exact h3 e' he'
     ·exact .inr ⟨j+1,e',by rw[h2];congr 3;omega,by simpa using h3,h4⟩
  have hfk:(Instr.findKey K (keyV (.arr n q) l) es).run P w=(Instr.findAsking K (keyV (.arr n q) l) es 0).run P w:=by
   cases es with
   |nil=>simp[Instr.findKey,Instr.findNow,Instr.findAsking,run_underlying hu,Result.andThen]
   |cons e es=>simp[Instr.findKey,Instr.findNow,Instr.sameNow,run_underlying hu,Result.andThen]
  rw[hfk];rcases ask es 0 hk with h|⟨j,e,h1,h2,h3⟩
  ·exact .inl h
  ·exact .inr ⟨j,e,by rwa[lI]at h1,h2,h3⟩
 ·have hsb:Instr.sameBits 10000 (.agg (l.map (Value.int q)).toArray) (.agg (l.map (Value.int q)).toArray)=true:=by
   show Instr.sameBits (9999+1) _ _=true;simp only[Instr.sameBits,beq_self_eq_true,lap,xd];intro p hp;obtain⟨j,hj,e⟩:=List.getElem_of_mem hp;rw[List.getElem_zip]at e;rw[<-e];simp[Instr.sameBits]
  show(Instr.keyThatStays (.agg _) (.agg _)).run P w=_;unfold Instr.keyThatStays;rw[ll hsb];rfl
theorem aY0{P:Program}{K:TypeId}{kk:KK}(h:kkOf P K=some kk):KeyRun P K kk:=by
 unfold kkOf at h;split at h
 ·rename_i q hu;cases h;exact bB9 hu
 ·rename_i n e hu;split at h
  case h_2=>cases h
  rename_i q he;split at h
  case h_2=>cases h
  rename_i i hi;obtain⟨hs,rfl⟩:=aa0 h;exact bC0 hu he hi hs
 ·cases h
theorem aY1{w X E q}{g:Nat->SV}{vs:Array Value}:∀{is:List Nat}{l:List Int},keyL q g is=some l->(∀i∈is,R w X E (g i) (vs.getD i undef))->l.length=is.length/\is.map (λi=>vs.getD i undef)=l.map (Value.int q)
 | [],l,h,_=>by cases h;exact⟨rfl,rfl⟩
 |i::r,l,h,hr=>by
  simp only[keyL]at h;split at h
  case h_2=>cases h
  rename_i q' x hg;split at h
  case isFalse=>cases h
  rename_i hq;subst hq;split at h
  case h_2=>cases h
  rename_i l' hl';cases h;obtain⟨h1,h2⟩:=aY1 hl' λk hk=>hr k (lS _ hk)
  have h3:=hr i lP;rw[hg]at h3;generalize hv:vs.getD i undef=v at h3;cases h3;exact⟨by simp[h1],by rw[xQ,xQ,h2,hv]⟩
theorem aw8{w X E}{kk:KK}{s:SV}{v:Value}{l:List Int}(h:keyS kk s=some l)(hr:R w X E s v):l.length=kk.len/\v=keyV kk l:=by
 cases kk with
 |one q=>
  simp only[keyS]at h;split at h
  case h_2=>cases h
  obtain⟨rfl,rfl⟩:=aa0 h;cases hr;exact⟨rfl,rfl⟩
 |arr n q=>
  simp only[keyS]at h;split at h
  case h_2=>cases h
  split at h
  case isFalse=>cases h
  rename_i hm;subst hm;cases hr with
  |agg hs ho hr=>
   rename_i g vs;obtain⟨h1,h2⟩:=aY1 h λi hi=>hr i (lG.1 hi)
   refine⟨by rw[h1,lai];rfl,?_⟩;simp only[keyV,Value.agg.injEq];rw[<-h2];apply Array.ext';simp only
   refine lam (by simp[hs]) λj h3 h4=>?_
   simp only[lC]at h3;rw[List.getElem_map,List.getElem_range,Array.getElem_toList];simp[Array.getD,h3]
theorem ay0{P:Program}{w:World}{T K V:TypeId}{kk:KK}{b clock:Nat}{es:Array MapEntry}{has:List Int->Bool}(hT:P.underlying T=some (.map K V))(hk:KeyRun P K kk)(hb:w.heap[b]?=some (.map es clock))(hm:MapOK kk es has)
  {l:List Int}(hl:l.length=kk.len) {z:Value}(hz:(zeroValue V).run P w=.ok z w) (ok:Bool):
  (has l=true/\∃e∈es.toList,e.key=keyV kk l/\(Instr.lookup T (.map (some b)) (keyV kk l) ok).run P w=.ok (if ok then .tuple #[e.val,.bool true]else e.val) w)\/
  (has l=false/\(Instr.lookup T (.map (some b)) (keyV kk l) ok).run P w=.ok (if ok then .tuple #[z,.bool false]else z) w):=by
 rcases hk.find w l es.toList hl hm.keys with⟨h1,h2⟩|⟨j,e,h1,h2,h3⟩
 ·refine .inr ⟨?_,by simp[Instr.lookup,run_underlying hT,MapKept.run_getObj_map hb,hk.check w _ l hl,h1,hz,Result.andThen]⟩;cases hh:has l with
  |false=>rfl
  |true=>
   obtain⟨e,he,hke⟩:=(hm.iff l hl).1 hh;exact absurd hke (h2 e he)
 ·have hmem:=xm h2;refine .inl ⟨(hm.iff l hl).2 ⟨e,hmem,h3⟩,e,hmem,h3,by simp[Instr.lookup,run_underlying hT,MapKept.run_getObj_map hb,hk.check w _ l hl,h1,Result.andThen]⟩
theorem MapOK.uniq{kk es has}(hm:MapOK kk es has){e e':MapEntry}(h:e∈es.toList)(h':e'∈es.toList)(hk:e.key=e'.key):e=e':=by
 have:∀(l:List MapEntry),l.Pairwise (λe e'=>e.key≠e'.key)->e∈l->e'∈l->e=e':=by
  intro l;induction l with
  |nil=>intro _ h;cases h
  |cons a l ih=>
   intro hp h1 h2;obtain⟨p1,p2⟩:=uY.1 hp;rcases xe.1 h1 with e1|e1
   ·rcases xe.1 h2 with e2|e2
    ·rw[e1,e2]
    ·subst e1;exact absurd hk (p1 _ e2)
   ·rcases xe.1 h2 with e2|e2
    ·subst e2;exact absurd hk.symm (p1 _ e1)
    ·exact ih p2 e1 e2
 exact this _ hm.once h h'
theorem ap0{P:Program}{w:World}{T K V:TypeId}{kk:KK}{b clock:Nat}{es:Array MapEntry}{has:List Int->Bool}(hT:P.underlying T=some (.map K V))(hk:KeyRun P K kk)(hb:w.heap[b]?=some (.map es clock))(hm:MapOK kk es has)
  {l:List Int}(hl:l.length=kk.len) (v:Value):
  ∃es' clock',(Instr.mapUpdate T (.map (some b)) (keyV kk l) v).run P w=.ok () (w.putObj b (.map es' clock'))/\MapOK kk es' (putH has l)/\
   ∀e∈es'.toList,(e.key=keyV kk l/\e.val=v)\/(e.key≠keyV kk l/\e∈es.toList):=by
 have put:∀{x:List Int},putH has l x=true<->x=l\/has x=true:=λ{x}=>by simp[putH]
 rcases hk.find w l es.toList hl hm.keys with⟨h1,h2⟩|⟨j,e0,h1,h2,h3⟩
 ·refine⟨es.push {key:=keyV kk l,val:=v,born:=clock},clock+1,?_,⟨λe he=>?_,?_,λx hx=>?_⟩,λe he=>?_⟩
  ·simp[Instr.mapUpdate,run_underlying hT,MapKept.run_getObj_map hb,hk.check w _ l hl,h1,MapKept.run_setObj_map _ hb,Result.andThen,World.putObj]
  ·simp only[laj,ug,xy]at he;rcases he with he|rfl
   ·exact hm.keys e he
   ·exact⟨l,hl,rfl⟩
  ·rw[laj,List.pairwise_append];refine⟨hm.once,List.pairwise_singleton _ _,λe he e' he'=>?_⟩;rw[xy]at he';subst he';exact h2 e he
  ·rw[put,laj];simp only[ug,xy];constructor
   ·rintro(rfl|hh)
    ·exact⟨_,.inr rfl,rfl⟩
    ·obtain⟨e,he,hke⟩:=(hm.iff x hx).1 hh;exact⟨e,.inl he,hke⟩
   ·rintro⟨e,he|rfl,hke⟩
    ·exact .inr ((hm.iff x hx).2 ⟨e,he,hke⟩)
    ·exact .inl (a56 hx hl hke.symm)
  ·simp only[laj,ug,xy]at he;rcases he with he|rfl
   ·exact .inr ⟨h2 e he,he⟩
   ·exact .inl ⟨rfl,rfl⟩
 ·have hmem:=xm h2;rw[lM]at h2;have hjl:j<es.size:=(li.1 h2).1;have hget:∀i,(es.modify j λe=>{e with key:=keyV kk l,val:=v}).toList[i]?=if j=i then(es.toList[i]?).map (λe=>{e with key:=keyV kk l,val:=v})else es.toList[i]?:=λi=>by
   rw[lM,uh,lM]
  have hkeys:(es.modify j λe=>{e with key:=keyV kk l,val:=v}).toList.map (·.key)=es.toList.map (·.key):=MapKept.modify_keys j _ λe he=>by
   rw[h2]at he;cases he;exact h3.symm
  have hsome:has l=true:=(hm.iff l hl).2 ⟨e0,hmem,h3⟩;refine⟨es.modify j λe=>{e with key:=keyV kk l,val:=v},clock,?_,⟨λe he=>?_,?_,λx hx=>?_⟩,λe he=>?_⟩
  ·simp[Instr.mapUpdate,run_underlying hT,MapKept.run_getObj_map hb,hk.check w _ l hl,h1,h2,h3,hk.stays w l hl,MapKept.run_setObj_map _ hb,Result.andThen,World.putObj]
  ·have:e.key∈(es.modify j λe=>{e with key:=keyV kk l,val:=v}).toList.map (·.key):=List.mem_map_of_mem he
   rw[hkeys]at this;obtain⟨e',he',hk'⟩:=lX.1 this;rw[<-hk'];exact hm.keys e' he'
  ·have h9:(es.toList.map (λe:MapEntry=>e.key)).Pairwise (·≠·):=List.pairwise_map.2 hm.once;rw[<-hkeys]at h9;exact List.pairwise_map.1 h9
  ·rw[put];have hmm:∀(k:Value),(∃e∈(es.modify j λe=>{e with key:=keyV kk l,val:=v}).toList,e.key=k)<->∃e∈es.toList,e.key=k:=λk=>by
    have h9:=lX (b:=k) (f:=λe:MapEntry=>e.key) (l:=(es.modify j λe=>{e with key:=keyV kk l,val:=v}).toList);rw[hkeys]at h9;exact h9.symm.trans lX
   rw[hmm,<-hm.iff x hx];exact⟨λh=>h.elim (λh=>by rw[h];exact hsome) id,.inr⟩
  ·obtain⟨i,hi⟩:=List.mem_iff_getElem?.1 he;rw[hget]at hi;split at hi
   ·rename_i hji;subst hji;rw[lM,h2]at hi;cases hi;exact .inl ⟨rfl,rfl⟩
   ·have hme:=xm hi;refine .inr ⟨λhc=>?_,hme⟩;rename_i hji;have heq:=hm.uniq hme hmem (hc.trans h3.symm);subst heq;have h4:es.toList[j]?=some e:=by rw[lM];exact h2
    have hnd:=hm.once;rw[uu]at hnd;obtain⟨i1,i2⟩:=lT.1 hi;obtain⟨j1,j2⟩:=lT.1 h4;rcases ut hji with hlt|hgt
    ·exact hnd j i j1 i1 hlt (by rw[j2,i2])
    ·exact hnd i j i1 j1 hgt (by rw[j2,i2])
theorem bb7{P:Program}{t:TypeId}{ke:TypeId×TypeId}(h:tmap P t=some ke):P.underlying t=some (.map ke.1 ke.2):=by
 unfold tmap at h;split at h
 ·rename_i k e hu;cases h;exact hu
 ·cases h
theorem bk2{P:Program}{e:TypeId}{z:Value}(h:tzv P e=some z)(w:World):(zeroValue e).run P w=.ok z w:=by
 unfold tzv at h;cases hi:P.info? e with
 |none=>rw[hi]at h;cases h
 |some i=>
  rw[hi]at h;simp only at h
  simp[zeroValue,typeInfo,hi,h,Result.andThen]
theorem bu9{z:Value}(h:ofV z=.cap0):z=.slice none 0 0:=by
 unfold ofV at h;split at h<;>first|rfl|cases h
theorem aR6{P:Program}{w0 X0 H E w nm}(h:Rep w0 X0 H E w){t:TypeId}{y:Yd}(hy:av0 P t nm=some y)(hf:Free H E nm y.eff):
  ∃u w',(Instr.makeMap t none).run P w=.ok u w'/\Goes w0 X0 H E w nm y.eff y.val u w':=by
 have hrun:(Instr.makeMap t none).run P w=.ok (.map (some w.heap.size)) (w.alloc (.map #[] 0)):=by simp[Instr.makeMap,Result.andThen]
 have hnew:=aj4 w (.map #[] 0);have hbel:Below w.heap.size w (w.alloc (.map #[] 0)):=Below.aT4 w _;have hmok:∀kk,MapOK kk #[] (λ_=>false):=λkk=>⟨λe he=>by simp at he,by simp,λl _=>by simp⟩
 unfold av0 at hy;split at hy
 case h_2=>cases hy
 split at hy
 case h_2=>cases hy
 rename_i kk _;split at hy
 ·split at hy
  case h_2=>cases hy
  cases hy;refine⟨_,_,hrun,Goes.new (e:= .slc 0 (.map (some w.heap.size)) (λ_=>none)) h hf hbel (λb hb=>?_) (λ_ _ _=>⟨rfl,_,_,_,rfl,hnew,⟨hmok _,λy e he=>by simp at he,λy _=>⟨rfl,rfl⟩,λh sv fl hh=>(nomatch hh),λy y' b _ _ hc=>(nomatch hc)⟩⟩) λX=> .omap (Env.aa8 _ _ _)⟩;rcases hb with hb|⟨y,_,hb⟩
  ·simp only[mblk,sk]at hb;omega
  ·cases hb
 ·cases hy;refine⟨_,_,hrun,Goes.new (e:= .slc 0 (.map (some w.heap.size)) (λ_=>none)) h hf hbel (λb hb=>?_) (λ_ _ _=>⟨rfl,_,_,_,rfl,hnew,hmok _,λl e _ he=>by simp at he,λhc=>(nomatch hc)⟩) λX=> .omap (Env.aa8 _ _ _)⟩;simp only[holds,mblk,sk]at hb;omega
theorem bu0{w X E k v}(h:R w X E (.omap k) v):∃b,v=.map (some b)/\∃ver v' us,E k=some (.slc ver v' us)/\(ver=0->v'=.map (some b)):=by
 cases h with
 |omap he=>exact⟨_,rfl,_,_,_,he,λ_=>rfl⟩
 |omapOld he hl=>exact⟨_,rfl,_,_,_,he,λhz=>by omega⟩
theorem aU9{P:Program}{w0 X0 H E w nm}(h:Rep w0 X0 H E w){T:TypeId}{ke:TypeId×TypeId}(hT:tmap P T=some ke){kk:KK}(hkk:kkOf P ke.1=some kk){z:Value}(hz:tzv P ke.2=some z){x i:SV}{v u:Value}
  (hx:R w (Xo X0 E H) E x v) (hi:R w (Xo X0 E H) E i u) {ok:Bool}{y:Yd}(hy:ao1 kk (ofV z) H x i ok=some y) (hask:y.ask):
  ∃r w',(Instr.lookup T v u ok).run P w=.ok r w'/\Goes w0 X0 H E w nm y.eff y.val r w':=by
 have hTu:=bb7 hT;have hkr:=aY0 hkk;unfold ao1 at hy;split at hy
 case h_2=>cases hy
 rename_i k;obtain⟨b,rfl,ver,v',us,he,hver⟩:=bu0 hx;have hok:=h.ok k _ he;split at hy
 ·rename_i kk' tot has val hk;rw[hk]at hok;obtain⟨rfl,b',es,clock,rfl,hb,hm,h4,h5⟩:=hok;cases hver rfl;split at hy
  case isFalse=>cases hy
  rename_i hkk';subst hkk';split at hy
  case h_2=>cases hy
  rename_i l hl;obtain⟨hll,rfl⟩:=aw8 hl hi;have hlook:=λok=>ay0 hTu hkr hb hm hll (bk2 hz w) ok
  split at hy
  ·
   split at hy
   ·cases hy
   split at hy
   case h_2=>cases hy
   rename_i hz0;cases hy;have hz1:=bu9 hz0;rcases hlook false with⟨hh,e,he,hke,hrun⟩|⟨hh,hrun⟩
   ·exact⟨_,_,hrun,Goes.pure h (up (h4 l e hll he hke))⟩
   ·refine⟨_,_,hrun,Goes.pure h (up ?_)⟩;simp only[lH,xn];rw[hz1];exact h5 rfl l hll hh
  ·split at hy
   ·cases hy;rcases hlook true with⟨hh,e,he,hke,hrun⟩|⟨hh,hrun⟩
    ·refine⟨_,_,hrun,Goes.pure h ?_⟩;simp only[xj];rw[hh,ae4];refine .tup rfl λj hj=>?_
     match j,hj with
     |0,_=>exact up (h4 l e hll he hke)
     |1,_=>exact .bool
    ·refine⟨_,_,hrun,Goes.pure h ?_⟩;simp only[xj];rw[hh,ae4];refine .tup rfl λj hj=>?_
     match j,hj with
     |0,_=>exact ah8 z
     |1,_=>exact .bool
   ·cases hy;rcases hlook false with⟨hh,e,he,hke,hrun⟩|⟨hh,hrun⟩
    ·refine⟨_,_,hrun,Goes.pure h ?_⟩;rw[hh,ae4];exact up (h4 l e hll he hke)
    ·refine⟨_,_,hrun,Goes.pure h ?_⟩;rw[hh,ae4];exact ah8 z
 ·rename_i kd has c m p T' ho hk;rw[hk]at hok;obtain⟨rfl,b',es,clock,rfl,hb,d⟩:=hok;cases hver rfl;split at hy
  ·cases hy
  split at hy
  case h_2=>cases hy
  rename_i q;obtain⟨hkey,sv,fl⟩:=q;split at hy
  case h_2=>cases hy
  rename_i l hl;split at hy
  case h_2=>cases hy
  rename_i hz0;obtain⟨rfl,rfl⟩:=aa0 hy;obtain⟨hq⟩:=hask;simp only at hq
  subst hq;have hz1:=bu9 hz0;obtain⟨hll,rfl⟩:=aw8 hl hi;obtain⟨o1,o2,o3⟩:=d.out _ _ _ rfl;rcases ay0 hTu hkr hb d.map hll (bk2 hz w) false with⟨hh,e,he,hke,hrun⟩|⟨hh,hrun⟩
  ·exact⟨_,_,hrun,Goes.pure h (o2 e he hke)⟩
  ·refine⟨_,_,hrun,Goes.pure h ?_⟩;simp only[lH,xn];rw[hz1];exact o3 hh
 ·cases hy
theorem aU8{P:Program}{w0 X0 H E w nm}(h:Rep w0 X0 H E w){T:TypeId}{ke:TypeId×TypeId}(hT:tmap P T=some ke){kk:KK}(hkk:kkOf P ke.1=some kk){x i s:SV}{v u r:Value}
  (hx:R w (Xo X0 E H) E x v) (hi:R w (Xo X0 E H) E i u) (hs:R w (Xo X0 E H) E s r) {y:Yd}(hy:aD2 kk H x i s=some y) (hask:y.ask):
  ∃w',(Instr.mapUpdate T v u r).run P w=.ok () w'/\Goes w0 X0 H E w nm y.eff .any undef w'/\y.val=.any:=by
 have hTu:=bb7 hT;have hkr:=aY0 hkk;unfold aD2 at hy;split at hy
 case h_2=>cases hy
 rename_i k;obtain⟨b,rfl,ver,v',us,he,hver⟩:=bu0 hx;have hok:=h.ok k _ he;split at hy
 ·rename_i kk' tot has val hk;rw[hk]at hok;obtain⟨rfl,b',es,clock,rfl,hb,hm,h4,h5⟩:=hok;cases hver rfl;split at hy
  case isFalse=>cases hy
  rename_i hkk';subst hkk';split at hy
  case h_2=>cases hy
  rename_i l hl;obtain⟨hpu,rfl⟩:=aa0 hy;obtain⟨hll,rfl⟩:=aw8 hl hi;obtain⟨es',clock',hrun,hm',hes⟩:=ap0 hTu hkr hb hm hll r;have hput:E.put k (.slc 0 (.map (some b)) us)=E:=Env.af6 he;refine⟨_,hrun,Goes.set (e':= .slc 0 (.map (some b)) us) h he (by rw[hput];exact Env.le_refl _) (λb' _ hb'=>World.putObj_heap_other λhc=>?_) rfl rfl rfl (by simp) (λb' hb'=> .inl (by rw[hk];exact hb')) (λhke hwi=>?_) λX=> .any,rfl⟩
  ·subst hc;exact hb' (by rw[hk];rfl)
  ·rw[hput]at hwi⊢;refine⟨rfl,b,es',clock',rfl,World.putObj_heap_same (lt_of_block hb),hm',λl' e hl' he' hke'=>?_,λht l' hl' hh=>?_⟩
   ·rcases hes e he' with⟨e1,e2⟩|⟨e1,e2⟩
    ·have hll':l'=l:=a56 hl' hll (hke'.symm.trans e1);subst hll';unfold putV;rw[ae4,lg rfl,e2];exact(ae6 6 _ _ hpu hs).mono hke hwi (Env.le_refl _)
    ·have hne:l'≠l:=λhc=>e1 (by rw[hke',hc])
     unfold putV;rw[ae4,lf hne];exact(h4 l' e hl' e2 hke').mono hke hwi (Env.le_refl _)
   ·simp only[putH,Bool.or_eq_false_iff,xW]at hh;unfold putV;rw[ae4,lf hh.1];exact(h5 ht l' hl' hh.2).mono hke hwi (Env.le_refl _)
 ·rename_i kd has c m p T' ho hk;rw[hk]at hok;obtain⟨rfl,b',es,clock,rfl,hb,d⟩:=hok;cases hver rfl;split at hy
  case h_2=>cases hy
  rename_i q;obtain⟨hkey,sv,fl⟩:=q;split at hy
  case h_2=>cases hy
  rename_i l hl;obtain⟨rfl,rfl⟩:=aa0 hy;obtain⟨hq⟩:=hask;simp only at hq
  subst hq;obtain⟨hll,rfl⟩:=aw8 hl hi;obtain⟨es',clock',hrun,hm',hes⟩:=ap0 hTu hkr hb d.map hll r;have hput:E.put k (.slc 0 (.map (some b)) us)=E:=Env.af6 he;have hho:∀sv' fl' yy,hoI (some (l.getD 0 0,sv',fl')) yy=none<->l.getD 0 0≠yy:=λsv' fl' yy=>by
   simp only[hoI];split<;>simp_all
  refine⟨_,hrun,Goes.set (e':= .slc 0 (.map (some b)) us) h he (by rw[hput];exact Env.le_refl _) (λb' _ hb'=>World.putObj_heap_other λhc=>?_) rfl rfl rfl (by simp) (λb' hb'=> .inl ?_) (λhke hwi=>?_) λX=> .any,rfl⟩
  ·subst hc;exact hb' (by rw[hk];exact .inl rfl)
  ·rw[hk];rcases hb' with hb'|⟨yy,h1,h2⟩
   ·exact .inl hb'
   ·exact .inr ⟨yy,(hho _ _ _).2 ((hho _ _ _).1 h1),h2⟩
  ·rw[hput]at hwi⊢;have hkey:keyV (.one kd) l=.int kd (l.getD 0 0):=rfl;refine⟨rfl,b,es',clock',rfl,World.putObj_heap_same (lt_of_block hb),⟨⟨hm'.keys,hm'.once,λl' hl'=>?_⟩,λyy e he' hke' hh=>?_,λyy hh=>?_,λhy sv' fl' hho'=>?_,λyy yy' b1 h1 h2=>?_⟩⟩
   ·rw[<-hm'.iff l' hl'];match l',l,hl',hll with
    | [a],[c],_,_=>simp[putI,putH]
   ·have hne:=(hho _ _ _).1 hh;rcases hes e he' with⟨e1,e2⟩|⟨e1,e2⟩
    ·rw[hke',hkey]at e1;cases e1;exact absurd rfl hne
    ·obtain⟨g1,ys,g2,g3⟩:=d.inn yy e e2 hke' ((hho _ _ _).2 hne);refine⟨g1,ys,g2.mono λb1 ⟨a,m',c',e3,e4⟩=>?_,λi' j hi' hj=>⟨(g3 i' j hi' hj).1,(g3 i' j hi' hj).2.mono hke hwi (Env.le_refl _)⟩⟩;have as2:∃cc TT ff,w.heap[b1]?=some (.cells cc TT ff):=by
      rcases g2 with⟨a',q1,q2,q3⟩|⟨b2,_,cap,cur,q1,q2,_⟩
      ·rw[e3]at q1;cases q1
      ·rw[e3]at q1;cases q1;subst e4;exact⟨_,_,_,q2⟩
     refine World.putObj_heap_other λhc=>?_
     obtain⟨cc,TT,ff,h9⟩:=as2;rw[hc,hb]at h9;cases h9
   ·simp only[putI,Bool.or_eq_false_iff,xW]at hh;exact d.gone yy hh.2
   ·cases hho';refine⟨λ_=>by simp[putI],λe he' hke'=>?_,λhc=>by simp[putI]at hc⟩;rcases hes e he' with⟨e1,e2⟩|⟨e1,e2⟩
    ·rw[e2];exact hs.mono hke hwi (Env.le_refl _)
    ·exact absurd (by rw[hke',hkey]) e1
   ·exact d.inj yy yy' b1 ((hho _ _ _).2 ((hho _ _ _).1 h1)) ((hho _ _ _).2 ((hho _ _ _).1 h2))
 ·cases hy
open Go.RowKit
def Ext(H HF:List SO):Prop:=∀k,H.getD k .dead≠.dead->HF.getD k .dead=H.getD k .dead
def ax8(w:World)(X:Nat->Prop)(E:Env)(ss:List SV)(vs:Array Value):Prop:=vs.size=ss.length/\∀i<ss.length,R w X E (ss.getD i .any) (vs.getD i undef)
def aa5(P:Program)(s:FSpec):Prop:=
 (∀args w,(callFunc s.f args).run P w=.ok (.enter s.f args) w)/\
 (∀args H HF nm y,Ext H HF->(∀l,y.eff≠.sets l)->s.run args H nm=some y->s.run args HF nm=some y)/\
 ∀(args:List SV)(H:List SO)(nm:Nat)(y:Yd),s.run args H nm=some y->y.ask->∀(w0:World)(X0:Fr)(E:Env)(w:World),Rep w0 X0 H E w->Free H E nm y.eff->∀(vals:Array Value),ax8 w (Xo X0 E H) E args vals->
  Calls P s.f vals w λe w'=>∃v,e=.returned v/\Goes w0 X0 H E w nm y.eff y.val v w'
def ah9(P:Program)(w0:World)(X0:Fr)(s:FSpec):Prop:=
 (∀args w,(callFunc s.f args).run P w=.ok (.enter s.f args) w)/\
 (∀args H HF nm y,Ext H HF->(∀l,y.eff≠.sets l)->s.run args H nm=some y->s.run args HF nm=some y)/\
 ∀(args:List SV)(H:List SO)(nm:Nat)(y:Yd),s.run args H nm=some y->y.ask->∀(E:Env)(w:World),Rep w0 X0 H E w->Free H E nm y.eff->∀(vals:Array Value),ax8 w (Xo X0 E H) E args vals->
  Calls P s.f vals w λe w'=>∃v,e=.returned v/\Goes w0 X0 H E w nm y.eff y.val v w'
theorem aa5.at{P:Program}{s:FSpec}(h:aa5 P s)(w0:World)(X0:Fr):ah9 P w0 X0 s:=
 ⟨h.1,h.2.1,λargs H nm y hr ha E w hrep hf vals hA=>h.2.2 args H nm y hr ha w0 X0 E w hrep hf vals hA⟩
theorem bg8{specs:List FSpec}{f:FuncId}{s:FSpec}(h:bo1 specs f=some s):s∈specs/\s.f=f:=by
 induction specs with
 |nil=>simp[bo1]at h
 |cons t r ih=>
  simp only[bo1]at h;split at h
  ·rename_i hf;cases h;exact⟨lP,hf⟩
  ·obtain⟨h1,h2⟩:=ih h;exact⟨lS _ h1,h2⟩
theorem Rep.ext'{w0 X0 H H' E w}(h:Rep w0 X0 H E w)(hl:H.length<=H'.length)(hh':∀k e,E k=some e->H'.getD k .dead=H.getD k .dead):Rep w0 X0 H' E w:=by
 refine⟨h.below,h.x0,h.nm,λk e he=>lQ (h.dom k e he) hl,λk e he=>?_,λk e b he hb=>?_,λk k' e e' b he he' hb hb'=>?_⟩
 ·rw[an4 hh',hh' k e he];exact h.ok k e he
 ·rw[hh' k e he]at hb;exact h.low k e b he hb
 ·rw[hh' k e he]at hb;rw[hh' k' e' he']at hb';exact h.inj k k' e e' b he he' hb hb'
theorem b00{H:List SO}{k:Nat}{so:SO}(h:frzO H k=some so):frz H k=some (H.set k so):=by
 unfold frzO at h;unfold frz;generalize H.getD k .dead=o at *
 cases o<;>simp only[reduceCtorEq]at h
 ·obtain⟨h1,rfl⟩:=aa0 h;simp only
  rw[ll h1]
 ·cases h;rfl
 ·rename_i ho;cases ho with
  |none=>cases h;rfl
  |some q=>cases h
theorem aY2{w0 X0 H E w}(h:Rep w0 X0 H E w){k:Nat}{so:SO}(hf:frzO H k=some so):Rep w0 X0 (H.set k so) E w/\ab7 (Xo X0 E H) (Xo X0 E (H.set k so)) w:=by
 cases hk:E k with
 |some e=>exact h.frz (b00 hf) hk
 |none=>
  have hh:∀j e,E j=some e->(H.set k so).getD j .dead=H.getD j .dead:=λj e hj=>aa3 (λhc=>by subst hc;rw[hk]at hj;cases hj)
  refine⟨h.ext' (by simp) hh,?_⟩;rw[an4 hh];exact ab7.refl _ _
theorem ab7.trans{X Y Z:Nat->Prop}{w:World}(h:ab7 X Y w)(k:ab7 Y Z w):ab7 X Z w:=λb hb hz=>h b hb (k b hb hz)
theorem ag6{w0 X0 E w}:∀(ks:List Nat)(H:List SO)(l:List (Nat×SO)),Rep w0 X0 H E w->au8 H ks=some l->Rep w0 X0 (ad5 H l) E w/\ab7 (Xo X0 E H) (Xo X0 E (ad5 H l)) w
 | [],H,l,h,hl=>by simp only[au8,sk]at hl;subst hl;exact⟨h,ab7.refl _ _⟩
 |k::r,H,l,h,hl=>by
  simp only[au8]at hl;cases hf:frzO H k with
  |none=>rw[hf]at hl;exact ag6 r H l h hl
  |some so=>
   rw[hf]at hl;simp only at hl
   cases hr:au8 (H.set k so) r with
   |none=>rw[hr]at hl;cases hl
   |some l'=>
    rw[hr]at hl;simp only[lD,sk]at hl;subst hl;obtain⟨h1,h2⟩:=aY2 h hf;obtain⟨h3,h4⟩:=ag6 r _ l' h1 hr;exact⟨h3,h2.trans h4⟩
theorem az8{specs:List FSpec}{f:FuncId}{H:List SO}{nm:Nat}{ss:List SV}{y:Yd}(hy:aJ9 specs f H nm ss=some y):
  ∃s∈specs,s.f=f/\s.run ss H nm=some y/\(∀l,y.eff=.sets l->s.eff=true):=by
 unfold aJ9 at hy;cases hs:bo1 specs f with
 |none=>simp[hs]at hy
 |some s=>
  obtain⟨hmem,rfl⟩:=bg8 hs;simp only[hs]at hy;cases hr:s.run ss H nm with
  |none=>simp[hr]at hy
  |some y'=>
   simp only[hr]at hy;split at hy
   ·rename_i l hl;split at hy
    ·rename_i he;cases hy;exact⟨s,hmem,rfl,hr,λ_ _=>he⟩
    ·cases hy
   ·rename_i hne;cases hy;exact⟨s,hmem,rfl,hr,λl hl=>absurd hl (hne l)⟩
theorem aY6{P:Program}{w0:World}{X0:Fr}{specs:List FSpec}(hspecs:∀s∈specs,ah9 P w0 X0 s){f:FuncId}{H HF:List SO}{nm:Nat}{ss:List SV}{y:Yd}(he:Ext H HF)(hns:∀l,y.eff≠.sets l)(hy:aJ9 specs f H nm ss=some y):aJ9 specs f HF nm ss=some y:=by
 unfold aJ9 at hy⊢;cases hs:bo1 specs f with
 |none=>simp[hs]at hy
 |some s=>
  obtain⟨hmem,rfl⟩:=bg8 hs;simp only[hs]at hy⊢;cases hr:s.run ss H nm with
  |none=>simp[hr]at hy
  |some y'=>
   simp only[hr]at hy;have hyy:y'=y:=by
    split at hy
    ·split at hy
     ·exact sj hy
     ·cases hy
    ·exact sj hy
   subst hyy;rw[(hspecs s hmem).2.1 ss H HF nm y' he hns hr];exact hy
theorem aJ8{P:Program}{w0 X0 H E w nm}(h:Rep w0 X0 H E w){specs:List FSpec}(hspecs:∀s∈specs,ah9 P w0 X0 s){f:FuncId}{ss:List SV}{vs:Array Value}(ha:ax8 w (Xo X0 E H) E ss vs){y:Yd}
  (hy:aJ9 specs f H nm ss=some y) (hask:y.ask) (hf:Free H E nm y.eff):(callFunc f vs).run P w=.ok (.enter f vs) w/\Calls P f vs w λe w'=>∃v,e=.returned v/\Goes w0 X0 H E w nm y.eff y.val v w':=by
 obtain⟨s,hmem,rfl,hr,_⟩:=az8 hy;obtain⟨hent,_,hok⟩:=hspecs s hmem;exact⟨hent vs w,hok ss H nm y hr hask E w h hf vs ha⟩
def mapArgs(N:Nat)(τ:Tmps)(xs:Array Operand):List SV:=xs.toList.map (evO N τ)
def optO(N:Nat)(τ:Tmps):Option Operand->Option (Option (IntKind×Int))
 |none=>some none
 |some x=>match evO N τ x with
  |.int k n=>some (some (k,n))
  |_=>none
def aj5(P:Program)(H:List SO)(nm:Nat)(b:Builtin)(ats:Array TypeId)(ss:List SV):Option Yd:=
 match b with
 |.append=>match ats.toList,ss with
  | [t,t'],[s,x]=>if t=t' then match tsl P t with
   |some te=>match am4 P te.1 with
    |some _=>ak5 te H nm s x
    |none=>none
   |none=>none
   else none
  |_,_=>none
 |.len=>match ats.toList,ss with
  | [t],[s]=>match tsl P t with
   |some _=>match s with
    |.str _=>none
    |s=>match lenOf H s with
     |some n=>some ⟨True,.int .i64 (n:Int),.keep⟩
     |none=>none
   |none=>match tarr P t with
    |some ai=>ac0 (.int .i64 ai.1)
    |none=>match tstr P t with
     |true=>bh7 s
     |false=>none
  |_,_=>none
 |.copy=>match ats.toList,ss with
  | [t,_],[s,x]=>match tsl P t with
   |some te=>aY5 te H s x
   |none=>none
  |_,_=>none
 |.clear=>match ats.toList,ss with
  | [t],[s]=>match tsl P t with
   |some te=>match am4 P te.1 with
    |some z=>aH2 te z H s
    |none=>none
   |none=>none
  |_,_=>none
 |.min=>bo7 (λa b=>if b<a then b else a) ss
 |.max=>bo7 (λa b=>if b>a then b else a) ss
 |_=>none
def lstS(l:List SV)(i:Nat):SV:=l.getD i .any
def ca0(P:Program)(t:TypeId):Bool:=match P.underlying t with
 |some (.chan _ e)=>match P.info? e with
  |some _=>true
  |none=>false
 |_=>false
def b04(T:TypeId)(s:SV):Option Yd:=match s with
 |.ref n g=>ac0 (.ifc T (λ_=> .ref n g))
 |.own k off=>ac0 (.ifc T (λ_=> .own k off))
 |.con v=>match v.oneCell' with
  |true=>ac0 (.ifc T (λ_=> .con v))
  |false=>none
 |_=>none
def aM7(T:TypeId)(ok:Bool)(s:SV):Option Yd:=match s with
 |.ifc U g=>match decide (U=T)with
  |true=>match ok with
   |true=>ac0 (.tup 2 (lstS [g 0,.lit true]))
   |false=>ac0 (g 0)
  |false=>match ok with
   |true=>ac0 (.tup 2 (lstS [.any,.lit false]))
   |false=>none
 |_=>none
def evOp(P:Program)(specs:List FSpec)(eqs:List (TypeId×List CK))(N:Nat)(τ:Tmps)(H:List SO)(nm:Nat)(o:Oper):Option Yd:=
 match o.op with
 |.move x=>ac0 (evO N τ x)
 |.assign x=>ac0 (evO N τ x)
 |.pick c a b=>match evO N τ c with
  |.lit t=>match t with
   |true=>ac0 (evO N τ a)
   |false=>ac0 (evO N τ b)
  |.bool t=>match asB (evO N τ a),asB (evO N τ b)with
   |some p,some q=>ac0 (.bool (if t=true then p else q))
   |_,_=>none
  |_=>none
 |.alloc T=>match am4 P T with
  |some z=>some ⟨True,.own nm 0,.new (.cells z.length (ax5 z) T)⟩
  |none=>none
 |.box T x=>match cellsOf (evO N τ x)with
  |some (n,g)=>match boxB T specs with
   |true=>if(List.range n).all (λi=>ac4 6 (g i))=true then some ⟨True,.ref n g,.keep⟩else none
   |false=>some ⟨True,.own nm 0,.new (.cells n g T)⟩
  |none=>none
 |.build T parts=>match am4 P T with
  |some z=>match bU9 P T with
   |some fl=>aD8 z fl (parts.toList.map λp=>(p.1,evO N τ p.2))
   |none=>match tarr P T with
    |some ai=>aD9 z ai.2.1 (parts.toList.map λp=>(p.1,evO N τ p.2))
    |none=>none
  |none=>none
 |.buildSlice T len parts=>match tsl P T with
  |some te=>match am4 P te.1 with
   |some z=>ao2 te z nm len (parts.toList.map λp=>(p.1,evO N τ p.2))
   |none=>none
  |none=>none
 |.load T x=>match tinf P T with
  |some ti=>ad4 ti H (evO N τ x)
  |none=>none
 |.store T x z=>match tinf P T with
  |some ti=>ao5 ti H (evO N τ x) (evO N τ z)
  |none=>none
 |.nilCheck x=>bC7 (evO N τ x)
 |.binOp op T x y _=>match b71 y with
  |true=>match tsl P T with
   |some _=>aR4 op (evO N τ x)
   |none=>none
  |false=>ev2 op eqs (bk5 P T) (aT7 P T) T (evO N τ x) (evO N τ y)
 |.unOp op _ x=>ev1 op (evO N τ x)
 |.convert s d x=>match tint P s,tint P d with
  |some _,some k=>aq2 k (evO N τ x)
  |_,_=>none
 |.makeFunc (.func f) first caps=>if first.size=0 then ac0 (.fn f caps.size (λi=>(mapArgs N τ caps).getD i .any))else if caps.size=0 then ac0 (.fnb f first.size (λi=>(mapArgs N τ first).getD i .any))else none
 |.makeSlice T l c=>match tsl P T with
  |some te=>match am4 P te.1 with
   |some z=>match evO N τ l,evO N τ c with
    |.int _ l,.int _ c=>as3 te z nm l c
    |_,_=>none
   |none=>none
  |none=>none
 |.slice T x lo hi mx=>match tsl P T with
  |some te=>match optO N τ lo,optO N τ hi,optO N τ mx with
   |some lo,some hi,some mx=>match lo,hi,mx with
    |none,some (_,h),some (_,m)=>if h=0/\m=0 then aD6 (evO N τ x)else ag7 te.2.1 H (optI lo) (optI hi) (optI mx) (evO N τ x)
    |_,_,_=>ag7 te.2.1 H (optI lo) (optI hi) (optI mx) (evO N τ x)
   |_,_,_=>none
  |none=>match tarr P T with
   |some (n,1,_)=>match optO N τ lo,optO N τ hi,optO N τ mx with
    |some lo,some hi,some none=>al5 n (optI lo) (optI hi) (evO N τ x)
    |_,_,_=>none
   |_=>none
 |.fieldAddr T x f=>match tfld P T f with
  |some fd=>ae9 fd (evO N τ x)
  |none=>none
 |.field T x f=>match tfld P T f with
  |some fd=>aH1 fd (evO N τ x)
  |none=>none
 |.indexAddr T x i=>match evO N τ i with
  |.int _ i=>match tsl P T with
   |some te=>ac2 te.2.1 H i (evO N τ x)
   |none=>match tarr P T with
    |some ai=>ae3 ai.1 ai.2.1 i (evO N τ x)
    |none=>none
  |_=>none
 |.index T x i=>match evO N τ i with
  |.int _ i=>match tarr P T with
   |some ai=>aR7 ai i (evO N τ x)
   |none=>match tstr P T with
    |true=>ax0 i (evO N τ x)
    |false=>none
  |_=>none
 |.extract x i=>aq1 i (evO N τ x)
 |.call c=>match c.callee with
  |.builtin b=>aj5 P H nm b c.argTypes (mapArgs N τ c.args)
  |.value f=>match evO N τ f with
   |.fn F n g=>aJ9 specs F H nm (mapArgs N τ c.args++(List.range n).map g)
   |.fnb F n g=>aJ9 specs F H nm ((List.range n).map g++mapArgs N τ c.args)
   |_=>none
  |_=>none
 |.makeMap T r=>match r with
  |none=>av0 P T nm
  |some _=>none
 |.lookup T x i ok=>match tmap P T with
  |some ke=>match kkOf P ke.1,tzv P ke.2 with
   |some kk,some z=>ao1 kk (ofV z) H (evO N τ x) (evO N τ i) ok
   |_,_=>none
  |none=>none
 |.mapUpdate T x i v=>match tmap P T with
  |some ke=>match kkOf P ke.1 with
   |some kk=>aD2 kk H (evO N τ x) (evO N τ i) (evO N τ v)
   |none=>none
  |none=>none
 |.makeInterface T x=>match by8 P T with
  |true=>b04 T (evO N τ x)
  |false=>none
 |.typeAssert x _ T ok=>match by8 P T with
  |true=>match tzv P T with
   |some _=>aM7 T ok (evO N τ x)
   |none=>none
  |false=>none
 |.makeChan T x=>match ca0 P T with
  |true=>match evO N τ x with
   |.int _ n=>if n=0 then some ⟨True,.any,.keep⟩else none
   |_=>none
  |false=>none
 |_=>none
open Go.RowKit
def Wd(F:Fence):Prop:=F=Fence.wide\/∃l,F=Fence.wide.inRound l
theorem Wd.fn{F:Fence}(h:Wd F)(f:FuncId):F.fn f:=by
 rcases h with rfl|⟨l,rfl⟩<;>trivial
theorem Wd.depth{F:Fence}(h:Wd F):F.depth=none:=by
 rcases h with rfl|⟨l,rfl⟩<;>rfl
theorem Wd.calls{F:Fence}(h:Wd F){n:Nat}{P:Program}{f:FuncId}{args:Array Value}{w:World}{R:Ending->World->Prop}(hc:Calls P f args w R):CallsIn F n P f args w R:=by
 rcases h with rfl|⟨l,rfl⟩
 ·exact callsIn_wide.2 hc
 ·exact CallsIn.inRound l (callsIn_wide.2 hc)
theorem aO9{P:Program}{ro:Option Nat}{ρ:Operand->Value}{o:Oper}{w w':World}{r:Next}(hd:∀d,r≠.defer d)(h:(execOp ρ o).run P w=.ok r w'):(o.semAt ro ρ).run P w=.ok r w':=by
 by_cases hc:∃c,o.op=.defer c
 ·obtain⟨c,hc⟩:=hc;exfalso;unfold execOp at h;rw[hc]at h;simp only[Sem.run_bind]at h;cases hr:(resolve ρ c o.type).run P w with
  |ok d w2=>
   rw[hr]at h;simp only[Result.andThen,Sem.run_pure,Result.ok.injEq]at h;exact hd d h.1.symm
  |halt x w2=>rw[hr]at h;simp[Result.andThen]at h
 ·rw[Oper.semAt_eq _ _ _ λc hc'=>hc ⟨c,hc'⟩];exact h
def OpOK(P:Program)(o:Oper)(a:Act)(w:World)(G:Value->World->Prop):Prop:=
 ∀(F:Fence)(n:Nat),Wd F->∀(next:Act->World->Prop)(Q:Exit->Act->World->Prop),(∀v w',G v w'->next (a.put o.dst v) w')->o.wpIn F n P a w next Q
theorem ab3{P:Program}{o:Oper}{a:Act}{w:World}{G:Value->World->Prop}(h:∃u w',(execOp a.eval o).run P w=.ok (.value u) w'/\G u w'):OpOK P o a w G:=by
 intro F n hF next Q hn
 obtain⟨u,w',h1,h2⟩:=h;refine⟨λf _=>hF.fn f,?_⟩;rw[aO9 (λd hc=>by cases hc) h1];exact hn u w' h2
theorem be6{P:Program}{o:Oper}{a:Act}{w:World}{G:Value->World->Prop}(h:∃w',(execOp a.eval o).run P w=.ok .skip w'/\G undef w'):OpOK P o a w G:=by
 intro F n hF next Q hn
 obtain⟨w',h1,h2⟩:=h;refine⟨λf _=>hF.fn f,?_⟩;rw[aO9 (λd hc=>by cases hc) h1];exact hn undef w' h2
theorem aC2{P:Program}{o:Oper}{a:Act}{w:World}{G:Value->World->Prop}{f:FuncId}{vs:Array Value}(h:(execOp a.eval o).run P w=.ok (.enter f vs) w)
  (hc:Calls P f vs w λe w'=>∃v,e=.returned v/\G v w'):OpOK P o a w G:=by
 intro F n hF next Q hn
 refine⟨λf _=>hF.fn f,?_⟩;rw[aO9 (λd hc=>by cases hc) h];exact⟨λhd=>(by rw[hF.depth]at hd;cases hd),(hF.calls hc).mono λe w' ⟨v,he,hg⟩=>by subst he;exact hn v w' hg⟩
theorem az0{n0 w X E N τ a}(ht:TR n0 w X E N τ a):∀(l:List (Nat×Operand)),aZ1 w X E (l.map λp=>(p.1,evO N τ p.2)) (l.map λp=>(p.1,a.eval p.2))
 | []=>trivial
 |(_,x)::r=>⟨rfl,ag8 ht x,az0 ht r⟩
theorem aq4{n0 w X E N τ a}(ht:TR n0 w X E N τ a)(xs:Array Operand):ax8 w X E (mapArgs N τ xs) (xs.map a.eval):=by
 refine⟨by simp[mapArgs],λi hi=>?_⟩;have hi':i<xs.size:=by simpa[mapArgs]using hi
 have e1:(mapArgs N τ xs).getD i .any=evO N τ xs[i]:=by simp[mapArgs,la,hi']
 have e2:(xs.map a.eval).getD i undef=a.eval xs[i]:=by simp[Array.getD,hi']
 rw[e1,e2];exact ag8 ht _
theorem am0{n0 w X E N τ a}(ht:TR n0 w X E N τ a){x:Option Operand}{r:Option (IntKind×Int)}(h:optO N τ x=some r):x.map a.eval=optV r:=by
 cases x with
 |none=>simp only[optO,sk]at h;subst h;rfl
 |some x=>
  simp only[optO]at h;have hr:=ag8 ht x;generalize hv:a.eval x=v at hr;generalize evO N τ x=s at h hr;cases hr<;>simp only[reduceCtorEq,sk]at h
  subst h;simp[optV,hv]
theorem ah3{w X E k n v}(h:R w X E (.int k n) v):v=.int k n:=by cases h;rfl
theorem aR1{P:Program}{w X E}(f:Int->Int->Int)(m2:Value->Value->Sem Value)(hm:∀k x y,(m2 (.int k x) (.int k y)).run P w=.ok (.int k (f x y)) w):
  ∀(ss:List SV)(vs:List Value)(k:IntKind)(x:Int)(y:Yd),ss.length=vs.length->(∀i<ss.length,R w X E (ss.getD i .any) (vs.getD i undef))->foldI f k x ss=some y->
   ∃n,y=⟨True,.int k n,.keep⟩/\(vs.foldlM m2 (.int k x)).run P w=.ok (.int k n) w
 | [],[],k,x,y,_,_,hy=>by simp only[foldI,ac0,sk]at hy;exact⟨x,hy.symm,rfl⟩
 |s::ss,v::vs,k,x,y,hl,hr,hy=>by
  have h0:=hr 0 (by simp);simp only[uf]at h0;cases s<;>simp only[foldI,reduceCtorEq]at hy
  rename_i k' b;split at hy
  case isFalse=>cases hy
  rename_i hk;subst hk;have hv:=ah3 h0;subst hv;obtain⟨n,h1,h2⟩:=aR1 f m2 hm ss vs k (f x b) y (by simpa using hl) (λi hi=>by have:=hr (i+1) (by simpa using hi);simpa using this) hy;exact⟨n,h1,by simp only[List.foldlM_cons,Sem.run_bind,hm,rk,h2]⟩
 | [],_::_,_,_,_,hl,_,_=>by simp at hl
 |_::_,[],_,_,_,hl,_,_=>by simp at hl
theorem aR5{P:Program}{w0 X0 H E w nm}(h:Rep w0 X0 H E w)(f:Int->Int->Int)(m2:Value->Value->Sem Value)(hm:∀k x y,(m2 (.int k x) (.int k y)).run P w=.ok (.int k (f x y)) w)
  {ss:List SV}{vs:Array Value}(ha:ax8 w (Xo X0 E H) E ss vs) {y:Yd}(hy:bo7 f ss=some y):
  ∃x r,vs.toList=x::r/\∃u,(r.foldlM m2 x).run P w=.ok u w/\Goes w0 X0 H E w nm y.eff y.val u w:=by
 cases ss with
 |nil=>simp[bo7]at hy
 |cons s ss=>
  obtain⟨hl,hr⟩:=ha;cases hv:vs.toList with
  |nil=>
   have:vs.size=0:=by rw[<-lC,hv];rfl
   simp[this]at hl
  |cons v r=>
   have hget:∀i,vs.getD i undef=(v::r).getD i undef:=λi=>by rw[<-ab9,hv]
   have h0:=hr 0 (by simp);rw[hget]at h0;simp only[uf]at h0;cases s<;>simp only[bo7,reduceCtorEq]at hy
   rename_i k a;have hvv:=ah3 h0;subst hvv;obtain⟨n,h1,h2⟩:=aR1 (P:=P) (w:=w) (X:=Xo X0 E H) (E:=E) f m2 hm ss r k a y (by rw[<-lC,hv]at hl;simpa using hl.symm)
    (λi hi=>by have:=hr (i+1) (by simpa using hi);rw[hget]at this;simpa using this) hy
   subst h1;exact⟨_,_,rfl,_,h2,Goes.pure h .int⟩
theorem aS1{P:Program}{w0 X0 H E w nm}(h:Rep w0 X0 H E w){b:Builtin}{ats:Array TypeId}{ty:TypeId}{cs:Array Bool}{ss:List SV}{vs:Array Value}(ha:ax8 w (Xo X0 E H) E ss vs){y:Yd}
  (hy:aj5 P H nm b ats ss=some y) (hask:y.ask) (hf:Free H E nm y.eff):∃u w',(builtin b ats ty cs vs).run P w=.ok (.value u) w'/\Goes w0 X0 H E w nm y.eff y.val u w':=by
 unfold aj5 at hy;split at hy
 ·
  split at hy
  case h_2=>cases hy
  rename_i t t' s x hats;split at hy
  case isFalse=>cases hy
  rename_i htt;subst htt;cases hte:tsl P t with
  |none=>simp[hte]at hy
  |some te=>
   simp only[hte]at hy;cases hz:am4 P te.1 with
   |none=>simp[hz]at hy
   |some z=>
    simp only[hz]at hy;have hat:ats = #[t,t]:=by rw[<-hats]
    obtain⟨hl,hr⟩:=ha;have hvs:vs = #[vs.getD 0 undef,vs.getD 1 undef]:=by
     apply Array.ext
     ·simpa using hl
     ·intro i h1 h2;simp only[xw,xU,uG]at h2;obtain rfl|rfl:i=0\/i=1:=by omega
      ·simp[Array.getD,h1]
      ·simp[Array.getD,h1]
    obtain⟨r,w',h1,h2⟩:=aV4 (P:=P) (ty:=ty) h hte hz (hr 0 (by simp)) (hr 1 (by simp)) hy hask hf;refine⟨r,w',?_,h2⟩;rw[hat,hvs,BigFrame.builtin_append];simp only[Sem.run_bind,h1,rk,Sem.run_pure]
 ·
  split at hy
  case h_2=>cases hy
  rename_i t s hats;have hat:ats = #[t]:=by rw[<-hats]
  obtain⟨hl,hr⟩:=ha;have hvs:vs = #[vs.getD 0 undef]:=by
   apply Array.ext
   ·simpa using hl
   ·intro i h1 h2;simp only[xw,xU,uG]at h2;obtain rfl:i=0:=by omega
    simp[Array.getD,h1]
  have hr0:=hr 0 (by simp);simp only[uf]at hr0;cases hte:tsl P t with
  |some te=>
   simp only[hte]at hy;obtain⟨ti,h1,h2,h3,h4⟩:=ai8 hte;have hel:P.elem t=te.1:=by unfold Program.elem;rw[h1]
   have key:∀n,lenOf H s=some n->(∀q,s≠.str q)->y=⟨True,.int .i64 n,.keep⟩->∃u w',(builtin .len ats ty cs vs).run P w=.ok (.value u) w'/\Goes w0 X0 H E w nm y.eff y.val u w':=by
    rintro n hn hns rfl;obtain⟨u,w',g1,g2⟩:=bO2 (P:=P) (ty:=ty) (nm:=nm) h (by rw[hel];exact h1) hr0 hn hns;refine⟨u,w',?_,g2⟩;rw[hat,hvs,BigFrame.builtin_len];simp only[Sem.run_bind,g1,rk,Sem.run_pure]
   split at hy
   ·cases hy
   ·rename_i hns;cases hn:lenOf H s with
    |none=>simp[hn]at hy
    |some n=>
     simp only[hn,sk]at hy;exact key n hn (λq hq=>hns q hq) hy.symm
  |none=>
   simp only[hte]at hy;cases hai:tarr P t with
   |none=>
    simp only[hai]at hy;cases hst:tstr P t with
    |false=>simp[hst]at hy
    |true=>
     simp only[hst]at hy;generalize vs.getD 0 undef=v0 at hvs hr0;cases hr0 with
     |str=>
      simp only[bh7,ac0,sk]at hy;subst hy;refine⟨_,w,?_,Goes.pure h .int⟩;rw[hat,hvs,BigFrame.builtin_len];simp only[Sem.run_bind,run_len_string w t ty _ (bb6 hst),rk,Sem.run_pure];rfl
     |_=>simp[bh7]at hy
   |some ai=>
    simp only[hai,ac0,sk]at hy;subst hy;obtain⟨len,es,ag⟩:=ai;obtain⟨e,ti,h1,h2,h3,h4⟩:=at3 hai;refine⟨_,w,?_,Goes.pure h .int⟩;rw[hat,hvs,BigFrame.builtin_len];simp only[Builtin.len_,Sem.run_bind,run_underlying h1,rk,Sem.run_pure,xI,uC];rfl
 ·
  split at hy
  case h_2=>cases hy
  rename_i t t' s x hats;cases hte:tsl P t with
  |none=>simp[hte]at hy
  |some te=>
   simp only[hte]at hy;have hat:ats = #[t,t']:=by rw[<-hats]
   obtain⟨hl,hr⟩:=ha;have hvs:vs = #[vs.getD 0 undef,vs.getD 1 undef]:=by
    apply Array.ext
    ·simpa using hl
    ·intro i h1 h2;simp only[xw,xU,uG]at h2;obtain rfl|rfl:i=0\/i=1:=by omega
     ·simp[Array.getD,h1]
     ·simp[Array.getD,h1]
   obtain⟨r,w',h1,h2⟩:=bi0 (P:=P) (ty:=ty) (t':=t') (nm:=nm) h hte (hr 0 (by simp)) (hr 1 (by simp)) hy hask;refine⟨r,w',?_,h2⟩;rw[hat,hvs,BigFrame.builtin_copy];simp only[Sem.run_bind,h1,rk,Sem.run_pure]
 ·
  split at hy
  case h_2=>cases hy
  rename_i t s hats;split at hy
  case h_2=>cases hy
  rename_i te hte;split at hy
  case h_2=>cases hy
  rename_i z hz;have hat:ats = #[t]:=by rw[<-hats]
  obtain⟨hl,hr⟩:=ha;have hvs:vs = #[vs.getD 0 undef]:=by
   apply Array.ext
   ·simpa using hl
   ·intro i h1 h2;simp only[xw,xU,uG]at h2;obtain rfl:i=0:=by omega
    simp[Array.getD,h1]
  obtain⟨r,w',h1,h2⟩:=a88 (P:=P) (ty:=ty) (nm:=nm) h hte hz (hr 0 (by simp)) hy;refine⟨r,w',?_,h2⟩;rw[hat,hvs,BigFrame.builtin_clear];simp only[Sem.run_bind,h1,rk,Sem.run_pure]
 ·
  obtain⟨x,r,h1,u,h2,h3⟩:=aR5 (P:=P) (nm:=nm) h (λa b=>if b<a then b else a) Builtin.min2 (λk x y=>rfl) ha hy;refine⟨u,w,?_,h3⟩;rw[BigFrame.builtin_min];simp only[Builtin.min_,h1,Sem.run_bind,h2,rk,Sem.run_pure]
 ·obtain⟨x,r,h1,u,h2,h3⟩:=aR5 (P:=P) (nm:=nm) h (λa b=>if b>a then b else a) Builtin.max2 (λk x y=>rfl) ha hy;refine⟨u,w,?_,h3⟩;rw[BigFrame.builtin_max];simp only[Builtin.max_,h1,Sem.run_bind,h2,rk,Sem.run_pure]
 ·cases hy
theorem bo6{P:Program}{w0 X0 H E w nm}(h:Rep w0 X0 H E w){x:Operand}{a:Act}{s:SV}(hx:R w (Xo X0 E H) E s (a.eval x)){y:Yd}(hy:bC7 s=some y){o:Oper}(ho:o.op=.nilCheck x):
  ∃u w',(execOp a.eval o).run P w=.ok (.value u) w'/\Goes w0 X0 H E w nm y.eff y.val u w':=by
 refine⟨a.eval x,w,?_,?_⟩
 ·simp only[execOp,ho];generalize a.eval x=v at hx;cases hx<;>simp only[bC7,reduceCtorEq]at hy
  ·rfl
  ·rfl
  ·rfl
  ·rfl
  ·rename_i hv;obtain⟨b,o',rfl⟩:=hv;rfl
 ·cases s<;>simp only[bC7,ac0,reduceCtorEq,sk]at hy<;>subst hy<;>exact Goes.pure h hx
end Sx
end Go.Proofs.YtnhecfkpiojmhaaGreat
