import Derived.Test.YtnhecfkpiojmhaaGreatM8
set_option maxRecDepth 100000
set_option linter.all false
noncomputable section
/- Part 9. -/
namespace Go.Proofs.YtnhecfkpiojmhaaGreat
namespace Som
open Rgg
open Go.RowKit Sx Num Aff Con Rga Rgl Rgm Rgn Rgc Gat Gar Ows Apl Apt
def spP1:FSpec:=aa9 31 (γ:=Vec) (λ| [s]=>some (vcD s)|_=>none) (λv=>[vcS v]) (λ_=>True) (λ_=> .lit true)
theorem ok_P1:aa5 Tw.prog spP1:=by
 refine ssW (specs:=[]) trivial Tw.func31 (λg=>A0) ?_;rintro v _;refine ac7 (B:=True/\True/\True/\True/\Aq (true=true)) ?_;simp only[cln,ly,lO]
structure InG where
 ink:Nat
 least:Int
def inF(h:InG):SV:= .fn 27 2 (lst [.ref 1 (lst [.int .i64 h.ink]),.ref 1 (lst [.int .i64 h.least])])
def has(h:InG)(v:Vec):Bool:=decide (h.least<=v h.ink)
def spI1:FSpec:=aa9 27 (γ:=InG×Vec) (λ| [s,.ref _ a,.ref _ b]=>some (⟨(Sx.intOf (a 0)).toNat,Sx.intOf (b 0)⟩,vcD s)|_=>none)
 (λg=>[vcS g.2,.ref 1 (lst [.int .i64 g.1.ink]),.ref 1 (lst [.int .i64 g.1.least])]) (λg=>g.1.ink<8/\0<=g.2 g.1.ink/\g.2 g.1.ink<=255) (λg=> .bool (has g.1 g.2))
theorem ce7:aa5 Tw.prog spI1:=by
 refine ssW (specs:=[]) trivial Tw.func27 (λg=>A0) ?_;rintro⟨h,v⟩ hh;refine ac7 (B:=let z0:=((0:Nat)+(↑h.ink:Int).toNat*(1:Nat));Tt/\Tt/\Tt/\Aq ((0:Int)<=(↑h.ink:Int)/\(↑h.ink:Int)<(↑(8:Nat):Int))/\Br (decide ((0:Nat)+(↑h.ink:Int).toNat*(1:Nat)+(1:Nat)<=(8:Nat))) True False/\Aq ((-9223372036854775808:Int)<=v z0/\v z0<=(9223372036854775807:Int))/\Tt/\Tt/\Tt/\Tt/\Aq (decide (h.least<=v z0)=has h v)) ?_;simp only[cln,ly,lO];have hh:h.ink<8/\0<=v h.ink/\v h.ink<=255:=hh;exact⟨by omega,λhc=>by omega,by omega,rfl⟩
def sel(b:Vec->Bool)(P:Pcs):Nat->List Rn
 |0=>[]
 |k+1=>if b (P.ink k)=true then sel b P k++Lf (P.p k) (P.m k)else sel b P k
def rowR(n:Nat)(f:Nat->Rn):SO:= .row 0 n 3 (λi=>lst (rnL (f i))) 58
structure SmOk(b:Vec->Bool)(P:Pcs):Prop where
 ok:∀r∈sel b P P.n,okR r
 tot:∀k,k<=P.n->(sel b P k).length<=100000000
 n:P.n<=4096
def smI(F:SV)(b:Vec->Bool)(P:Pcs):Inv:=⟨Nat,λk=>k<=P.n,λk=>⟨[(1,F),(5,.osl 0 0),(8,pcS P),(9,.int .i64 P.n),(10,.int .i64 k)],[rowR (sel b P k).length (rI (sel b P k))]⟩,λk=>P.n-k⟩
def smR(b:Vec->Bool)(P:Pcs):List Rn:=au6 ⟨(sel b P P.n).length,rI (sel b P P.n)⟩
def P1F:SV:= .fn 31 0 (lst [])
def b33:FSpec:=aa9 26 (γ:=Pcs) (λ| [s,_]=>some (pcD s)|_=>none) (λP=>[pcS P,P1F]) (λP=>SmOk (λ_=>true) P) (λP=>al4 (smR (λ_=>true) P))
theorem a14{b:Vec->Bool}{P:Pcs}{k:Nat}(hb:b (P.ink k)=true):sel b P (k+1)=sel b P k++Lf (P.p k) (P.m k):=by show(if _ then _ else _)=_;rw[ll hb]
theorem a15{b:Vec->Bool}{P:Pcs}{k:Nat}(hb:¬ b (P.ink k)=true):sel b P (k+1)=sel b P k:=by show(if _ then _ else _)=_;rw[lu hb]
theorem cc8(L:List Rn)(f:Nat->Rn)(n i:Nat)(hi:i<(L++Lf f n).length):rI (L++Lf f n) i=bif decide (i<L.length)then rI L i else f (i-L.length):=by
 rw[lx,aq7]at hi;unfold rI;rw[la,la];by_cases h:i<L.length
 ·rw[lg h,xh h];rfl
 ·rw[lf h,lR (by omega)];have:=aK4 f (n:=n) (i:=i-L.length) (by omega)
  unfold rI at this;rw[la]at this;exact this
theorem ar5{L M:List Rn}(h:L=M):L.length=M.length/\∀i<M.length,((rI L i).y=(rI M i).y/\(rI L i).x0=(rI M i).x0)/\(rI L i).x1=(rI M i).x1:=by
 subst h;exact⟨rfl,λ_ _=>⟨⟨rfl,rfl⟩,rfl⟩⟩
theorem b39{b:Vec->Bool}{P:Pcs}{k:Nat}(hb:b (P.ink k)=true):(sel b P k).length+P.m k=(sel b P (k+1)).length/\∀i,i<(sel b P (k+1)).length->
  ((bif decide (i<(sel b P k).length)then(rI (sel b P k) i).y else(P.p k (i-(sel b P k).length)).y)=(rI (sel b P (k+1)) i).y/\
   (bif decide (i<(sel b P k).length)then(rI (sel b P k) i).x0 else(P.p k (i-(sel b P k).length)).x0)=(rI (sel b P (k+1)) i).x0)/\
   (bif decide (i<(sel b P k).length)then(rI (sel b P k) i).x1 else(P.p k (i-(sel b P k).length)).x1)=(rI (sel b P (k+1)) i).x1:=by
 rw[a14 hb];refine⟨by rw[lx,aq7],λi hi=>?_⟩;rw[cc8 _ _ _ _ hi];cases decide (i<(sel b P k).length)<;>exact⟨⟨rfl,rfl⟩,rfl⟩
theorem cc2{b:Vec->Bool}{P:Pcs}(h:SmOk b P):joOk ⟨(sel b P P.n).length,rI (sel b P P.n)⟩:=by
 refine⟨λi hi=>h.ok _ ?_,h.tot _ (lh _)⟩;show rI (sel b P P.n) i∈_;unfold rI;rw[la,lw hi];exact xv hi
theorem cd7:aa5 Tw.prog b33:=by
 refine ssW (specs:=[spP1,giv bs1]) (⟨ok_P1,aC8 bn1,trivial⟩) Tw.func26 (λg=>(⟨[(3,.inv (smI P1F (λ_=>true) g))],[(2,[.own 5 58 3])]⟩:Ann)) ?_;rintro P hP;refine ac7 (B:=let A:=Aq;let z8:=(A ((31:Go.FuncId)=(31:Go.FuncId))/\Tt);let z3:=(IntKind.u8=IntKind.u8);let q3:=λp:Int=>A z3/\A (p=p);let z2:=(IntKind.i64=IntKind.i64);let q2:=λp:Int=>A z2/\A (p=p);let z9:=(q2 ((↑P.n:Int)));let z1:=(A (P.n=P.n)/\∀i:Nat,i<P.n->(chp (Tt/\A (P.m i=P.m i)/\∀i_1:Nat,let z13:=(P.p i i_1);i_1<P.m i->((Tt/\q2 z13.y)/\q2 z13.x0)/\q2 z13.x1) (λj:Nat=>q3 (P.ink i j)) 7)/\q3 (P.ink i (7:Nat)));let z0:=(λ(x:Gar.Vec)=>true);let z11:=(smI P1F z0 P);Tt/\Tt/\Tt/\Tt/\Tt/\(∃g:Nat,A (z11.pre g)/\(z8/\Tt/\z1/\z9/\(A z2/\A ((0:Int)=(↑g:Int)))/\Tt)/\(A ((0:Nat)=(sel z0 P g).length)/\∀i:Nat,i<(sel z0 P g).length->((Tt/\False)/\False)/\False)/\Tt)/\∀g:Nat,let z5:=(↑g:Int);let z4:=(sel z0 P g);let z6:=(au6 (Rg.mk z4.length (rI z4)));z11.pre g->Tt/\Br (decide (z5<(↑P.n:Int))) (A ((0:Int)<=z5/\z5<(↑P.n:Int))/\Tt/\Tt/\Tt/\Tt/\Tt/\Tt/\(((chp True (λj:Nat=>q3 (P.ink z5.toNat j)) 8)/\Tt)/\A True)/\Tt/\Tt/\Tt/\A (z4.length+P.m z5.toNat<=(9223372036854775807:Nat)/\(z4.length+P.m z5.toNat)*(24:Nat)<=(140737488355328:Nat))/\Tt/\A ((-9223372036854775808:Int)<=z5+(1:Int)/\z5+(1:Int)<=(9223372036854775807:Int))/\Tt/\∃(g':Nat),A (z11.pre g')/\((z8/\Tt/\z1/\z9/\(A z2/\A (z5+(1:Int)=(↑g':Int)))/\Tt)/\(A (z4.length+P.m z5.toNat=(sel z0 P g').length)/\∀i:Nat,let z12:=(rI (sel z0 P g') i);let z7:=(P.p z5.toNat (i-z4.length));i<(sel z0 P g').length->((Tt/\A z2/\A ((bif decide (i<z4.length)then(rI z4 i).y else z7.y)=z12.y))/\A z2/\A ((bif decide (i<z4.length)then(rI z4 i).x0 else z7.x0)=z12.x0))/\A z2/\A ((bif decide (i<z4.length)then(rI z4 i).x1 else z7.x1)=z12.x1))/\Tt)/\A (z11.meas g'<z11.meas g)) (Tt/\(((A (z4.length=z4.length)/\∀i:Nat,let z10:=(rI z4 i);i<z4.length->((Tt/\q2 z10.y)/\q2 z10.x0)/\q2 z10.x1)/\Tt)/\A (joOk (Rg.mk z4.length (rI z4))))/\Tt/\Tt/\A (z6.length=(smR z0 P).length)/\∀i:Nat,let z14:=(rI (smR z0 P) i);i<(smR z0 P).length->((Tt/\A z2/\A ((rI z6 i).y=z14.y))/\A z2/\A ((rI z6 i).x0=z14.x0))/\A z2/\A ((rI z6 i).x1=z14.x1))) ?_;simp only[chp];simp only[cln,ly,lO];have hn:=hP.n;refine⟨⟨0,lB _,rfl,rfl,λi hi=>absurd hi (ln _)⟩,λk hk=>⟨λhlt=>?_,λhge=>?_⟩⟩
 ·have hadd:=b39 (b:=λ_=>true) (P:=P) (k:=k) rfl;have ht:=hP.tot (k+1) (by omega);exact⟨by omega,by omega,by omega,k+1,by show k+1<=P.n;omega,⟨by omega,hadd⟩,by show P.n-(k+1)<P.n-k;omega⟩
 ·have hkn:k=P.n:=by have:k<=P.n:=hk;omega
  subst hkn;exact⟨cc2 hP,ar5 rfl⟩
structure SiG where
 P:Pcs
 h:InG
def siDec:List SV->Option SiG
 | [s,.fn _ _ c]=>match c 0,c 1 with
  |.ref _ a,.ref _ b=>some ⟨pcD s,⟨(Sx.intOf (a 0)).toNat,Sx.intOf (b 0)⟩⟩
  |_,_=>none
 |_=>none
def b34:FSpec:=aa9 26 (γ:=SiG) siDec (λg=>[pcS g.P,inF g.h])
 (λg=>SmOk (has g.h) g.P/\g.h.ink<8/\∀k<g.P.n,0<=g.P.ink k g.h.ink/\g.P.ink k g.h.ink<=255) (λg=>al4 (smR (has g.h) g.P))
theorem b50(P:Pcs)(k j:Nat):Sx.intOf (pcC P k (1+j))=P.ink k j:=by rw[Nat.add_comm];rfl
theorem cd3(P:Pcs)(k:Nat):(λj=>Sx.intOf (pcC P k (1+j)))=P.ink k:=funext λj=>b50 P k j
theorem cd8:aa5 Tw.prog b34:=by
 refine ssW (specs:=[spI1,giv bs1]) (⟨ce7,aC8 bn1,trivial⟩) Tw.func26 (λg=>(⟨[(3,.inv (smI (inF g.h) (has g.h) g.P))],[(2,[.own 5 58 3])]⟩:Ann)) ?_;rintro⟨P,h⟩ ⟨hP,hi,hv⟩;refine ac7 (B:=let A:=Aq;let z17:=(0:Nat);let z16:=(smR (has h) P);let z11:=(↑h.ink:Int);let z6:=(smI (inF h) (has h) P);let z4:=(IntKind.u8=IntKind.u8);let q4:=λp:Int=>A z4/\A (p=p);let z1:=(IntKind.i64=IntKind.i64);let q1:=λp:Int=>A z1/\A (p=p);let z8:=(q1 ((↑P.n:Int)));let z3:=(A ((27:Go.FuncId)=(27:Go.FuncId))/\(Tt/\Tt/\q1 z11)/\Tt/\q1 h.least);let z0:=(A (P.n=P.n)/\∀i:Nat,i<P.n->(chp (Tt/\A (P.m i=P.m i)/\∀i_1:Nat,let z18:=(P.p i i_1);i_1<P.m i->((Tt/\q1 z18.y)/\q1 z18.x0)/\q1 z18.x1) (λj:Nat=>q4 (P.ink i j)) 7)/\q4 (P.ink i (7:Nat)));Tt/\Tt/\Tt/\Tt/\Tt/\(∃g:Nat,A (z6.pre g)/\(z3/\Tt/\z0/\z8/\(A z1/\A ((0:Int)=(↑g:Int)))/\Tt)/\(A (z17=(sel (has h) P g).length)/\∀i:Nat,i<(sel (has h) P g).length->((Tt/\False)/\False)/\False)/\Tt)/\∀g:Nat,let z5:=(↑g:Int);let z10:=(pcC P z5.toNat (z17+(z17+(1:Nat)+z11.toNat)));let z9:=((-9223372036854775808:Int)<=z5+(1:Int)/\z5+(1:Int)<=(9223372036854775807:Int));let z2:=(sel (has h) P g);let z7:=(au6 (Rg.mk z2.length (rI z2)));z6.pre g->Tt/\Br (decide (z5<(↑P.n:Int))) (A ((0:Int)<=z5/\z5<(↑P.n:Int))/\Tt/\Tt/\Tt/\Tt/\Tt/\Tt/\(((chp True (λj:Nat=>q4 (P.ink z5.toNat j)) 8)/\(Tt/\A z1/\A (z11=(↑z11.toNat:Int)))/\(Tt/\q1 h.least)/\Tt)/\A (z11.toNat<(8:Nat)/\(0:Int)<=Sx.intOf z10/\Sx.intOf z10<=(255:Int)))/\Br (has (InG.mk z11.toNat h.least) λ(j:Nat)=>Sx.intOf (pcC P z5.toNat (z17+(z17+(1:Nat)+j)))) (Tt/\Tt/\Tt/\A (z2.length+P.m z5.toNat<=(9223372036854775807:Nat)/\(z2.length+P.m z5.toNat)*(24:Nat)<=(140737488355328:Nat))/\Tt/\A z9/\Tt/\∃(g':Nat),let z12:=(sel (has h) P g');A (z6.pre g')/\((z3/\Tt/\z0/\z8/\(A z1/\A (z5+(1:Int)=(↑g':Int)))/\Tt)/\(A (z2.length+P.m z5.toNat=z12.length)/\∀i:Nat,let z14:=(P.p z5.toNat (i-z2.length));i<z12.length->((Tt/\A z1/\A ((bif decide (i<z2.length)then(rI z2 i).y else z14.y)=(rI z12 i).y))/\A z1/\A ((bif decide (i<z2.length)then(rI z2 i).x0 else z14.x0)=(rI z12 i).x0))/\A z1/\A ((bif decide (i<z2.length)then(rI z2 i).x1 else z14.x1)=(rI z12 i).x1))/\Tt)/\A (z6.meas g'<z6.meas g)) (A z9/\Tt/\∃(g':Nat),let z13:=(sel (has h) P g');A (z6.pre g')/\((z3/\Tt/\z0/\z8/\(A z1/\A (z5+(1:Int)=(↑g':Int)))/\Tt)/\(A (z2.length=z13.length)/\∀i:Nat,i<z13.length->((Tt/\A z1/\A ((rI z2 i).y=(rI z13 i).y))/\A z1/\A ((rI z2 i).x0=(rI z13 i).x0))/\A z1/\A ((rI z2 i).x1=(rI z13 i).x1))/\Tt)/\A (z6.meas g'<z6.meas g))) (Tt/\(((A (z2.length=z2.length)/\∀i:Nat,let z15:=(rI z2 i);i<z2.length->((Tt/\q1 z15.y)/\q1 z15.x0)/\q1 z15.x1)/\Tt)/\A (joOk (Rg.mk z2.length (rI z2))))/\Tt/\Tt/\A (z7.length=z16.length)/\∀i:Nat,i<z16.length->((Tt/\A z1/\A ((rI z7 i).y=(rI z16 i).y))/\A z1/\A ((rI z7 i).x0=(rI z16 i).x0))/\A z1/\A ((rI z7 i).x1=(rI z16 i).x1))) ?_;simp only[chp];simp only[cln,ly,lO];simp only[cd3,b50];have hP:SmOk (has h) P:=hP;have hn:=hP.n;refine⟨⟨0,lB _,rfl,rfl,λi hi=>absurd hi (ln _)⟩,λk hk=>⟨λhlt=>⟨by omega,⟨hi,hv k (by show k<P.n;omega)⟩,λhb=>?_,λhb=>?_⟩,λhge=>?_⟩⟩
 ·have hadd:=b39 (b:=has h) (P:=P) (k:=k) hb;have ht:=hP.tot (k+1) (by omega);exact⟨by omega,by omega,k+1,by show k+1<=P.n;omega,⟨by omega,hadd⟩,by show P.n-(k+1)<P.n-k;omega⟩
 ·exact⟨by omega,k+1,by show k+1<=P.n;omega,⟨by omega,ar5 (a15 (by rw[hb];decide)).symm⟩,by show P.n-(k+1)<P.n-k;omega⟩
 ·have hkn:k=P.n:=by have:k<=P.n:=hk;omega
  subst hkn;exact⟨cc2 hP,ar5 rfl⟩
theorem aF4{b:Vec->Bool}{P:Pcs}{r:Rn}:∀{n},r∈sel b P n<->∃k i,k<n/\b (P.ink k)=true/\i<P.m k/\r=P.p k i
 |0=>⟨λh=>(xi h).elim,λ⟨_,_,h,_⟩=>absurd h (ln _)⟩
 |n+1=>by
  have mL:∀{k},r∈Lf (P.p k) (P.m k)<->∃i,i<P.m k/\r=P.p k i:=λ{k}=>by
   unfold Lf;rw[lX];exact⟨λ⟨i,h,e⟩=>⟨i,lG.1 h,e.symm⟩,λ⟨i,h,e⟩=>⟨i,lG.2 h,e.symm⟩⟩
  by_cases hb:b (P.ink n)=true
  ·rw[a14 hb,ug,aF4,mL];constructor
   ·rintro(⟨k,i,h1,h2⟩|⟨i,h1,h2⟩)
    ·exact⟨k,i,by omega,h2⟩
    ·exact⟨n,i,by omega,hb,h1,h2⟩
   ·rintro⟨k,i,h1,h2,h3,h4⟩;by_cases hk:k=n
    ·subst hk;exact .inr ⟨i,h3,h4⟩
    ·exact .inl ⟨k,i,by omega,h2,h3,h4⟩
  ·rw[a15 hb,aF4];constructor
   ·rintro⟨k,i,h1,h2⟩;exact⟨k,i,by omega,h2⟩
   ·rintro⟨k,i,h1,h2,h3⟩;refine⟨k,i,?_,h2,h3⟩;have:k≠n:=λhc=>by subst hc;exact hb h2
    omega
theorem bJ7{b:Vec->Bool}{P:Pcs}:∀k,(sel b P k).length<=(al P k).length
 |0=>lh _
 |k+1=>by
  have ih:=bJ7 (b:=b) (P:=P) k;show _<=(al P k++alr P k (P.m k)).length;rw[lx,an3];by_cases hb:b (P.ink k)=true
  ·rw[a14 hb,lx,aq7];omega
  ·rw[a15 hb];omega
theorem bd0{P:Pcs}(h:PcOK P)(b:Vec->Bool):SmOk b P where
 ok r hr:=by
  obtain⟨k,i,h1,_,h2,rfl⟩:=aF4.1 hr;exact(h.v k h1).1 _ (ax7 h2)
 tot k hk:=lU (bJ7 k) (lU (bb0 P k P.n hk) h.tot)
 n:=h.n
def aO5:FSpec:=aa9 11 (γ:=ChG) (λ| [.int _ w,.int _ h,s]=>some ⟨w.toNat,h.toNat,pcD s⟩|_=>none) (λg=>[.int .i64 g.w,.int .i64 g.h,pcS g.P]) ChG.Ok (λg=>okP (al4 (smR (λ_=>true) g.P)))
theorem aX2:aa5 Tw.prog aO5:=by
 refine ssW (specs:=[aB6,b33]) (⟨aC3,cd7,trivial⟩) Tw.func11 (λg=>A0) ?_;rintro g hg;refine ac7 (B:=let A:=Aq;let z3:=(IntKind.u8=IntKind.u8);let q3:=λp:Int=>A z3/\A (p=p);let z2:=(IntKind.i64=IntKind.i64);let q2:=λp:Int=>A z2/\A (p=p);let z1:=(smR (λ(x:Gar.Vec)=>true) g.P);let z0:=(A (g.P.n=g.P.n)/\∀i:Nat,i<g.P.n->(chp (Tt/\A (g.P.m i=g.P.m i)/\∀i_1:Nat,let z4:=(g.P.p i i_1);i_1<g.P.m i->((Tt/\q2 z4.y)/\q2 z4.x0)/\q2 z4.x1) (λj:Nat=>q3 (g.P.ink i j)) 7)/\q3 (g.P.ink i (7:Nat)));Tt/\Tt/\Tt/\Tt/\Tt/\(((A z2/\A ((↑g.w:Int)=(↑(↑g.w:Int).toNat:Int)))/\(A z2/\A ((↑g.h:Int)=(↑(↑g.h:Int).toNat:Int)))/\z0/\Tt)/\A (ChG.mk (↑g.w:Int).toNat (↑g.h:Int).toNat g.P).Ok)/\Tt/\Tt/\Tt/\Tt/\((z0/\(A ((31:Nat)=(31:Go.FuncId))/\Tt)/\Tt)/\A (SmOk (λ(x:Gar.Vec)=>true) g.P))/\Tt/\Tt/\Tt/\(Tt/\A (z1.length=z1.length)/\∀i:Nat,let z5:=(rI z1 i);i<z1.length->((Tt/\q2 z5.y)/\q2 z5.x0)/\q2 z5.x1)/\q2 ((0:Int))) ?_;simp only[chp];simp only[cln,ly,lO];exact⟨hg,bd0 hg.P _⟩
structure IkG where
 w:Nat
 h:Nat
 P:Pcs
 i:InG
structure IkG.Ok(g:IkG):Prop where
 c:ChG.Ok ⟨g.w,g.h,g.P⟩
 ink:g.i.ink<8
 least:1<=g.i.least/\g.i.least<=255
 v:∀k<g.P.n,0<=g.P.ink k g.i.ink/\g.P.ink k g.i.ink<=255
def bW0:FSpec:=aa9 9 (γ:=IkG) (λ| [.int _ w,.int _ h,s,.int _ i,.int _ l]=>some ⟨w.toNat,h.toNat,pcD s,i.toNat,l⟩|_=>none) (λg=>[.int .i64 g.w,.int .i64 g.h,pcS g.P,.int .i64 g.i.ink,.int .i64 g.i.least]) IkG.Ok (λg=>okP (al4 (smR (has g.i) g.P)))
theorem bL9:aa5 Tw.prog bW0:=by
 refine ssW (specs:=[aB6,giv b34]) (⟨aC3,aC8 cd8,trivial⟩) Tw.func9 (λg=>A0) ?_;rintro g hg;refine ac7 (B:=let A:=Aq;let z8:=((3:Int)=(0:Int));let z5:=(↑g.i.ink:Int);let z4:=(smR (has g.i) g.P);let z6:=(Tt/\A (z4.length=(0:Nat)));let z3:=(IntKind.u8=IntKind.u8);let q3:=λp:Int=>A z3/\A (p=p);let z2:=(has (InG.mk z5.toNat g.i.least));let z1:=(IntKind.i64=IntKind.i64);let q1:=λp:Int=>A z1/\A (p=p);let z0:=(A (g.P.n=g.P.n)/\∀i:Nat,i<g.P.n->(chp (Tt/\A (g.P.m i=g.P.m i)/\∀i_1:Nat,let z7:=(g.P.p i i_1);i_1<g.P.m i->((Tt/\q1 z7.y)/\q1 z7.x0)/\q1 z7.x1) (λj:Nat=>q3 (g.P.ink i j)) 7)/\q3 (g.P.ink i (7:Nat)));Tt/\Tt/\Tt/\Tt/\Tt/\Tt/\Tt/\(((A z1/\A ((↑g.w:Int)=(↑(↑g.w:Int).toNat:Int)))/\(A z1/\A ((↑g.h:Int)=(↑(↑g.h:Int).toNat:Int)))/\z0/\Tt)/\A (ChG.mk (↑g.w:Int).toNat (↑g.h:Int).toNat g.P).Ok)/\Tt/\Tt/\Tt/\Tt/\Tt/\Tt/\Tt/\Tt/\Tt/\Tt/\Br (decide ((8:Int)<=z5)) (Tt/\Tt/\Tt/\Tt/\Tt/\Tt/\z6/\A z1/\A z8) (Tt/\Tt/\Tt/\Tt/\Br (decide (g.i.least<(1:Int))) (Tt/\Tt/\Tt/\Tt/\z6/\A z1/\A z8) (Tt/\Tt/\Tt/\Br (decide ((255:Int)<g.i.least)) (Tt/\Tt/\Tt/\z6/\A z1/\A z8) (Tt/\Tt/\((z0/\(A ((27:Nat)=(27:Go.FuncId))/\(Tt/\Tt/\A z1/\A (z5=(↑z5.toNat:Int)))/\Tt/\q1 g.i.least)/\Tt)/\A (SmOk z2 g.P/\z5.toNat<(8:Nat)/\∀k:Nat,k<g.P.n->(0:Int)<=g.P.ink k z5.toNat/\g.P.ink k z5.toNat<=(255:Int)))/\Tt/\Tt/\Tt/\(Tt/\A ((smR z2 g.P).length=z4.length)/\∀i:Nat,let z9:=(rI (smR z2 g.P) i);i<z4.length->((Tt/\A z1/\A (z9.y=(rI z4 i).y))/\A z1/\A (z9.x0=(rI z4 i).x0))/\A z1/\A (z9.x1=(rI z4 i).x1))/\q1 ((0:Int)))))) ?_;simp only[chp];simp only[cln,ly,lO];have h1:=hg.ink;have h2:=hg.least;exact⟨hg.c,λh=>by omega,λ_=>⟨λh=>by omega,λ_=>⟨λh=>by omega,λ_=>⟨bd0 hg.c.P _,h1,hg.v⟩⟩⟩⟩
end Som
namespace Rgh
open Go.RowKit Sx Num Aff Con Rga Rgl Rgm Rgn Rgb Rgc Rgf Rgg
structure PoG where
 n:Nat
 f:Nat->Pt
def ptR(p:Pt):Rn:=⟨p.y,p.x,p.x+1⟩
def PoG.r(g:PoG):Rg:=⟨g.n,λi=>ptR (g.f i)⟩
structure NrG where
 g:Rg
 m:Int
def NrG.x(h:NrG)(i:Nat):Int:=cutI (h.g.f i).x0 (-h.m) h.m
def NrG.y(h:NrG)(i:Nat):Int:=cutI (h.g.f i).y (-h.m) h.m
def NrG.w(h:NrG)(i:Nat):Int:=cutI (h.g.f i).x1 1 12
def NrG.pt(h:NrG)(i k:Nat):Pt:=⟨if h.x i+k<h.m then h.x i+k else h.m,h.y i⟩
def NrG.in'(h:NrG)(i k:Nat):List Pt:=(List.range k).map (h.pt i)
def NrG.L(h:NrG):Nat->List Pt
 |0=>[]
 |i+1=>h.L i++h.in' i (h.w i).toNat
def pI(L:List Pt)(k:Nat):Pt:=L.getD k ⟨0,0⟩
def NrG.ok(h:NrG):Prop:=(1<=h.m/\h.m<=1000)/\h.g.n<=9223372036854775807
def NrG.o(h:NrG):PoG:=⟨(h.L (min h.g.n 30)).length,pI (h.L (min h.g.n 30))⟩
end Rgh
namespace Rgo
open Rga Rgl Rgm Rgn Rgb Rgf Rgg Rgh
theorem ct4{g:CbG}{K:Bool->Bool->Bool}(ha:vld g.a.L)(hb:vld g.b.L)(hK:K false false=false):∀(m:Nat)(s:CsG),CbP g K s->2*g.a.n+2*g.b.n-s.i-s.j=m->∃s',CbP g K s'/\s'.i=2*g.a.n/\s'.j=2*g.b.n:=by
 intro m;induction m with
 |zero=>
  intro s P h;have h1:=P.hi;have h2:=P.hj;exact⟨s,P,by omega,by omega⟩
 |succ m ih=>
  intro s P h;have h1:=P.hi;have h2:=P.hj;by_cases hA:s.i<2*g.a.n/\(s.j<2*g.b.n->le2 (eY g.a.f s.i) (eX g.a.f s.i) (eY g.b.f s.j) (eX g.b.f s.j))
  ·exact ih _ (bw3 ha hb hK P hA.1 hA.2) (by show 2*g.a.n+2*g.b.n-(s.i+1)-s.j=m;omega)
  ·have hj:s.j<2*g.b.n:=by
    refine lz λhc=>hA ⟨by omega,λh=>absurd h hc⟩
   have hle:s.i<2*g.a.n->le2 (eY g.b.f s.j) (eX g.b.f s.j) (eY g.a.f s.i) (eX g.a.f s.i):=λhi=>by
    by_cases hc:le2 (eY g.a.f s.i) (eX g.a.f s.i) (eY g.b.f s.j) (eX g.b.f s.j)
    ·exact absurd ⟨hi,λ_=>hc⟩ hA
    ·omega
   exact ih _ (bw2 ha hb hK P hj hle) (by show 2*g.a.n+2*g.b.n-s.i-(s.j+1)=m;omega)
theorem ct5{g:CbG}{K:Bool->Bool->Bool}(ha:vld g.a.L)(hb:vld g.b.L)(hK:K false false=false)(y x:Int):mem (al9 K g) y x=K (mem g.a.L y x) (mem g.b.L y x):=by
 obtain⟨s,P,hi,hj⟩:=ct4 ha hb hK _ _ (bw4 g K) rfl;have hm:=P.hm;have h0:=P.h0;rw[show al9 K g=s.L from b77 ha hb hK P hi hj];have c1:=P.c1;have c2:=P.c2;rw[hi]at c1 hm h0;rw[hj]at c2 hm h0;have e0:∀n:Nat,odd (2*n)=false:=λn=>lf (by omega)
 have par:(0<2*g.a.n+2*g.b.n->le2 s.from'.y s.from'.x y x)->K (mem g.a.L y x) (mem g.b.L y x)=false:=λh1=>by
  rw[aX1 ha (lh _) (λh=>by have:=c1 h;have:=h1 (by omega);omega) (λh=>absurd h (xt _)),aX1 hb (lh _) (λh=>by have:=c2 h;have:=h1 (by omega);omega) (λh=>absurd h (xt _)),e0,e0,hK]
 rcases xB (2*g.a.n+2*g.b.n)with h|h
 ·rw[h0 h,par (λh'=>by omega)];rfl
 ·rw[hm h];by_cases d:lt2 y x s.from'.y s.from'.x
  ·rw[lg d,lap]
  ·rw[lf d,par (λ_=>by omega)];rfl
def un(K:Bool->Bool->Bool)(A B:List Rn):List Rn:=al9 K ⟨⟨A.length,rI A⟩,⟨B.length,rI B⟩⟩
theorem ao7(K:Bool->Bool->Bool)(A B:List Rn):vld (un K A B):=aP6 _
theorem aH9{K:Bool->Bool->Bool}(hK:K false false=false){A B:List Rn}(hA:vld A)(hB:vld B)(y x:Int):mem (un K A B) y x=K (mem A y x) (mem B y x):=by
 have h:=ct5 (g:=⟨⟨A.length,rI A⟩,⟨B.length,rI B⟩⟩) (K:=K) (by rw[Rg.L_of];exact hA) (by rw[Rg.L_of];exact hB) hK y x;rw[Rg.L_of,Rg.L_of]at h;exact h
theorem b69{f:Nat->Rn}{n:Nat}(ok:∀k<n,okR (f k))(srt:∀j k,j<k->k<n->le0 (f j) (f k)):∀i,i<=n->∃L,JoP f n i L
 |0,_=>⟨[],a61 f n⟩
 |i+1,h=>by
  obtain⟨L,P⟩:=b69 ok srt i (by omega);exact⟨_,bn6 ok srt P h⟩
theorem b70{g:Rg}(hok:∀i<g.n,okR (g.f i))(y x:Int):mem (au6 g) y x=mem g.L y x:=by
 have hmem:∀k<g.n,rI (srt g) k∈srt g:=λk hk=>by
  unfold rI;rw[la,lw (by rw[ar3];exact hk)];exact xv _
 have oks:∀k<g.n,okR (rI (srt g) k):=λk hk=>by
  obtain⟨j,hj,e⟩:=lX.1 ((al3 g).mem_iff.1 (hmem k hk));rw[<-e];exact hok j (lG.1 hj)
 have srt':∀j k,j<k->k<g.n->le0 (rI (srt g) j) (rI (srt g) k):=λj k hjk hk=>by
  have h:=aw1 g hjk hk;rw[au5]at h;obtain⟨⟨⟨a1,a2⟩,⟨a3,a4⟩,_⟩,_⟩:=oks j (by omega);obtain⟨⟨⟨b1,b2⟩,⟨b3,b4⟩,_⟩,_⟩:=oks k hk;rw[as6 a1 (by omega),as6 a3 a4,as6 b1 (by omega),as6 b3 b4]at h;unfold le0;omega
 obtain⟨L,P⟩:=b69 oks srt' g.n (lh _);have es:Lf (rI (srt g)) g.n=srt g:=by rw[<-ar3 g];exact b22 _
 have e:∀y x,mem L y x=mem g.L y x:=λy x=>by rw[P.hm,es];exact mem_congr (λr=>(al3 g).mem_iff) y x
 rw[show au6 g=L from aM3 P.hL e];exact e y x
def nr(m:Int)(g:Rg):List Rn:=au6 (NrG.o ⟨g,m⟩).r
end Rgo
namespace Dil
open Rgc Rgg
open Go.RowKit Sx Num Aff Con Rga Rgl Rgm Rgn Rgb Rgo
structure DiG where
 g:Rg
 w:Nat
def wid(w:Nat)(r:Rn):Rn:=⟨r.y,r.x0-w,r.x1+w⟩
structure Boxed(g:Rg):Prop where
 v:vld g.L
 b:∀i<g.n,(-1000<=(g.f i).y/\(g.f i).y<=1000)/\ -1000<=(g.f i).x0/\(g.f i).x1<=1000
def DiG.W(h:DiG):Nat->List Rn
 |0=>[]
 |i+1=>addR (h.W i) (wid h.w (h.g.f i))
structure DiG.Ok(h:DiG):Prop where
 g:Boxed h.g
 w:h.w<=64
def DiG.q(h:DiG):Nat:=2*h.w+1
def DiG.V(h:DiG):List Rn:=h.W h.g.n
def DiG.R(h:DiG)(k:Nat):Rn:=⟨(rI h.V (k/h.q)).y-h.w+((k%h.q:Nat):Int),(rI h.V (k/h.q)).x0,(rI h.V (k/h.q)).x1⟩
def DiG.o(h:DiG):List Rn:=au6 ⟨h.V.length*h.q,h.R⟩
theorem DiG.jo{h:DiG}(hh:h.Ok):∀i,i<=h.g.n->JoP (λk=>wid h.w (h.g.f k)) h.g.n i (h.W i)
 |0,_=>a61 _ _
 |i+1,hi=>by
  refine bn6 (λk hk=>?_) (λj k hjk hk=>?_) (DiG.jo hh i (by omega)) hi
  ·have h1:=hh.g.b k hk;have h2:=hh.w;have h3:=(bn0 hh.g.v hk).2;unfold wid okR;show((-8192<=(h.g.f k).y/\(h.g.f k).y<8192)/\(-8192<=(h.g.f k).x0-(h.w:Int)/\(h.g.f k).x0-(h.w:Int)<=8192)/\ -8192<=(h.g.f k).x1+(h.w:Int)/\(h.g.f k).x1+(h.w:Int)<=8192)/\(h.g.f k).x0-(h.w:Int)<(h.g.f k).x1+(h.w:Int);omega
  ·have h1:=bY9 hh.g.v hjk hk;have h3:=(bn0 hh.g.v (show j<h.g.n by omega)).2;unfold ltR at h1;show(h.g.f j).y<(h.g.f k).y\/((h.g.f j).y=(h.g.f k).y/\(h.g.f j).x0-(h.w:Int)<=(h.g.f k).x0-(h.w:Int));omega
theorem aE5(L:List Rn)(r:Rn):(addR L r).length<=L.length+1:=by
 rcases aj8 L with rfl|⟨P,s,rfl⟩
 ·rw[add_nil];split<;>simp
 ·rw[ax2];split
  ·split<;>simp
  ·exact lab _
theorem DiG.cj4(h:DiG):∀i,(h.W i).length<=i
 |0=>lh _
 |i+1=>by
  have h1:=aE5 (h.W i) (wid h.w (h.g.f i));have h2:=DiG.cj4 h i;show(addR (h.W i) (wid h.w (h.g.f i))).length<=i+1;omega
theorem DiG.b18{h:DiG}(hh:h.Ok){y x:Int}:mem h.V y x=true<->∃i,i<h.g.n/\(h.g.f i).y=y/\(h.g.f i).x0-h.w<=x/\x<(h.g.f i).x1+h.w:=by
 rw[show mem h.V y x=mem (Lf (λk=>wid h.w (h.g.f k)) h.g.n) y x from(DiG.jo hh h.g.n (lh _)).hm y x];exact a47 (g:=⟨h.g.n,λk=>wid h.w (h.g.f k)⟩)
theorem DiG.V_vld{h:DiG}(hh:h.Ok):vld h.V:=(DiG.jo hh h.g.n (lh _)).hL
theorem b48{L:List Rn}{i:Nat}(h:i<L.length):rI L i∈L:=by
 unfold rI;rw[la,lw h];exact xv _
theorem b63{L:List Rn}{y x:Int}:mem L y x=true<->∃i,i<L.length/\(rI L i).y=y/\(rI L i).x0<=x/\x<(rI L i).x1:=by
 have h:=a47 (g:=⟨L.length,rI L⟩) (y:=y) (x:=x);rw[Rg.L_of]at h;exact h
theorem DiG.cu3{h:DiG}(hh:h.Ok){m:Nat}(hm:m<h.V.length):(-1000<=(rI h.V m).y/\(rI h.V m).y<=1000)/\(-1100<=(rI h.V m).x0/\(rI h.V m).x1<=1100)/\(rI h.V m).x0<(rI h.V m).x1:=by
 have hr:=b48 hm;have ok:=((DiG.V_vld hh).1 _ hr).2;have hw:=hh.w;obtain⟨i,hi,a1,a2,a3⟩:=(DiG.b18 hh).1 ((mem_iff _ _ _).2 ⟨_,hr,rfl,xp _,ok⟩);obtain⟨j,hj,b1,b2,b3⟩:=(DiG.b18 hh).1 ((mem_iff _ (rI h.V m).y ((rI h.V m).x1-1)).2 ⟨_,hr,rfl,by omega,by omega⟩);have c1:=hh.g.b i hi;have c2:=hh.g.b j hj;omega
theorem DiG.R_ok{h:DiG}(hh:h.Ok){k:Nat}(hk:k<h.V.length*h.q):okR (h.R k):=by
 have hq:0<h.q:=xF _;have hw:=hh.w;obtain⟨⟨h1,h2⟩,⟨h3,h4⟩,h5⟩:=DiG.cu3 hh (Nat.div_lt_of_lt_mul (show k<h.q*h.V.length by rw[xO];exact hk));have hr:=xS k hq;have hq':h.q=2*h.w+1:=rfl;unfold okR DiG.R;show((-8192<=(rI h.V (k/h.q)).y-(h.w:Int)+((k%h.q:Nat):Int)/\(rI h.V (k/h.q)).y-(h.w:Int)+((k%h.q:Nat):Int)<8192)/\(-8192<=(rI h.V (k/h.q)).x0/\(rI h.V (k/h.q)).x0<=8192)/\ -8192<=(rI h.V (k/h.q)).x1/\(rI h.V (k/h.q)).x1<=8192)/\(rI h.V (k/h.q)).x0<(rI h.V (k/h.q)).x1;omega
theorem DiG.at{h:DiG}{m c:Nat}(hc:c<h.q):(m*h.q+c)/h.q=m/\(m*h.q+c)%h.q=c:=by
 have hq:0<h.q:=xF _;constructor
 ·rw[xO,Nat.mul_add_div hq,Nat.div_eq_of_lt hc,lV]
 ·rw[xO,Nat.mul_add_mod,uN hc]
theorem DiG.o_vld(h:DiG):vld h.o:=aP6 _
theorem DiG.o_mem{h:DiG}(hh:h.Ok){y x:Int}:mem h.o y x=true<->∃a b:Int,(-(h.w:Int)<=a/\a<=h.w)/\(-(h.w:Int)<=b/\b<=h.w)/\mem h.g.L (y+a) (x+b)=true:=by
 rw[show h.o=au6 ⟨h.V.length*h.q,h.R⟩from rfl,b70 (λk hk=>DiG.R_ok hh hk),a47];have hq':h.q=2*h.w+1:=rfl;have hq:0<h.q:=xF _;constructor
 ·rintro⟨k,hk,h1,h2,h3⟩;have hk:k<h.V.length*h.q:=hk;have hm:=Nat.div_lt_of_lt_mul (show k<h.q*h.V.length by rw[xO];exact hk);have hr:=xS k hq;have h1:(rI h.V (k/h.q)).y-(h.w:Int)+((k%h.q:Nat):Int)=y:=h1;obtain⟨i,hi,a1,a2,a3⟩:=(DiG.b18 hh).1 (b63.2 ⟨_,hm,rfl,h2,h3⟩);have ok:=(bn0 hh.g.v hi).2;by_cases c1:x<(h.g.f i).x0
  ·exact⟨(h.g.f i).y-y,(h.g.f i).x0-x,by omega,by omega,a47.2 ⟨i,hi,by omega,by omega,by omega⟩⟩
  ·by_cases c2:x<(h.g.f i).x1
   ·exact⟨(h.g.f i).y-y,0,by omega,by omega,a47.2 ⟨i,hi,by omega,by omega,by omega⟩⟩
   ·exact⟨(h.g.f i).y-y,(h.g.f i).x1-1-x,by omega,by omega,a47.2 ⟨i,hi,by omega,by omega,by omega⟩⟩
 ·rintro⟨a,b,ha,hb,hm⟩;obtain⟨i,hi,a1,a2,a3⟩:=a47.1 hm;obtain⟨m,hm,b1,b2,b3⟩:=b63.1 ((DiG.b18 hh).2 ⟨i,hi,rfl,show(h.g.f i).x0-(h.w:Int)<=x by omega,show x<(h.g.f i).x1+(h.w:Int)by omega⟩);obtain⟨c,hc⟩:∃c:Nat,(c:Int)=h.w-a:=⟨(h.w-a).toNat,by omega⟩
  have e1:(m*h.q+c)/h.q=m:=by
   rw[xO,Nat.mul_add_div hq,Nat.div_eq_of_lt (by omega),lV]
  have e2:(m*h.q+c)%h.q=c:=by
   rw[xO,Nat.mul_add_mod,uN (by omega)]
  have hlt:m*h.q+c<h.V.length*h.q:=by
   have:(m+1)*h.q<=h.V.length*h.q:=lk _ hm
   rw[uq]at this;omega
  refine⟨m*h.q+c,hlt,?_⟩;show(rI h.V ((m*h.q+c)/h.q)).y-(h.w:Int)+(((m*h.q+c)%h.q:Nat):Int)=y/\(rI h.V ((m*h.q+c)/h.q)).x0<=x/\x<(rI h.V ((m*h.q+c)/h.q)).x1;rw[e1,e2];exact⟨by omega,b2,b3⟩
def Ls(L:List Rn):Rg:=⟨L.length,rI L⟩
theorem Ls_L(L:List Rn):(Ls L).L=L:=Rg.L_of L
structure Bx(B:Int)(L:List Rn):Prop where
 v:vld L
 b:∀y x,mem L y x=true->(-B<=y/\y<=B)/\ -B<=x/\x<=B
theorem Bx.run{B:Int}{L:List Rn}(h:Bx B L){r:Rn}(hr:r∈L):(-B<=r.y/\r.y<=B)/\(-B<=r.x0/\r.x1<=B+1)/\r.x0<r.x1:=by
 have ok:=(h.v.1 r hr).2;have h1:=h.b r.y r.x0 ((mem_iff _ _ _).2 ⟨r,hr,rfl,xp _,ok⟩);have h2:=h.b r.y (r.x1-1) ((mem_iff _ _ _).2 ⟨r,hr,rfl,by omega,by omega⟩);omega
theorem Bx.mono{B C:Int}{L:List Rn}(h:Bx B L)(hBC:B<=C):Bx C L:=⟨h.v,λy x hm=>by have:=h.b y x hm;omega⟩
theorem Bx.ok{B:Int}{L:List Rn}(h:Bx B L)(hB:B<=900){w:Nat}(hw:w<=64):(⟨Ls L,w⟩:DiG).Ok:=by
 refine⟨⟨by rw[Ls_L];exact h.v,λi hi=>?_⟩,hw⟩;have:=h.run (b48 (L:=L) (i:=i) hi)
 show(-1000<=(rI L i).y/\(rI L i).y<=1000)/\ -1000<=(rI L i).x0/\(rI L i).x1<=1000;omega
def rowF(n:Nat)(f:Nat->Rn):SO:= .row 0 n 3 (λi=>lst (rnL (f i))) 58
def bldS(k:Nat):SO:= .cells 1 (lst [.osl k 0]) 67
def di1(h:DiG):Inv:=⟨Nat,λi=>i<=h.g.n,λi=>⟨[(1,.int .i64 h.w),(5,.own 0 0),(12,rgS h.g),(13,.int .i64 h.g.n),(14,.int .i64 i)],[bldS 1,rowF (h.W i).length (rI (h.W i))]⟩,λi=>h.g.n-i⟩
def di2(h:DiG):Inv:=⟨Nat,λm=>m<=h.V.length,λm=>⟨[(1,.int .i64 h.w),(8,.osl 2 0),(41,.osl 1 0),(42,.int .i64 h.V.length),(43,.int .i64 m)],[bldS 1,rowF h.V.length (rI h.V),rowF (m*h.q) h.R]⟩,λm=>h.V.length-m⟩
def di3(h:DiG)(m:Nat):Inv:=⟨Nat,λc=>m<h.V.length/\c<=h.q,λc=>⟨[(1,.int .i64 h.w),(8,.osl 2 0),(41,.osl 1 0),(42,.int .i64 h.V.length),(43,.int .i64 m),(10,.own 3 0),(11,.int .i64 ((rI h.V m).y-(h.w:Int)+(c:Int)))],[bldS 1,rowF h.V.length (rI h.V),rowF (m*h.q+c) h.R,.cells 3 (lst (rnL (rI h.V m))) 58]⟩,λc=>h.q-c⟩
def bs3:FSpec:=aa9 43 (γ:=DiG) (λ| [s,.int _ w]=>some ⟨⟨aj1 s,rgD s⟩,w.toNat⟩|_=>none) (λh=>[rgS h.g,.int .i64 h.w]) (λh=>h.Ok/\h.g.n*h.q<=1000000) (λh=>al4 h.o)
theorem bM1:aa5 Tw.prog bs3:=by
 refine ssW (specs:=[aO6,giv bs1]) (⟨aF8,aC8 bn1,trivial⟩) Tw.func43 (λg=>(⟨[(3,.inv (di1 g)),(9,.nest (di2 g) (λm=>[(12,.inv (di3 g m))]))],[(2,[.ownC 0 0 58 3])]⟩:Ann)) ?_;rintro g hg;refine ac7 (B:=let T5:=λp:Prop=>Tt/\Tt/\Tt/\Tt/\Tt/\p;let T8:=λp:Prop=>Tt/\Tt/\Tt/\Tt/\Tt/\Tt/\Tt/\Tt/\p;let A:=Aq;let z29:=(0:Int);let z28:=(↑g.g.n:Int);let z26:=(Tt/\Tt);let z25:=(1:Int);let z22:=(-8192:Int);let z20:=((0:Nat)=(0:Nat));let z12:=(↑g.V.length:Int);let z8:=(-9223372036854775808:Int);let z7:=(9223372036854775807:Int);let z4:=(↑g.w:Int);let z14:=((2:Int)*z4+z25);let z0:=(IntKind.i64=IntKind.i64);let q0:=λp:Int=>A z0/\A (p=p);let z24:=(q0 z12);let z11:=(q0 z4);let z9:=(A (g.g.n=g.g.n)/\∀i:Nat,i<g.g.n->((Tt/\q0 ((g.g.f i).y))/\q0 ((g.g.f i).x0))/\q0 ((g.g.f i).x1));let z3:=(A (g.V.length=g.V.length)/\∀i:Nat,let z27:=(rI g.V i);i<g.V.length->((Tt/\q0 z27.y)/\q0 z27.x0)/\q0 z27.x1);T5 ((∃g_1:Nat,A ((di1 g).pre g_1)/\(z11/\A z20/\z9/\(q0 z28)/\(A z0/\A (z29=(↑g_1:Int)))/\Tt)/\z26/\(A ((0:Nat)=(g.W g_1).length)/\∀i:Nat,i<(g.W g_1).length->((Tt/\False)/\False)/\False)/\Tt)/\∀g_1:Nat,let z31:=(↑g_1:Int);let z13:=(g.W g_1);let z21:=(↑z13.length:Int);let z5:=(g.g.f z31.toNat);let z32:=(if z22>z5.x0-z4 then z22 else z5.x0-z4);let z23:=(if(8192:Int)<z5.x1+z4 then(8192:Int)else z5.x1+z4);let z1:=(AdG.mk z13.length (rI z13) (Rn.mk z5.y z32 z23));(di1 g).pre g_1->Tt/\Br (decide (z31<z28)) (A (z29<=z31/\z31<z28)/\T8 (A (z8<=z5.x0-z4/\z5.x0-z4<=z7)/\Tt/\Tt/\Tt/\Tt/\A (z8<=z5.x1+z4/\z5.x1+z4<=z7)/\Tt/\((Tt/\(A z20/\(q0 z5.y)/\(A z0/\A (z32=if z22>z5.x0-z4 then z22 else z5.x0-z4))/\(A z0/\A (z23=if(8192:Int)<z5.x1+z4 then(8192:Int)else z5.x1+z4))/\Tt)/\z26/\(A (z13.length=z13.length)/\∀i:Nat,let z30:=(rI z13 i);i<z13.length->((Tt/\q0 z30.y)/\q0 z30.x0)/\q0 z30.x1)/\Tt)/\A (z13.length<=(4294967296:Nat)))/\A (z8<=z31+z25/\z31+z25<=z7)/\Tt/\∃(g':Nat),A ((di1 g).pre g')/\((z11/\A z20/\z9/\(q0 z28)/\(A z0/\A (z31+z25=(↑g':Int)))/\Tt)/\z26/\(A (z1.L.length=(g.W g').length)/\∀i:Nat,i<(g.W g').length->((Tt/\A z0/\A ((rI z1.L i).y=(rI (g.W g') i).y))/\A z0/\A ((rI z1.L i).x0=(rI (g.W g') i).x0))/\A z0/\A ((rI z1.L i).x1=(rI (g.W g') i).x1))/\Tt)/\A ((di1 g).meas g'<(di1 g).meas g_1))) (Tt/\Tt/\Tt/\Tt/\A (z8<=(2:Int)*z4/\(2:Int)*z4<=z7)/\A (z8<=(2:Int)*z4+z25/\(2:Int)*z4+z25<=z7)/\A (z8<=z21*z14/\z21*z14<=z7)/\A (z29<=z29/\z29<=z21*z14/\(↑(24:Nat):Int)*(z21*z14)<=(140737488355328:Int)/\z21*z14<=z7)/\T5 ((∃g_2:Nat,A ((di2 g).pre g_2)/\(z11/\Tt/\Tt/\(A z0/\A (z21=z12))/\(A z0/\A (z29=(↑g_2:Int)))/\Tt)/\z26/\(A (z13.length=g.V.length)/\∀i:Nat,i<g.V.length->((Tt/\A z0/\A ((rI z13 i).y=(rI g.V i).y))/\A z0/\A ((rI z13 i).x0=(rI g.V i).x0))/\A z0/\A ((rI z13 i).x1=(rI g.V i).x1))/\(A (Int.toNat z29=g_2*g.q)/\∀i:Nat,let z34:=(rI g.V (i/g.q));i<g_2*g.q->((Tt/\A z0/\A (z29=z34.y-z4+(↑(i%g.q):Int)))/\A z0/\A (z29=z34.x0))/\A z0/\A (z29=z34.x1))/\Tt)/\∀g_2:Nat,let z19:=(↑g_2:Int);let z10:=(rI g.V z19.toNat);let z6:=(rI g.V g_2);let z2:=(Rg.mk (g_2*g.q) λ(i:Nat)=>let z35:=(rI g.V (i/g.q));Rn.mk (z35.y-z4+(↑(i%g.q):Int)) z35.x0 z35.x1);(di2 g).pre g_2->Tt/\Br (decide (z19<z12)) (A (z29<=z19/\z19<z12)/\A (z19.toNat<g.V.length)/\T5 (A (z8<=z10.y-z4/\z10.y-z4<=z7)/\Tt/\Tt/\(∃g_3:Nat,A ((di3 g g_2).pre g_3)/\(z11/\Tt/\Tt/\z24/\(q0 z19)/\A z20/\(A z0/\A ((if z22>z10.y-z4 then z22 else z10.y-z4)=z6.y-z4+(↑g_3:Int)))/\Tt)/\z26/\z3/\(A (g_2*g.q=g_2*g.q+g_3)/\∀i:Nat,let z15:=(rI g.V (i/g.q));i<g_2*g.q+g_3->((Tt/\q0 (z15.y-z4+(↑(i%g.q):Int)))/\q0 z15.x0)/\q0 z15.x1)/\(((Tt/\A z0/\A (z10.y=z6.y))/\A z0/\A (z10.x0=z6.x0))/\A z0/\A (z10.x1=z6.x1))/\Tt)/\∀g_3:Nat,let z37:=(↑g_3:Int);(di3 g g_2).pre g_3->Tt/\Tt/\Tt/\Tt/\A (z8<=z6.y+z4/\z6.y+z4<=z7)/\Tt/\Tt/\Br (decide (z6.y-z4+z37<=if(8191:Int)<z6.y+z4 then(8191:Int)else z6.y+z4)) (T8 (A (g_2*g.q+g_3+(1:Nat)<=(9223372036854775807:Nat)/\(g_2*g.q+g_3+(1:Nat))*(24:Nat)<=(140737488355328:Nat))/\Tt/\Tt/\A (z8<=z6.y-z4+z37+z25/\z6.y-z4+z37+z25<=z7)/\Tt/\∃(g':Nat),A ((di3 g g_2).pre g')/\((z11/\Tt/\Tt/\z24/\(q0 z19)/\A z20/\(A z0/\A (z6.y-z4+z37+z25=z6.y-z4+(↑g':Int)))/\Tt)/\z26/\z3/\(A (g_2*g.q+g_3+(1:Nat)=g_2*g.q+g')/\∀i:Nat,let z36:=(i<g_2*g.q+g_3);let z16:=(rI g.V (i/g.q));i<g_2*g.q+g'->((Tt/\A z0/\A ((bif decide z36 then z16.y-z4+(↑(i%g.q):Int)else z6.y-z4+z37)=z16.y-z4+(↑(i%g.q):Int)))/\A z0/\A ((bif decide z36 then z16.x0 else z6.x0)=z16.x0))/\A z0/\A ((bif decide z36 then z16.x1 else z6.x1)=z16.x1))/\(((Tt/\q0 z6.y)/\q0 z6.x0)/\q0 z6.x1)/\Tt)/\A ((di3 g g_2).meas g'<(di3 g g_2).meas g_3))) (A (z8<=z19+z25/\z19+z25<=z7)/\Tt/\∃(g':Nat),A ((di2 g).pre g')/\((z11/\Tt/\Tt/\z24/\(A z0/\A (z19+z25=(↑g':Int)))/\Tt)/\z26/\z3/\(A (g_2*g.q+g_3=g'*g.q)/\∀i:Nat,let z17:=(rI g.V (i/g.q));i<g'*g.q->((Tt/\q0 (z17.y-z4+(↑(i%g.q):Int)))/\q0 z17.x0)/\q0 z17.x1)/\Tt)/\A ((di2 g).meas g'<(di2 g).meas g_2)))) (Tt/\(((A (g_2*g.q=g_2*g.q)/\∀i:Nat,let z18:=(rI g.V (i/g.q));i<g_2*g.q->((Tt/\q0 (z18.y-z4+(↑(i%g.q):Int)))/\q0 z18.x0)/\q0 z18.x1)/\Tt)/\A (joOk z2))/\Tt/\Tt/\A ((au6 z2).length=g.o.length)/\∀i:Nat,let z33:=(rI (au6 z2) i);i<g.o.length->((Tt/\A z0/\A (z33.y=(rI g.o i).y))/\A z0/\A (z33.x0=(rI g.o i).x0))/\A z0/\A (z33.x1=(rI g.o i).x1)))))) ?_;simp only[cln];obtain⟨hh,hn⟩:=hg;have hw:=hh.w;have hq:g.q=2*g.w+1:=rfl;have hgl:=ao3 hh.g.v;rw[Rg.len]at hgl;have hVn:g.V.length<=g.g.n:=DiG.cj4 g g.g.n;have hprod:g.V.length*g.q<=1000000:=lU (lk _ hVn) hn;refine⟨⟨0,lB _,rfl,rfl,λi hi=>absurd hi (ln i)⟩,λi hi=>⟨λhlt=>?_,λhge=>?_⟩⟩
 ·have hi:i<=g.g.n:=hi;have hin:i<g.g.n:=by omega
  have z:((i:Int)).toNat=i:=rfl;have b:=hh.g.b i hin;have ok:=(bn0 hh.g.v hin).2;have hWl:=DiG.cj4 g i;have e1:(if -8192>(g.g.f i).x0-(g.w:Int)then -8192 else(g.g.f i).x0-(g.w:Int))=(g.g.f i).x0-(g.w:Int):=lu (by omega);have e2:(if 8192<(g.g.f i).x1+(g.w:Int)then 8192 else(g.g.f i).x1+(g.w:Int))=(g.g.f i).x1+(g.w:Int):=lu (by omega);rw[z,e1,e2,Rgb.addL];refine⟨by omega,by omega,by omega,by omega,by omega,i+1,hin,⟨rfl,rfl,λk _=>⟨⟨rfl,rfl⟩,rfl⟩⟩,?_⟩;show g.g.n-(i+1)<g.g.n-i;omega
 ·have hi:i<=g.g.n:=hi;have ei:i=g.g.n:=by omega
  subst ei;have hV:g.W g.g.n=g.V:=rfl;rw[hV];have hpI:(g.V.length:Int)*(2*(g.w:Int)+1)=((g.V.length*g.q:Nat):Int):=by rw[hq];simp
  rw[hpI];refine⟨by omega,by omega,by omega,by omega,⟨0,lB _,⟨rfl,rfl⟩,⟨rfl,λk _=>⟨⟨rfl,rfl⟩,rfl⟩⟩,(xz _).symm,λk hk=>absurd hk (by rw[xz];exact ln k)⟩,λm hm=>⟨λhlt=>?_,λhge=>?_⟩⟩
  ·have hmV:m<g.V.length:=by omega
   have z:((m:Int)).toNat=m:=rfl;obtain⟨⟨b1,b2⟩,⟨b3,b4⟩,b5⟩:=DiG.cu3 hh hmV;rw[z];refine⟨by omega,hmV,by omega,⟨0,⟨hmV,lB _⟩,by rw[lu (by omega)];omega,rfl,⟨rfl,rfl⟩,rfl⟩,λc hc=>?_⟩;obtain⟨-,hcq⟩:m<g.V.length/\c<=g.q:=hc;rw[lu (show¬ 8191<(rI g.V m).y+(g.w:Int)by omega)];have hb:(m+1)*g.q<=g.V.length*g.q:=lk _ hmV;rw[uq]at hb;refine⟨by omega,λhle=>⟨by omega,by omega,c+1,⟨hmV,by omega⟩,⟨by omega,rfl,λk hk=>?_⟩,?_⟩,λhgt=>⟨by omega,m+1,hmV,⟨rfl,?_⟩,?_⟩⟩
   ·by_cases ck:k<m*g.q+c
    ·rw[lg ck];exact⟨⟨rfl,rfl⟩,rfl⟩
    ·have ek:k=m*g.q+c:=by omega
     obtain⟨d1,d2⟩:=DiG.at (h:=g) (m:=m) (c:=c) (by omega);rw[lf ck,ek,d1,d2];exact⟨⟨rfl,rfl⟩,rfl⟩
   ·show g.q-(c+1)<g.q-c;omega
   ·rw[uq];omega
   ·show g.V.length-(m+1)<g.V.length-m;omega
  ·have hm:m<=g.V.length:=hm;have em:m=g.V.length:=by omega
   subst em;exact⟨⟨λk hk=>DiG.R_ok hh hk,by show g.V.length*g.q<=100000000;omega⟩,rfl,λk _=>⟨⟨rfl,rfl⟩,rfl⟩⟩
def bs6:FSpec:=aa9 50 (γ:=DiG) (λ| [s,.int _ w]=>some ⟨⟨aj1 s,rgD s⟩,w.toNat⟩|_=>none) (λh=>[rgS h.g,.int .i64 h.w]) (λh=>vld h.g.L/\h.w<=64) (λ_=> .int .i64 0)
theorem bM4:aa5 Tw.prog bs6:=by
 refine ssW (specs:=[aw2]) (⟨au2,trivial⟩) Tw.func50 (λg=>A0) ?_;rintro g hg;refine ac7 (B:=let A:=Aq;let z0:=(IntKind.i64=IntKind.i64);let q0:=λp:Int=>A z0/\A (p=p);Tt/\Tt/\(((A (g.g.n=g.g.n)/\∀i:Nat,i<g.g.n->((Tt/\q0 ((g.g.f i).y))/\q0 ((g.g.f i).x0))/\q0 ((g.g.f i).x1))/\Tt)/\A (vld g.g.L/\g.g.n<=(4294967296:Nat)))/\Tt/\Tt/\Tt/\Tt/\Tt/\Tt/\Tt/\Tt/\Tt/\Br (decide ((64:Int)<(↑g.w:Int))) (Tt/\Tt/\A z0/\A ((3:Int)=(0:Int))) (Tt/\Tt/\q0 ((0:Int)))) ?_;simp only[cln];obtain⟨hv,hw⟩:=hg;have hl:=ao3 hv;rw[Rg.len]at hl;exact⟨⟨hv,by omega⟩,λh=>absurd h (by omega)⟩
def DiOk(h:DiG):Prop:=h.Ok/\h.g.n*h.q<=1000000
def bI5:FSpec:=aa9 42 (γ:=DiG) (λ| [s,.int _ w,.fn _ _ _]=>some ⟨⟨aj1 s,rgD s⟩,w.toNat⟩|_=>none) (λh=>[rgS h.g,.int .i64 h.w,.fn 43 0 (lst [])]) DiOk (λh=>okP (al4 (h.o)))
theorem bX6:aa5 Tw.prog bI5:=by
 refine ssW (specs:=[bs6,bs3]) (⟨bM4,bM1,trivial⟩) Tw.func42 (λg=>A0) ?_;rintro g hg;refine ac7 (B:=let A:=Aq;let z1:=(IntKind.i64=IntKind.i64);let q1:=λp:Int=>A z1/\A (p=p);let z0:=((A (g.g.n=g.g.n)/\∀i:Nat,i<g.g.n->((Tt/\q1 ((g.g.f i).y))/\q1 ((g.g.f i).x0))/\q1 ((g.g.f i).x1))/\(A z1/\A ((↑g.w:Int)=(↑(↑g.w:Int).toNat:Int)))/\Tt);Tt/\Tt/\Tt/\Tt/\(z0/\A (vld g.g.L/\g.w<=(64:Nat)))/\Tt/\Tt/\Tt/\Tt/\Tt/\Tt/\(z0/\A (g.Ok/\g.g.n*g.q<=(1000000:Nat)))/\Tt/\Tt/\Tt/\(Tt/\A (g.o.length=g.o.length)/\∀i:Nat,let z2:=(rI g.o i);i<g.o.length->((Tt/\q1 z2.y)/\q1 z2.x0)/\q1 z2.x1)/\q1 ((0:Int))) ?_;simp only[cln];exact⟨⟨rfl,hg.1.g.v,hg.1.w⟩,rfl,hg⟩
def cl8:FSpec:=aa9 20 (γ:=DiG) (λ| [s,.int _ w]=>some ⟨⟨aj1 s,rgD s⟩,w.toNat⟩|_=>none) (λh=>[rgS h.g,.int .i64 h.w]) DiOk (λh=>okP (al4 (h.o)))
theorem cq7:aa5 Tw.prog cl8:=by
 refine ssW (specs:=[bI5]) (⟨bX6,trivial⟩) Tw.func20 (λg=>A0) ?_;rintro g hg;refine ac7 (B:=let A:=Aq;let z0:=(IntKind.i64=IntKind.i64);let q0:=λp:Int=>A z0/\A (p=p);Tt/\Tt/\Tt/\Tt/\(((A (g.g.n=g.g.n)/\∀i:Nat,i<g.g.n->((Tt/\q0 ((g.g.f i).y))/\q0 ((g.g.f i).x0))/\q0 ((g.g.f i).x1))/\(A z0/\A ((↑g.w:Int)=(↑(↑g.w:Int).toNat:Int)))/\(A ((43:Nat)=(43:Go.FuncId))/\Tt)/\Tt)/\A (DiOk g))/\Tt/\Tt/\Tt/\Tt/\Tt/\(Tt/\A (g.o.length=g.o.length)/\∀i:Nat,let z1:=(rI g.o i);i<g.o.length->((Tt/\q0 z1.y)/\q0 z1.x0)/\q0 z1.x1)/\q0 ((0:Int))) ?_;simp only[cln];exact⟨rfl,hg⟩
end Dil
namespace Pul
open Go.RowKit Sx Num Aff Con Rga Rgl Rgm Rgn Rgb Rgc Rgd Rgo Gat Gar Ows Apl Apt Som Cel Dil
theorem bO3:∀(L:List Rn)(r:Rn),vld (r::L)->(∀s∈r::L,(-50<=s.y/\s.y<=50)/\ -50<=s.x0/\s.x0<=50)->2*((r::L).length:Int)<=5202-(r.y*103+r.x0)
 | [],r,h,hb=>by
  have:=hb r (lP ..)
  show 2*(1:Int)<=_;omega
 |s::L,r,h,hb=>by
  have ih:=bO3 L s (ae2.1 h).2.2 (λt ht=>hb t (lS _ ht));have hl:=(ae2.1 h).2.1 s (lP ..);have h1:=hb r (lP ..);have h2:=hb s (lS _ (lP ..));have ok:=(ae2.1 h).1.2;have e:((r::s::L).length:Int)=((s::L).length:Int)+1:=by simp
  rw[e];unfold ltR at hl;omega
theorem ct8{L:List Rn}(h:Bx 50 L):L.length<=5210:=by
 cases L with
 |nil=>exact lB _
 |cons r L=>
  have:=bO3 L r h.v (λs hs=>by have:=h.run hs;omega)
  have:=h.run (lP (a:=r) (l:=L))
  omega
theorem ct9{B:Int}{L:List Rn}(h:Bx B L)(hB:B<=50){w:Nat}(hw:w<=64):DiOk ⟨Ls L,w⟩:=by
 refine⟨h.ok (by omega) hw,?_⟩;have h1:=ct8 (h.mono hB);show L.length*(2*w+1)<=1000000;exact lU (ue h1 (show 2*w+1<=129 by omega)) (by decide)
theorem ct2{L M:List Rn}(hL:vld L)(hM:vld M)(h:∀y x,mem L y x=true<->mem M y x=true):L=M:=uniq _ _ hL hM (λy x=>by rw[uo];exact h y x)
def pg(w h:Nat):ReG:=⟨0,0,16*w,16*h⟩
def at8(w h:Nat):List Rn:=Lf (pg w h).f (pg w h).n
theorem aM1(g:ReG)(y x:Int):mem (Lf g.f g.n) y x=decide ((g.y0<=y/\y<g.y1)/\g.x0<=x/\x<g.x1):=by
 rw[uo,mem_iff,lE];constructor
 ·rintro⟨r,hr,h1,h2,h3⟩;obtain⟨k,hk,rfl⟩:=lX.1 hr;have hk:=lG.1 hk;have hk:k<(g.y1-g.y0).toNat:=hk;have h1:g.y0+k=y:=h1;have h2:g.x0<=x:=h2;have h3:x<g.x1:=h3;omega
 ·rintro⟨⟨h1,h2⟩,h3,h4⟩;refine⟨g.f (y-g.y0).toNat,lX.2 ⟨_,lG.2 (show(y-g.y0).toNat<(g.y1-g.y0).toNat by omega),rfl⟩,show g.y0+((y-g.y0).toNat:Int)=y by omega,h3,h4⟩
theorem aM0{g:ReG}(h:g.ok)(h2:g.y1<=8192):vld (Lf g.f g.n):=by
 obtain⟨⟨a1,a2⟩,⟨b1,b2⟩,⟨c1,c2⟩,⟨d1,d2⟩,hx,hy⟩:=h;have go:∀m,m<=g.n->vld (Lf g.f m):=by
  intro m;induction m with
  |zero=>intro _;exact am3
  |succ m ih=>
   intro hm;have hm:m+1<=(g.y1-g.y0).toNat:=hm;rw[av5,av7];refine⟨ih (by show m<=(g.y1-g.y0).toNat;omega),⟨⟨⟨by show -8192<=g.y0+m;omega,by show g.y0+(m:Int)<8192;omega⟩,⟨a1,a2⟩,c1,c2⟩,hx⟩,λs hs=>?_⟩;obtain⟨k,hk,rfl⟩:=lX.1 hs;have hk:=lG.1 hk;exact .inl (by show g.y0+(k:Int)<g.y0+m;omega)
 exact go _ (lh _)
def inPg(w h:Nat)(y x:Int):Bool:=decide ((0<=y/\y<16*h)/\0<=x/\x<16*w)
theorem bX0{w h:Nat}(hw:1<=w/\w<=256)(hh:1<=h/\h<=256):(pg w h).ok:=by
 refine⟨?_,?_,?_,?_,?_,?_⟩<;>simp only[pg]<;>omega
theorem bK4(w h:Nat)(y x:Int):mem (at8 w h) y x=inPg w h y x:=aM1 _ _ _
theorem ap6{w h:Nat}(hw:1<=w/\w<=256)(hh:1<=h/\h<=256):vld (at8 w h):=aM0 (bX0 hw hh) (by show(16*(h:Int))<=8192;omega)
theorem al0(b:Vec->Bool)(P:Pcs):vld (smR b P):=aP6 _
theorem aF3{b:Vec->Bool}{P:Pcs}(h:SmOk b P)(y x:Int):mem (smR b P) y x=mem (sel b P P.n) y x:=by
 have e:Rg.L ⟨(sel b P P.n).length,rI (sel b P P.n)⟩=sel b P P.n:=Rg.L_of _;have:=b70 (g:=⟨(sel b P P.n).length,rI (sel b P P.n)⟩) (cc2 h).1 y x
 rw[e]at this;exact this
structure OnG where
 g:ChG
 key:Nat
 ink:Nat
structure OnG.Ok(o:OnG):Prop where
 c:o.g.Ok
 key:o.key<8
 ink:o.ink<8
def cd4(g:ChG)(key:Nat):SV:= .agg 4 (lst [.int .i64 g.w,.int .i64 g.h,pcS g.P,.int .i64 key])
def bs0:FSpec:=aa9 19 (γ:=OnG) (λ| [.int _ w,.int _ h,s,.int _ k,.int _ i]=>some ⟨⟨w.toNat,h.toNat,pcD s⟩,k.toNat,i.toNat⟩|_=>none)
 (λo=>[.int .i64 o.g.w,.int .i64 o.g.h,pcS o.g.P,.int .i64 o.key,.int .i64 o.ink]) OnG.Ok (λo=>okP (cd4 o.g o.key))
theorem bm9:aa5 Tw.prog bs0:=by
 refine ssW (specs:=[aB6]) (⟨aC3,trivial⟩) Tw.func19 (λg=>A0) ?_;rintro o ho;refine ac7 (B:=let A:=Aq;let z8:=(0:Int);let z7:=(↑o.g.h:Int);let z6:=(↑o.g.w:Int);let z3:=(↑o.key:Int);let z1:=(IntKind.u8=IntKind.u8);let q1:=λp:Int=>A z1/\A (p=p);let z0:=(IntKind.i64=IntKind.i64);let q0:=λp:Int=>A z0/\A (p=p);let z2:=(Tt/\(((Tt/\A z0/\A (z8=z6))/\A z0/\A (z8=z7))/\A (o.g.P.n=(0:Nat)))/\A z0/\A (z8=z3));Tt/\Tt/\Tt/\Tt/\Tt/\(((A z0/\A (z6=(↑z6.toNat:Int)))/\(A z0/\A (z7=(↑z7.toNat:Int)))/\(A (o.g.P.n=o.g.P.n)/\∀i:Nat,i<o.g.P.n->(chp (Tt/\A (o.g.P.m i=o.g.P.m i)/\∀i_1:Nat,let z4:=(o.g.P.p i i_1);i_1<o.g.P.m i->((Tt/\q0 z4.y)/\q0 z4.x0)/\q0 z4.x1) (λj:Nat=>q1 (o.g.P.ink i j)) 7)/\q1 (o.g.P.ink i (7:Nat)))/\Tt)/\A (ChG.mk z6.toNat z7.toNat o.g.P).Ok)/\Tt/\Tt/\Tt/\Tt/\Tt/\Tt/\Tt/\Tt/\Br (decide ((if(↑o.ink:Int)<z3 then(↑o.ink:Int)else z3)<z8)) (Tt/\Tt/\Tt/\Tt/\(Tt/\Tt)/\z2/\A z0/\A ((3:Int)=z8)) (Tt/\Tt/\Tt/\Tt/\Tt/\Br (decide ((8:Int)<=if(↑o.ink:Int)>z3 then(↑o.ink:Int)else z3)) (Tt/\Tt/\Tt/\(Tt/\Tt)/\z2/\A z0/\A ((3:Int)=z8)) (Tt/\Tt/\Tt/\Tt/\Tt/\Tt/\Tt/\(Tt/\Tt)/\(Tt/\(((Tt/\q0 z6)/\q0 z7)/\A (o.g.P.n=o.g.P.n)/\∀i:Nat,i<o.g.P.n->(chp (Tt/\A (o.g.P.m i=o.g.P.m i)/\∀i_1:Nat,let z5:=(o.g.P.p i i_1);i_1<o.g.P.m i->((Tt/\q0 z5.y)/\q0 z5.x0)/\q0 z5.x1) (λj:Nat=>q1 (o.g.P.ink i j)) 7)/\q1 (o.g.P.ink i (7:Nat)))/\q0 z3)/\q0 z8))) ?_;simp only[chp];simp only[cln,ly,lO];have h1:=ho.key;have h2:=ho.ink;exact⟨ho.c,λh=>by omega,λ_ h=>by omega⟩
def ah7(g:ChG):List Rn:=un mn (at8 g.w g.h) (smR (λ_=>true) g.P)
structure PaG where
 g:ChG
 key:Nat
def bl4:FSpec:=aa9 21 (γ:=PaG) (λ| [.agg _ c]=>some ⟨⟨(Sx.intOf (c 0)).toNat,(Sx.intOf (c 1)).toNat,pcD (c 2)⟩,(Sx.intOf (c 3)).toNat⟩|_=>none) (λa=>[cd4 a.g a.key]) (λa=>a.g.Ok) (λa=>al4 (ah7 a.g))
theorem bu3:aa5 Tw.prog bl4:=by
 refine ssW (specs:=[bc9,aO5,bl6]) (⟨a36,aX2,bu6,trivial⟩) Tw.func21 (λg=>A0) ?_;rintro a ha;refine ac7 (B:=let A:=Aq;let z9:=(16:Int);let z7:=(↑a.g.h:Int);let z6:=(↑a.g.w:Int);let z5:=(IntKind.u8=IntKind.u8);let q5:=λp:Int=>A z5/\A (p=p);let z4:=(ReG.mk (0:Int) (0:Int) (z9*z6) (z9*z7));let z2:=(IntKind.i64=IntKind.i64);let q2:=λp:Int=>A z2/\A (p=p);let z12:=(q2 ((0:Int)));let z1:=(smR (λ(x:Gar.Vec)=>true) a.g.P);let z0:=(Lf z4.f z4.n);let z3:=(al9 mn (CbG.mk (Rg.mk z0.length (rI z0)) (Rg.mk z1.length (rI z1))));Tt/\Tt/\Tt/\Tt/\A ((-9223372036854775808:Int)<=z9*z6/\z9*z6<=(9223372036854775807:Int))/\Tt/\Tt/\A ((-9223372036854775808:Int)<=z9*z7/\z9*z7<=(9223372036854775807:Int))/\((z12/\z12/\(q2 (z9*z6))/\(q2 (z9*z7))/\Tt)/\A z4.ok)/\Tt/\Tt/\Tt/\Tt/\Tt/\Tt/\Tt/\Tt/\Tt/\Tt/\Tt/\(((A z2/\A (z6=(↑z6.toNat:Int)))/\(A z2/\A (z7=(↑z7.toNat:Int)))/\(A (a.g.P.n=a.g.P.n)/\∀i:Nat,i<a.g.P.n->(chp (Tt/\A (a.g.P.m i=a.g.P.m i)/\∀i_1:Nat,let z8:=(a.g.P.p i i_1);i_1<a.g.P.m i->((Tt/\q2 z8.y)/\q2 z8.x0)/\q2 z8.x1) (λj:Nat=>q5 (a.g.P.ink i j)) 7)/\q5 (a.g.P.ink i (7:Nat)))/\Tt)/\A (ChG.mk z6.toNat z7.toNat a.g.P).Ok)/\Tt/\Tt/\Tt/\Tt/\Tt/\Tt/\Tt/\(((A (z0.length=z0.length)/\∀i:Nat,let z10:=(rI z0 i);i<z0.length->((Tt/\q2 z10.y)/\q2 z10.x0)/\q2 z10.x1)/\(A (z1.length=z1.length)/\∀i:Nat,let z11:=(rI z1 i);i<z1.length->((Tt/\q2 z11.y)/\q2 z11.x0)/\q2 z11.x1)/\Tt)/\A (vld (Rg.mk z0.length (rI z0)).L/\vld (Rg.mk z1.length (rI z1)).L))/\Tt/\Tt/\Tt/\Tt/\Tt/\Tt/\Tt/\Tt/\A (z3.length=(ah7 a.g).length)/\∀i:Nat,let z13:=(rI (ah7 a.g) i);i<(ah7 a.g).length->((Tt/\A z2/\A ((rI z3 i).y=z13.y))/\A z2/\A ((rI z3 i).x0=z13.x0))/\A z2/\A ((rI z3 i).x1=z13.x1)) ?_;simp only[chp];simp only[cln,ly,lO];have hw:=ha.w;have hh:=ha.h;exact⟨by omega,by omega,bX0 hw hh,ha,⟨by have:=ap6 hw hh;rwa[<-Rg.L_of (at8 a.g.w a.g.h)]at this,by have:=al0 (λ_=>true) a.g.P;rwa[<-Rg.L_of (smR (λ_=>true) a.g.P)]at this⟩,ar5 rfl⟩
structure MvF where
 a:PaG
 n:Nat
 f:Nat->Rn
 dx:Int
 dy:Int
def mvL(g:MvF):List Rn:=un and (ShG.L ⟨⟨g.n,g.f⟩,g.dx,g.dy⟩) (at8 g.a.g.w g.a.g.h)
structure MvF.Ok(g:MvF):Prop where
 c:g.a.g.Ok
 s:ShG.ok ⟨⟨g.n,g.f⟩,g.dx,g.dy⟩
def bl5:FSpec:=aa9 24 (γ:=MvF) (λ| [.agg _ c,s,.agg _ d]=>some ⟨⟨⟨(Sx.intOf (c 0)).toNat,(Sx.intOf (c 1)).toNat,pcD (c 2)⟩,(Sx.intOf (c 3)).toNat⟩,aj1 s,rgD s,Sx.intOf (d 0),Sx.intOf (d 1)⟩|_=>none)
 (λg=>[cd4 g.a.g g.a.key,rgS ⟨g.n,g.f⟩,.agg 2 (lst [.int .i64 g.dx,.int .i64 g.dy])]) MvF.Ok (λg=>al4 (mvL g))
theorem bu4:aa5 Tw.prog bl5:=by
 refine ssW (specs:=[bl3,bc9,ar4]) (⟨bu2,a36,au3,trivial⟩) Tw.func24 (λg=>A0) ?_;rintro g hg;refine ac7 (B:=let T8:=λp:Prop=>Tt/\Tt/\Tt/\Tt/\Tt/\Tt/\Tt/\Tt/\p;let A:=Aq;let z8:=(↑g.a.g.h:Int);let z7:=(↑g.a.g.w:Int);let z6:=(16:Int);let z4:=(ReG.mk (0:Int) (0:Int) (z6*z7) (z6*z8));let z2:=(IntKind.i64=IntKind.i64);let q2:=λp:Int=>A z2/\A (p=p);let z10:=(q2 ((0:Int)));let z1:=(ShG.mk (Rg.mk g.n g.f) g.dx g.dy);let z11:=(Rg.mk z1.L.length (rI z1.L));let z0:=(Lf z4.f z4.n);let z3:=(al9 Bool.and (CbG.mk z11 (Rg.mk z0.length (rI z0))));T8 ((((A (g.n=g.n)/\∀i:Nat,i<g.n->((Tt/\q2 ((g.f i).y))/\q2 ((g.f i).x0))/\q2 ((g.f i).x1))/\(q2 g.dx)/\(q2 g.dy)/\Tt)/\A z1.ok)/\Tt/\Tt/\Tt/\Tt/\Tt/\Tt/\A ((-9223372036854775808:Int)<=z6*z7/\z6*z7<=(9223372036854775807:Int))/\Tt/\Tt/\A ((-9223372036854775808:Int)<=z6*z8/\z6*z8<=(9223372036854775807:Int))/\((z10/\z10/\(q2 (z6*z7))/\(q2 (z6*z8))/\Tt)/\A z4.ok)/\Tt/\Tt/\Tt/\Tt/\Tt/\Tt/\Tt/\(((A (z1.L.length=z1.L.length)/\∀i:Nat,let z5:=(rI z1.L i);i<z1.L.length->((Tt/\q2 z5.y)/\q2 z5.x0)/\q2 z5.x1)/\(A (z0.length=z0.length)/\∀i:Nat,let z9:=(rI z0 i);i<z0.length->((Tt/\q2 z9.y)/\q2 z9.x0)/\q2 z9.x1)/\Tt)/\A (vld z11.L/\vld (Rg.mk z0.length (rI z0)).L))/\T8 (A (z3.length=(mvL g).length)/\∀i:Nat,i<(mvL g).length->((Tt/\A z2/\A ((rI z3 i).y=(rI (mvL g) i).y))/\A z2/\A ((rI z3 i).x0=(rI (mvL g) i).x0))/\A z2/\A ((rI z3 i).x1=(rI (mvL g) i).x1)))) ?_;simp only[cln,ly,lO];have hw:=hg.c.w;have hh:=hg.c.h;have hv:vld (ShG.L ⟨⟨g.n,g.f⟩,g.dx,g.dy⟩):=by
  rw[ShG.L_eq];refine bJ5 hg.s.v (λr hr=>?_);obtain⟨i,hi,rfl⟩:=lX.1 hr;exact hg.s.r i (lG.1 hi)
 exact⟨hg.s,by omega,by omega,bX0 hw hh,⟨by rwa[<-Rg.L_of (ShG.L ⟨⟨g.n,g.f⟩,g.dx,g.dy⟩)]at hv,by have:=ap6 hw hh;rwa[<-Rg.L_of (at8 g.a.g.w g.a.g.h)]at this⟩,ar5 rfl⟩
def ay7:FSpec:=aa9 23 (γ:=Int×Int) (λ| [.agg _ d]=>some (Sx.intOf (d 0),Sx.intOf (d 1))|_=>none) (λg=>[.agg 2 (lst [.int .i64 g.1,.int .i64 g.2])]) (λg=>(-64<=g.1/\g.1<=64)/\ -64<=g.2/\g.2<=64) (λ_=> .bool true)
theorem aJ1:aa5 Tw.prog ay7:=by
 refine ssW (specs:=[]) trivial Tw.func23 (λg=>A0) ?_;rintro⟨x,y⟩ hg;refine ac7 (B:=Tt/\Tt/\Tt/\Tt/\Tt/\Tt/\Tt/\Tt/\Tt/\Br (decide ((if y>x then y else x)<=(64:Int))) (Tt/\Tt/\Tt/\Tt/\Tt/\Tt/\Tt/\Tt/\Tt/\Aq (decide ((-64:Int)<=if y<x then y else x)=true)) (Tt/\Tt/\Tt/\Aq (false=true))) ?_;simp only[cln,ly,lO];have hg:(-64<=x/\x<=64)/\ -64<=y/\y<=64:=hg;exact⟨λ_=>by omega,λh=>absurd (by omega) h⟩
def key1(v:Vec):Vec:=λj=>bif decide (v 0=255)then(if j=0 then 255 else 0)else v j
structure PuG where
 c:ChG
 r:Nat
def xa(r:Rn):Int:=if r.x0>0 then r.x0 else 0
def xb(w:Nat)(r:Rn):Int:=if 16*(w:Int)<r.x1 then 16*(w:Int)else r.x1
def inside(h:Nat)(r:Rn):Bool:=decide (0<=r.y)&&decide (r.y<16*h)
def pul1(w h:Nat)(c:Nat->Vec)(r:Rn)(x:Int)(i:Nat):Vec:=bif inside h r&&decide ((rwAt w r:Int)+xa r<=i/\(i:Int)<rwAt w r+x)then key1 (c i)else c i
def pulR(w h:Nat)(c:Nat->Vec)(f:Nat->Rn):Nat->Nat->Vec
 |0=>c
 |k+1=>pul1 w h (pulR w h c f k) (f k) (xb w (f k))
def PuG.near(g:PuG):List Rn:=DiG.o ⟨Ls (ah7 g.c),g.r⟩
def PuG.out(g:PuG):Nat->Vec:=pulR g.c.w g.c.h (ceB ⟨g.c.w,g.c.h,g.c.P⟩) (rI g.near) g.near.length
structure PuG.Ok(g:PuG):Prop where
 c:g.c.Ok
 w:g.c.w<=2
 h:g.c.h<=2
 r:g.r<=8
def PuG.cel(g:PuG)(k:Nat):Nat->Vec:=pulR g.c.w g.c.h (ceB ⟨g.c.w,g.c.h,g.c.P⟩) (rI g.near) k
def pu1(g:PuG):Inv:=⟨Nat,λk=>k<=g.near.length,λk=>⟨[(0,.int .i64 g.c.w),(1,.int .i64 g.c.h),(3,.int .i64 0),(15,.osl 1 0),(46,al4 g.near),(47,.int .i64 g.near.length),(48,.int .i64 k)],[.dead,ceO ⟨g.c.w,g.c.h,g.c.P⟩ (g.cel k)]⟩,λk=>g.near.length-k⟩
def pu2(g:PuG)(k:Nat):Inv:=⟨Nat,λx=>(k<g.near.length/\inside g.c.h (rI g.near k)=true)/\xa (rI g.near k)<=x/\((x:Int)<=xb g.c.w (rI g.near k)\/(x:Int)=xa (rI g.near k)),
 λx=>⟨[(0,.int .i64 g.c.w),(1,.int .i64 g.c.h),(3,.int .i64 0),(15,.osl 1 0),(46,al4 g.near),(47,.int .i64 g.near.length),(48,.int .i64 k),(17,.own 2 0),(18,.int .i64 x)],
 [.dead,ceO ⟨g.c.w,g.c.h,g.c.P⟩ (pul1 g.c.w g.c.h (g.cel k) (rI g.near k) x),.cells 3 (lst (rnL (rI g.near k))) 58]⟩,λx=>(xb g.c.w (rI g.near k)-x).toNat⟩
def b35:FSpec:=aa9 7 (γ:=PuG) (λ| [.int _ w,.int _ h,s,_,.int _ r]=>some ⟨⟨w.toNat,h.toNat,pcD s⟩,r.toNat⟩|_=>none) (λg=>[.int .i64 g.c.w,.int .i64 g.c.h,pcS g.c.P,.int .i64 0,.int .i64 g.r])
 PuG.Ok (λg=>pcA (ofA ⟨g.c.w,g.c.h,256*g.c.w*g.c.h,g.out⟩))
theorem be1{w h:Nat}{c:Nat->Vec}{r:Rn}{x:Nat}(hi:inside h r=true)(hx:xa r<=x)(i:Nat):pul1 w h c r ((x+1:Nat):Int) i=bif decide (i=rwAt w r+x)then key1 (c i)else pul1 w h c r x i:=by
 unfold pul1;rw[hi];simp only[lap];by_cases h:i=rwAt w r+x
 ·rw[lg h,lg (by omega)];rfl
 ·rw[lf h];rw[show decide ((rwAt w r:Int)+xa r<=i/\(i:Int)<rwAt w r+((x+1:Nat):Int))=decide ((rwAt w r:Int)+xa r<=i/\(i:Int)<rwAt w r+(x:Int))from xP.2 (by omega)];rfl
theorem bm5{w h:Nat}{c:Nat->Vec}{r:Rn}{x:Nat}:pul1 w h c r x (rwAt w r+x)=c (rwAt w r+x):=by
 unfold pul1;rw[lf (by omega),lak];rfl
theorem bW6{w h:Nat}{c:Nat->Vec}{r:Rn}{x:Int}(hi:inside h r=false):pul1 w h c r x=c:=by
 funext i;unfold pul1;rw[hi];rfl
theorem bW7{w h:Nat}{c:Nat->Vec}{r:Rn}{x y:Int}(hh:x=y\/(x<=xa r/\y<=xa r)):pul1 w h c r x=pul1 w h c r y:=by
 rcases hh with rfl|⟨h1,h2⟩
 ·rfl
 ·funext i;unfold pul1;rw[lf (by omega),lf (by omega)]
theorem as0{v:Vec}(h:¬ v 0=255):key1 v=v:=by
 funext j;unfold key1;rw[lf h];rfl
theorem bb1(r:Rn):0<=xa r:=by unfold xa;split<;>omega
theorem ci6{g:ChG}(h:g.Ok):(⟨g.w,g.h,g.P⟩:CeG).Ok where
 w:=h.w
 h:=h.h
 n:=h.P.n
 m k hk:=by
  have hl:=ao3 (h.P.v k hk);have e:(Pcs.L g.P k).length=g.P.m k:=aq7 _ _;rw[e]at hl;show g.P.m k<=_;omega
 r k r hk hr:=by
  have h1:=h.r k r hk hr;have h2:=((h.P.v k hk).1 _ (ax7 hr)).2;exact⟨h1.1,⟨h1.2.1,h2⟩,h1.2.2⟩
theorem aP5(g:ChG):vld (ah7 g):=ao7 _ _ _
theorem be5{g:ChG}(hg:g.Ok)(y x:Int):mem (ah7 g) y x=(inPg g.w g.h y x&&!mem (sel (λ_=>true) g.P g.P.n) y x):=by
 unfold ah7;rw[aH9 rfl (ap6 hg.w hg.h) (al0 _ _),bK4,aF3 (bd0 hg.P _)];rfl
theorem bt7{g:ChG}(hg:g.Ok)(hw:g.w<=2)(hh:g.h<=2):Bx 50 (ah7 g):=⟨aP5 g,λy x hm=>by
 rw[be5 hg,lr]at hm;have:=hm.1
 unfold inPg at this;rw[lE]at this;omega⟩
theorem cd9:aa5 Tw.prog b35:=by
 refine ssW (specs:=[bs0,bl4,cl8,bl8,giv spOf]) (⟨bm9,bu3,cq7,bu7,aC8 ce6,trivial⟩) Tw.func7 (λg=>(⟨[(9,.nest (pu1 g) (λk=>[(13,.inv (pu2 g k))]))],[]⟩:Ann)) ?_;rintro g hg;refine ac7 (B:=let T3:=λp:Prop=>Tt/\Tt/\Tt/\p;let T4:=λp:Prop=>Tt/\Tt/\Tt/\Tt/\p;let J:=Int.toNat;let K:=Br;let A:=Aq;let z53:=(1:Int);let z48:=(255:Int);let z41:=(↑g.near.length:Int);let z38:=(16:Int);let z33:=(7:Nat);let z32:=(6:Nat);let z31:=(5:Nat);let z30:=(4:Nat);let z29:=(3:Nat);let z28:=(2:Nat);let z27:=(256:Nat);let z58:=(z27*g.c.w*g.c.h);let z25:=(9223372036854775807:Int);let z24:=(-9223372036854775808:Int);let z19:=(1:Nat);let z15:=(z27*g.c.w*g.c.h=z27*g.c.w*g.c.h);let z13:=(0:Nat);let z11:=(↑g.c.h:Int);let z57:=(↑z11.toNat:Int);let z10:=(↑g.c.w:Int);let z56:=(↑z10.toNat:Int);let z43:=(ChG.mk z56.toNat z57.toNat g.c.P);let z18:=(CeG.mk z10.toNat z11.toNat g.c.P);let z9:=(0:Int);let z45:=(↑(J z9):Int);let z6:=(ofA (OfG.mk g.c.w g.c.h z58 g.out));let z36:=(Gar.Gt.P z6);let z2:=(ah7 z43);let z16:=(DiG.mk (Rg.mk z2.length (rI z2)) (↑g.r:Int).toNat);let z1:=(IntKind.u8=IntKind.u8);let q1:=λp:Int=>A z1/\A (p=p);let z0:=(IntKind.i64=IntKind.i64);let q0:=λp:Int=>A z0/\A (p=p);let z40:=(A z0/\A (z11=z57));let z39:=(A z0/\A (z10=z56));let z26:=(q0 z9);let z23:=(q0 z11);let z22:=(q0 z10);let z14:=(q0 z41);let z8:=(A (g.c.P.n=g.c.P.n)/\∀i:Nat,i<g.c.P.n->(chp (Tt/\A (g.c.P.m i=g.c.P.m i)/\∀i_1:Nat,let z51:=(g.c.P.p i i_1);i_1<g.c.P.m i->((Tt/\q0 z51.y)/\q0 z51.x0)/\q0 z51.x1) (λj:Nat=>q1 (g.c.P.ink i j)) 7)/\q1 (g.c.P.ink i z33));let z4:=(A (g.near.length=g.near.length)/\∀i:Nat,let z42:=(rI g.near i);i<g.near.length->((Tt/\q0 z42.y)/\q0 z42.x0)/\q0 z42.x1);T4 (T3 (((z39/\z40/\z8/\(A z0/\A (z9=z45))/\(A z0/\A (z9=z45))/\Tt)/\A (OnG.mk (ChG.mk z10.toNat z11.toNat g.c.P) (J z9) (J z9)).Ok)/\T4 (T4 (Tt/\((((((Tt/\A z0/\A (z56=(↑z56.toNat:Int)))/\A z0/\A (z57=(↑z57.toNat:Int)))/\A (g.c.P.n=g.c.P.n)/\∀i:Nat,i<g.c.P.n->(chp (Tt/\A (g.c.P.m i=g.c.P.m i)/\∀i_1:Nat,let z52:=(g.c.P.p i i_1);i_1<g.c.P.m i->((Tt/\q0 z52.y)/\q0 z52.x0)/\q0 z52.x1) (λj:Nat=>q1 (g.c.P.ink i j)) 7)/\q1 (g.c.P.ink i z33))/\A z0/\A (z45=(↑z45.toNat:Int)))/\Tt)/\A z43.Ok)/\Tt/\(((A (z2.length=z2.length)/\∀i:Nat,let z55:=(rI z2 i);i<z2.length->((Tt/\q0 z55.y)/\q0 z55.x0)/\q0 z55.x1)/\(A z0/\A ((↑g.r:Int)=(↑(↑g.r:Int).toNat:Int)))/\Tt)/\A (DiOk z16))/\T4 (T4 (Tt/\Tt/\((z39/\z40/\z8/\Tt)/\A z18.Ok)/\T4 ((∃g_1:Nat,A ((pu1 g).pre g_1)/\(z22/\z23/\z26/\Tt/\(A (z16.o.length=g.near.length)/\∀i:Nat,i<g.near.length->((Tt/\A z0/\A ((rI z16.o i).y=(rI g.near i).y))/\A z0/\A ((rI z16.o i).x0=(rI g.near i).x0))/\A z0/\A ((rI z16.o i).x1=(rI g.near i).x1))/\(A z0/\A ((↑z16.o.length:Int)=z41))/\(A z0/\A (z9=(↑g_1:Int)))/\Tt)/\Tt/\(A (z27*z10.toNat*z11.toNat=z27*g.c.w*g.c.h)/\∀i:Nat,i<z27*g.c.w*g.c.h->(((((((Tt/\A z1/\A (ceB z18 i z13=g.cel g_1 i z13))/\A z1/\A (ceB z18 i z19=g.cel g_1 i z19))/\A z1/\A (ceB z18 i z28=g.cel g_1 i z28))/\A z1/\A (ceB z18 i z29=g.cel g_1 i z29))/\A z1/\A (ceB z18 i z30=g.cel g_1 i z30))/\A z1/\A (ceB z18 i z31=g.cel g_1 i z31))/\A z1/\A (ceB z18 i z32=g.cel g_1 i z32))/\A z1/\A (ceB z18 i z33=g.cel g_1 i z33))/\Tt)/\∀g_1:Nat,let z54:=(pu2 g g_1);let z35:=(↑g_1:Int);let z46:=(q0 z35);let z21:=(rI g.near z35.toNat);let z20:=(z24<=z35+z53/\z35+z53<=z25);let z12:=(g.cel g_1);let z5:=(rI g.near g_1);let z34:=(((Tt/\q0 z5.y)/\q0 z5.x0)/\q0 z5.x1);let z3:=(ofA (OfG.mk z10.toNat z11.toNat z58 z12));let z37:=(Gar.Gt.P z3);(pu1 g).pre g_1->Tt/\K (decide (z35<z41)) (A (z9<=z35/\z35<z41)/\T4 (T3 (K (decide (z21.y<z9)) (Tt/\A z20/\Tt/\∃(g':Nat),A ((pu1 g).pre g')/\((z22/\z23/\z26/\Tt/\z4/\z14/\(A z0/\A (z35+z53=(↑g':Int)))/\Tt)/\Tt/\(A z15/\∀i:Nat,i<z27*g.c.w*g.c.h->(((((((Tt/\A z1/\A (g.cel g_1 i z13=g.cel g' i z13))/\A z1/\A (g.cel g_1 i z19=g.cel g' i z19))/\A z1/\A (g.cel g_1 i z28=g.cel g' i z28))/\A z1/\A (g.cel g_1 i z29=g.cel g' i z29))/\A z1/\A (g.cel g_1 i z30=g.cel g' i z30))/\A z1/\A (g.cel g_1 i z31=g.cel g' i z31))/\A z1/\A (g.cel g_1 i z32=g.cel g' i z32))/\A z1/\A (g.cel g_1 i z33=g.cel g' i z33))/\Tt)/\A ((pu1 g).meas g'<(pu1 g).meas g_1)) (T3 (A (z24<=z38*z11/\z38*z11<=z25)/\Tt/\Tt/\K (decide (z38*z11<=z21.y)) (A z20/\Tt/\∃(g':Nat),A ((pu1 g).pre g')/\((z22/\z23/\z26/\Tt/\z4/\z14/\(A z0/\A (z35+z53=(↑g':Int)))/\Tt)/\Tt/\(A z15/\∀i:Nat,i<z27*g.c.w*g.c.h->(((((((Tt/\A z1/\A (g.cel g_1 i z13=g.cel g' i z13))/\A z1/\A (g.cel g_1 i z19=g.cel g' i z19))/\A z1/\A (g.cel g_1 i z28=g.cel g' i z28))/\A z1/\A (g.cel g_1 i z29=g.cel g' i z29))/\A z1/\A (g.cel g_1 i z30=g.cel g' i z30))/\A z1/\A (g.cel g_1 i z31=g.cel g' i z31))/\A z1/\A (g.cel g_1 i z32=g.cel g' i z32))/\A z1/\A (g.cel g_1 i z33=g.cel g' i z33))/\Tt)/\A ((pu1 g).meas g'<(pu1 g).meas g_1)) (T4 ((∃g_2:Nat,let z44:=(↑g_2:Int);A (z54.pre g_2)/\(z22/\z23/\z26/\Tt/\z4/\z14/\z46/\A (z13=z13)/\(A z0/\A ((if z21.x0>z9 then z21.x0 else z9)=z44))/\Tt)/\Tt/\(A z15/\∀i:Nat,i<z27*g.c.w*g.c.h->(((((((Tt/\A z1/\A (g.cel g_1 i z13=pul1 g.c.w g.c.h z12 z5 z44 i z13))/\A z1/\A (g.cel g_1 i z19=pul1 g.c.w g.c.h z12 z5 z44 i z19))/\A z1/\A (g.cel g_1 i z28=pul1 g.c.w g.c.h z12 z5 z44 i z28))/\A z1/\A (g.cel g_1 i z29=pul1 g.c.w g.c.h z12 z5 z44 i z29))/\A z1/\A (g.cel g_1 i z30=pul1 g.c.w g.c.h z12 z5 z44 i z30))/\A z1/\A (g.cel g_1 i z31=pul1 g.c.w g.c.h z12 z5 z44 i z31))/\A z1/\A (g.cel g_1 i z32=pul1 g.c.w g.c.h z12 z5 z44 i z32))/\A z1/\A (g.cel g_1 i z33=pul1 g.c.w g.c.h z12 z5 z44 i z33))/\(((Tt/\A z0/\A (z21.y=z5.y))/\A z0/\A (z21.x0=z5.x0))/\A z0/\A (z21.x1=z5.x1))/\Tt)/\∀g_2:Nat,let z17:=(↑g_2:Int);let z7:=(z5.y*z38*z10+z17);let z47:=(z7.toNat<z27*g.c.w*g.c.h);z54.pre g_2->T4 (A (z24<=z38*z10/\z38*z10<=z25)/\Tt/\Tt/\K (decide (z17<if z38*z10<z5.x1 then z38*z10 else z5.x1)) (T3 (A (z24<=z5.y*z38/\z5.y*z38<=z25)/\Tt/\A (z24<=z5.y*z38*z10/\z5.y*z38*z10<=z25)/\Tt/\A (z24<=z5.y*z38*z10+z17/\z5.y*z38*z10+z17<=z25)/\A (z9<=z5.y*z38*z10+z17/\z5.y*z38*z10+z17<(↑z58:Int))/\T4 (A (z9<=z9/\z9<(↑(8:Nat):Int))/\A z47/\Tt/\K (decide (pul1 g.c.w g.c.h z12 z5 z17 z7.toNat (z13+J z9*z19)=z48)) (T3 (A z47/\T3 (A (z9<=z9/\z9<(↑(8:Nat):Int))/\A z47/\Tt/\A (z24<=z17+z53/\z17+z53<=z25)/\Tt/\∃(g':Nat),let z49:=(↑g':Int);A (z54.pre g')/\((z22/\z23/\z26/\Tt/\z4/\z14/\z46/\A (z13=z13)/\(A z0/\A (z17+z53=z49))/\Tt)/\Tt/\(A z15/\∀i:Nat,i<z27*g.c.w*g.c.h->(((((((Tt/\A z1/\A ((bif decide (i=z7.toNat/\z13+J z9*z19<=z13/\z13<z13+J z9*z19+z19)then z48 else bif decide (i=z7.toNat/\z13<=z13/\z13<z13+(8:Nat))then z9 else pul1 g.c.w g.c.h z12 z5 z17 i z13)=pul1 g.c.w g.c.h z12 z5 z49 i z13))/\A z1/\A ((bif decide (i=z7.toNat/\z13+J z9*z19<=z19/\z19<z13+J z9*z19+z19)then z48 else bif decide (i=z7.toNat/\z13<=z19/\z19<z13+(8:Nat))then z9 else pul1 g.c.w g.c.h z12 z5 z17 i z19)=pul1 g.c.w g.c.h z12 z5 z49 i z19))/\A z1/\A ((bif decide (i=z7.toNat/\z13+J z9*z19<=z28/\z28<z13+J z9*z19+z19)then z48 else bif decide (i=z7.toNat/\z13<=z28/\z28<z13+(8:Nat))then z9 else pul1 g.c.w g.c.h z12 z5 z17 i z28)=pul1 g.c.w g.c.h z12 z5 z49 i z28))/\A z1/\A ((bif decide (i=z7.toNat/\z13+J z9*z19<=z29/\z29<z13+J z9*z19+z19)then z48 else bif decide (i=z7.toNat/\z13<=z29/\z29<z13+(8:Nat))then z9 else pul1 g.c.w g.c.h z12 z5 z17 i z29)=pul1 g.c.w g.c.h z12 z5 z49 i z29))/\A z1/\A ((bif decide (i=z7.toNat/\z13+J z9*z19<=z30/\z30<z13+J z9*z19+z19)then z48 else bif decide (i=z7.toNat/\z13<=z30/\z30<z13+(8:Nat))then z9 else pul1 g.c.w g.c.h z12 z5 z17 i z30)=pul1 g.c.w g.c.h z12 z5 z49 i z30))/\A z1/\A ((bif decide (i=z7.toNat/\z13+J z9*z19<=z31/\z31<z13+J z9*z19+z19)then z48 else bif decide (i=z7.toNat/\z13<=z31/\z31<z13+(8:Nat))then z9 else pul1 g.c.w g.c.h z12 z5 z17 i z31)=pul1 g.c.w g.c.h z12 z5 z49 i z31))/\A z1/\A ((bif decide (i=z7.toNat/\z13+J z9*z19<=z32/\z32<z13+J z9*z19+z19)then z48 else bif decide (i=z7.toNat/\z13<=z32/\z32<z13+(8:Nat))then z9 else pul1 g.c.w g.c.h z12 z5 z17 i z32)=pul1 g.c.w g.c.h z12 z5 z49 i z32))/\A z1/\A ((bif decide (i=z7.toNat/\z13+J z9*z19<=z33/\z33<z13+J z9*z19+z19)then z48 else bif decide (i=z7.toNat/\z13<=z33/\z33<z13+(8:Nat))then z9 else pul1 g.c.w g.c.h z12 z5 z17 i z33)=pul1 g.c.w g.c.h z12 z5 z49 i z33))/\z34/\Tt)/\A (z54.meas g'<z54.meas g_2)))) (Tt/\A (z24<=z17+z53/\z17+z53<=z25)/\Tt/\∃(g':Nat),let z50:=(↑g':Int);A (z54.pre g')/\((z22/\z23/\z26/\Tt/\z4/\z14/\z46/\A (z13=z13)/\(A z0/\A (z17+z53=z50))/\Tt)/\Tt/\(A z15/\∀i:Nat,i<z27*g.c.w*g.c.h->(((((((Tt/\A z1/\A (pul1 g.c.w g.c.h z12 z5 z17 i z13=pul1 g.c.w g.c.h z12 z5 z50 i z13))/\A z1/\A (pul1 g.c.w g.c.h z12 z5 z17 i z19=pul1 g.c.w g.c.h z12 z5 z50 i z19))/\A z1/\A (pul1 g.c.w g.c.h z12 z5 z17 i z28=pul1 g.c.w g.c.h z12 z5 z50 i z28))/\A z1/\A (pul1 g.c.w g.c.h z12 z5 z17 i z29=pul1 g.c.w g.c.h z12 z5 z50 i z29))/\A z1/\A (pul1 g.c.w g.c.h z12 z5 z17 i z30=pul1 g.c.w g.c.h z12 z5 z50 i z30))/\A z1/\A (pul1 g.c.w g.c.h z12 z5 z17 i z31=pul1 g.c.w g.c.h z12 z5 z50 i z31))/\A z1/\A (pul1 g.c.w g.c.h z12 z5 z17 i z32=pul1 g.c.w g.c.h z12 z5 z50 i z32))/\A z1/\A (pul1 g.c.w g.c.h z12 z5 z17 i z33=pul1 g.c.w g.c.h z12 z5 z50 i z33))/\z34/\Tt)/\A (z54.meas g'<z54.meas g_2))))) (A z20/\Tt/\∃(g':Nat),A ((pu1 g).pre g')/\((z22/\z23/\z26/\Tt/\z4/\z14/\(A z0/\A (z35+z53=(↑g':Int)))/\Tt)/\Tt/\(A z15/\∀i:Nat,i<z27*g.c.w*g.c.h->(((((((Tt/\A z1/\A (pul1 g.c.w g.c.h z12 z5 z17 i z13=g.cel g' i z13))/\A z1/\A (pul1 g.c.w g.c.h z12 z5 z17 i z19=g.cel g' i z19))/\A z1/\A (pul1 g.c.w g.c.h z12 z5 z17 i z28=g.cel g' i z28))/\A z1/\A (pul1 g.c.w g.c.h z12 z5 z17 i z29=g.cel g' i z29))/\A z1/\A (pul1 g.c.w g.c.h z12 z5 z17 i z30=g.cel g' i z30))/\A z1/\A (pul1 g.c.w g.c.h z12 z5 z17 i z31=g.cel g' i z31))/\A z1/\A (pul1 g.c.w g.c.h z12 z5 z17 i z32=g.cel g' i z32))/\A z1/\A (pul1 g.c.w g.c.h z12 z5 z17 i z33=g.cel g' i z33))/\Tt)/\A ((pu1 g).meas g'<(pu1 g).meas g_1)))))))))) (T3 (((z39/\z40/\(A z15/\∀i:Nat,i<z27*g.c.w*g.c.h->(chp True (λj:Nat=>q1 (g.cel g_1 i j)) 7)/\q1 (g.cel g_1 i z33))/\Tt)/\A ((z19<=z10.toNat/\z10.toNat<=z27)/\(z19<=z11.toNat/\z11.toNat<=z27)/\z27*g.c.w*g.c.h=z27*z10.toNat*z11.toNat))/\T4 (Tt/\(Tt/\A ((bif z3.full then z13 else z3.n)=bif z6.full then z13 else z6.n)/\∀i:Nat,(i<bif z6.full then z13 else z6.n)->((((((((Tt/\A (z37.m i=z36.m i)/\∀i_1:Nat,i_1<z36.m i->((Tt/\A z0/\A ((z37.p i i_1).y=(z36.p i i_1).y))/\A z0/\A ((z37.p i i_1).x0=(z36.p i i_1).x0))/\A z0/\A ((z37.p i i_1).x1=(z36.p i i_1).x1))/\A z1/\A (z37.ink i z13=z36.ink i z13))/\A z1/\A (z37.ink i z19=z36.ink i z19))/\A z1/\A (z37.ink i z28=z36.ink i z28))/\A z1/\A (z37.ink i z29=z36.ink i z29))/\A z1/\A (z37.ink i z30=z36.ink i z30))/\A z1/\A (z37.ink i z31=z36.ink i z31))/\A z1/\A (z37.ink i z32=z36.ink i z32))/\A z1/\A (z37.ink i z33=z36.ink i z33))/\A z0/\A ((bif z3.full then(2:Int)else z9)=bif z6.full then(2:Int)else z9)))))))))))) ?_;simp only[chp];simp only[cln,ly,lO];have hw:=hg.c.w;have hh:=hg.c.h;have hw2:=hg.w;have hh2:=hg.h;have hdi:=ct9 (bt7 hg.c hw2 hh2) (by decide) (w:=g.r) (by have:=hg.r;omega);have nearb:g.near.length<=300000000:=ao3 (DiG.o_vld _);have e3:256*g.c.w*g.c.h<=256*2*2:=ue (uS _ hw2) hh2;have hout:∀k,g.cel (k+1)=pul1 g.c.w g.c.h (g.cel k) (rI g.near k) (xb g.c.w (rI g.near k)):=λk=>rfl
 have skip:∀k:Nat,(k:Int)<g.near.length->inside g.c.h (rI g.near k)=false->∃g':Nat,(pu1 g).pre g'/\((k:Int)+1=(g':Int)/\∀i<256*g.c.w*g.c.h,((((((g.cel k i 0=g.cel g' i 0/\g.cel k i 1=g.cel g' i 1)/\g.cel k i 2=g.cel g' i 2)/\g.cel k i 3=g.cel g' i 3)/\g.cel k i 4=g.cel g' i 4)/\g.cel k i 5=g.cel g' i 5)/\g.cel k i 6=g.cel g' i 6)/\g.cel k i 7=g.cel g' i 7)/\(pu1 g).meas g'<(pu1 g).meas k:=λk hk hin=>
  ⟨k+1,by show k+1<=g.near.length;omega,⟨by simp,λi _=>eight (λj _=>by rw[hout,bW6 hin])⟩,by show g.near.length-(k+1)<g.near.length-k;omega⟩
 have hgc:(⟨g.c.w,g.c.h,g.c.P⟩:ChG).Ok:=hg.c;have hce:(⟨g.c.w,g.c.h,g.c.P⟩:CeG).Ok:=ci6 hg.c;refine⟨⟨⟨rfl,rfl⟩,hgc,by show 0<8;decide,by show 0<8;decide⟩,hgc,hdi,hce,⟨0,lB _,⟨ar5 rfl,rfl,rfl⟩,λi _=>eight (λ_ _=>rfl)⟩,λk hk=>⟨λhlt=>⟨by omega,λhy=>⟨by omega,skip k hlt ?_⟩,λhy=>⟨by omega,λhy2=>⟨by omega,skip k hlt ?_⟩,λhy2=>?_⟩⟩,λhge=>?_⟩⟩
 ·unfold inside;rw[lf (by omega)];rfl
 ·unfold inside;rw[lf (show¬ (rI g.near k).y<16*(g.c.h:Int)by omega),lak]
 ·have hin:inside g.c.h (rI g.near k)=true:=by
   unfold inside;rw[lg (by omega),lg (by omega)];rfl
  have hkn:k<g.near.length:=by omega
  generalize hR:rI g.near k=R at hy hy2 hin;have hxa:=bb1 R;have ey:((R.y.toNat:Nat):Int)=R.y:=Int.toNat_of_nonneg (by omega);have c2:R.y*16*g.c.w=((rwAt g.c.w R:Nat):Int):=by
   unfold rwAt;rw[<-ey];simp[Int.mul_assoc]
  have h1:(R.y.toNat+1)*(16*g.c.w)<=256*g.c.w*g.c.h:=by
   refine lU (lk _ (show R.y.toNat+1<=16*g.c.h by omega)) (Nat.le_of_eq ?_);grind
  have h2:rwAt g.c.w R+16*g.c.w<=256*g.c.w*g.c.h:=by
   unfold rwAt;rw[lL,uD]at h1;exact h1
  have exa:(if R.x0>0 then R.x0 else 0)=xa R:=rfl;have exb:(if 16*(g.c.w:Int)<R.x1 then 16*(g.c.w:Int)else R.x1)=xb g.c.w R:=rfl;have hxb:xb g.c.w R<=16*g.c.w:=by unfold xb;split<;>omega
  rw[exa,exb,c2];have hpre:∀x:Nat,xa R<=x->((x:Int)<=xb g.c.w R\/(x:Int)=xa R)->(pu2 g k).pre x:=λx a b=>⟨⟨hkn,by rw[hR];exact hin⟩,by rw[hR];exact a,by rw[hR];exact b⟩
  refine⟨⟨(xa R).toNat,hpre _ (by omega) (.inr (by omega)),by omega,λi _=>eight (λj _=>?_)⟩,λx hx=>⟨by omega,λhlt2=>?_,λhge2=>⟨by omega,k+1,hkn,⟨by omega,λi _=>eight (λj _=>?_)⟩,by show g.near.length-(k+1)<g.near.length-k;omega⟩⟩⟩
  ·have:pul1 g.c.w g.c.h (g.cel k) R ((xa R).toNat:Int) i=g.cel k i:=by
    unfold pul1;rw[lf (by omega),lak];rfl
   rw[this]
  ·obtain⟨_,hx1,hx2⟩:=hx;rw[hR]at hx1 hx2;have ei:(((rwAt g.c.w R:Nat):Int)+x).toNat=rwAt g.c.w R+x:=by omega
   have hm:((pu2 g k).meas (x+1:Nat):Nat)<(pu2 g k).meas x:=by
    show(xb g.c.w (rI g.near k)-((x+1:Nat):Int)).toNat<(xb g.c.w (rI g.near k)-(x:Int)).toNat;rw[hR];omega
   rw[ei];refine⟨by omega,by omega,by omega,by omega,by decide,by omega,λhc=>⟨by omega,by decide,by omega,by omega,x+1,hpre _ (by omega) (.inl (by omega)),⟨by omega,λi _=>?_⟩,hm⟩,λhc=>⟨by omega,x+1,hpre _ (by omega) (.inl (by omega)),⟨by omega,λi _=>eight (λj _=>?_)⟩,hm⟩⟩
   ·refine eight (a:=λj=>bif decide (i=rwAt g.c.w R+x/\Int.toNat 0<=j/\j<Int.toNat 0+1)then 255 else bif decide (i=rwAt g.c.w R+x/\0<=j/\j<8)then 0 else pul1 g.c.w g.c.h (g.cel k) R x i j) (b:=pul1 g.c.w g.c.h (g.cel k) R ((x+1:Nat):Int) i) (λj hj=>?_);rw[be1 hin hx1];by_cases hi:i=rwAt g.c.w R+x
    ·rw[lg hi,lg (show i=rwAt g.c.w R+x/\0<=j/\j<8 from⟨hi,lB _,hj⟩)];rw[bm5]at hc;have hc:g.cel k (rwAt g.c.w R+x) 0=255:=hc;show _=key1 (g.cel k i) j;unfold key1;rw[hi,lg hc];simp only[ur];by_cases hj0:j=0
     ·subst hj0;rfl
     ·rw[lu hj0];simp[hj0]
    ·rw[lf hi,lf (λh=>hi h.1),lf (λh=>hi h.1)];rfl
   ·rw[be1 hin hx1];by_cases hi:i=rwAt g.c.w R+x
    ·rw[lg hi];rw[bm5]at hc;show _=key1 (g.cel k i) j;rw[hi,bm5,as0 hc]
    ·rw[lf hi];rfl
  ·obtain⟨_,hx1,hx2⟩:=hx;rw[hR]at hx1 hx2;rw[hout,hR,bW7 (x:=(x:Int)) (y:=xb g.c.w R) (by omega)]
 ·have hk2:k<=g.near.length:=hk;have e:g.cel k=g.out:=by
   show g.cel k=g.cel g.near.length;rw[show g.near.length=k by omega]
  rw[e];refine⟨⟨hw,hh⟩,⟨rfl,λi _=>?_⟩,rfl⟩;repeat' (first|rfl|trivial|apply And.intro|intro _)
structure FrG where
 c:ChG
 ink:Nat
 dx:Int
 dy:Int
structure FrG.Ok(g:FrG):Prop where
 c:g.c.Ok
 ink:1<=g.ink/\g.ink<8
 w:g.c.w<=2
 h:g.c.h<=2
 v:∀k<g.c.P.n,∀j,0<=g.c.P.ink k j/\g.c.P.ink k j<=255
 x : -64<=g.dx/\g.dx<=64
 y : -64<=g.dy/\g.dy<=64
def FrG.under(g:FrG):List Rn:=un and (smR (has ⟨0,255⟩) g.c.P) (smR (has ⟨g.ink,1⟩) g.c.P)
def FrG.out(g:FrG):List Rn:=un and (ah7 g.c) (un and (shL g.dx g.dy g.under) (at8 g.c.w g.c.h))
def bs2:FSpec:=aa9 15 (γ:=FrG) (λ| [.int _ w,.int _ h,s,_,.int _ i,.agg _ d]=>some ⟨⟨w.toNat,h.toNat,pcD s⟩,i.toNat,Sx.intOf (d 0),Sx.intOf (d 1)⟩|_=>none)
 (λg=>[.int .i64 g.c.w,.int .i64 g.c.h,pcS g.c.P,.int .i64 0,.int .i64 g.ink,.agg 2 (lst [.int .i64 g.dx,.int .i64 g.dy])]) FrG.Ok (λg=>okP (al4 g.out))
theorem b42{g:ChG}(hg:g.Ok){b:Vec->Bool}{y x:Int}(h:mem (sel b g.P g.P.n) y x=true):inPg g.w g.h y x=true:=by
 obtain⟨r,hr,h1,h2,h3⟩:=(mem_iff _ _ _).1 h;obtain⟨k,i,hk,_,hi,rfl⟩:=aF4.1 hr;have:=hg.r k i hk hi
 unfold inPg;rw[lE];omega
theorem cr6(a:PaG)(L:List Rn)(dx dy:Int):mvL ⟨a,L.length,rI L,dx,dy⟩=un and (shL dx dy L) (at8 a.g.w a.g.h):=by
 unfold mvL;rw[ShG.L_eq,Rg.L_of]
theorem bF5{g:FrG}(hg:g.Ok)(y x:Int):mem g.under y x=(mem (sel (has ⟨0,255⟩) g.c.P g.c.P.n) y x&&mem (sel (has ⟨g.ink,1⟩) g.c.P g.c.P.n) y x):=by
 unfold FrG.under;rw[aH9 rfl (al0 _ _) (al0 _ _),aF3 (bd0 hg.c.P _),aF3 (bd0 hg.c.P _)]
theorem br2{g:FrG}(hg:g.Ok):Bx 50 g.under:=⟨ao7 _ _ _,λy x hm=>by
 rw[bF5 hg,lr]at hm;have:=b42 hg.c hm.1
 unfold inPg at this;rw[lE]at this;have h1:=hg.w;have h2:=hg.h;omega⟩
theorem vldR{L:List Rn}(h:vld L):vld (Rg.L ⟨L.length,rI L⟩):=by rw[Rg.L_of];exact h
theorem aL8{L:List Rn}(h:Bx 50 L){dx dy:Int}(hx : -64<=dx/\dx<=64)(hy : -64<=dy/\dy<=64):ShG.ok ⟨⟨L.length,rI L⟩,dx,dy⟩:=by
 refine⟨vldR h.v,by show -16384<=dx/\dx<=16384;omega,by show -16384<=dy/\dy<=16384;omega,λi hi=>?_⟩;have hi:i<L.length:=hi;have hm:rI L i∈L:=by
  unfold rI;rw[la,lw hi];exact xv hi
 have hr:=h.run hm;exact⟨⟨⟨by show -8192<=(rI L i).y+dy;omega,by show(rI L i).y+dy<8192;omega⟩,⟨by show -8192<=(rI L i).x0+dx;omega,by show(rI L i).x0+dx<=8192;omega⟩,by show -8192<=(rI L i).x1+dx;omega,by show(rI L i).x1+dx<=8192;omega⟩,by show(rI L i).x0+dx<(rI L i).x1+dx;omega⟩
theorem bM0:aa5 Tw.prog bs2:=by
 refine ssW (specs:=[bs0,ay7,bW0,bl4,bl5,ar4]) (⟨bm9,aJ1,bL9,bu3,bu4,au3,trivial⟩) Tw.func15 (λg=>A0) ?_;rintro g hg;refine ac7 (B:=let T9:=λp:Prop=>Tt/\Tt/\Tt/\Tt/\Tt/\Tt/\Tt/\Tt/\Tt/\p;let A:=Aq;let z29:=(↑g.c.h:Int);let z28:=(↑g.c.w:Int);let z17:=(↑g.ink:Int);let z15:=(↑z28.toNat:Int);let z14:=(↑z29.toNat:Int);let z10:=(Int.toNat (0:Int));let z9:=(IntKind.u8=IntKind.u8);let q9:=λp:Int=>A z9/\A (p=p);let z7:=(smR (Som.has (InG.mk z17.toNat (1:Int))) g.c.P);let z6:=(smR (Som.has (InG.mk z10 (255:Int))) g.c.P);let z5:=(IntKind.i64=IntKind.i64);let q5:=λp:Int=>A z5/\A (p=p);let z27:=(A z5/\A (z17=(↑z17.toNat:Int)));let z26:=(A z5/\A ((0:Int)=(↑z10:Int)));let z16:=((Tt/\q5 g.dx)/\q5 g.dy);let z12:=(A z5/\A (z29=z14));let z11:=(A z5/\A (z28=z15));let z4:=((((Tt/\A z5/\A (z15=(↑z15.toNat:Int)))/\A z5/\A (z14=(↑z14.toNat:Int)))/\A (g.c.P.n=g.c.P.n)/\∀i:Nat,i<g.c.P.n->(chp (Tt/\A (g.c.P.m i=g.c.P.m i)/\∀i_1:Nat,let z19:=(g.c.P.p i i_1);i_1<g.c.P.m i->((Tt/\q5 z19.y)/\q5 z19.x0)/\q5 z19.x1) (λj:Nat=>q9 (g.c.P.ink i j)) 7)/\q9 (g.c.P.ink i (7:Nat)))/\A z5/\A ((↑z10:Int)=(↑(↑z10:Int).toNat:Int)));let z2:=(A (g.c.P.n=g.c.P.n)/\∀i:Nat,i<g.c.P.n->(chp (Tt/\A (g.c.P.m i=g.c.P.m i)/\∀i_1:Nat,let z20:=(g.c.P.p i i_1);i_1<g.c.P.m i->((Tt/\q5 z20.y)/\q5 z20.x0)/\q5 z20.x1) (λj:Nat=>q9 (g.c.P.ink i j)) 7)/\q9 (g.c.P.ink i (7:Nat)));let z1:=(ChG.mk z15.toNat z14.toNat g.c.P);let z21:=(ah7 z1);let z0:=(al9 Bool.and (CbG.mk (Rg.mk z6.length (rI z6)) (Rg.mk z7.length (rI z7))));let z18:=(MvF.mk (PaG.mk z1 (↑z10:Int).toNat) z0.length (rI z0) g.dx g.dy);let z3:=(mvL z18);let z8:=(al9 Bool.and (CbG.mk (Rg.mk z21.length (rI z21)) (Rg.mk z3.length (rI z3))));Tt/\Tt/\Tt/\Tt/\Tt/\Tt/\Tt/\Tt/\((z11/\z12/\z2/\z26/\z27/\Tt)/\A (OnG.mk (ChG.mk z28.toNat z29.toNat g.c.P) z10 z17.toNat).Ok)/\T9 (((z16/\Tt)/\A (((-64:Int)<=g.dx/\g.dx<=(64:Int))/\(-64:Int)<=g.dy/\g.dy<=(64:Int)))/\Tt/\Tt/\Tt/\Tt/\Br (decide (z17=(0:Int))) (Tt/\Tt/\Tt/\(Tt/\A (g.out.length=(0:Nat)))/\q5 ((0:Int))) (Tt/\Tt/\Tt/\Tt/\((z11/\z12/\z2/\z26/\(q5 ((255:Int)))/\Tt)/\A (IkG.mk z28.toNat z29.toNat g.c.P (InG.mk z10 (255:Int))).Ok)/\T9 (((z11/\z12/\z2/\z27/\(q5 ((1:Int)))/\Tt)/\A (IkG.mk z28.toNat z29.toNat g.c.P (InG.mk z17.toNat (1:Int))).Ok)/\Tt/\Tt/\Tt/\Tt/\Tt/\Tt/\Tt/\(((A (z6.length=z6.length)/\∀i:Nat,let z22:=(rI z6 i);i<z6.length->((Tt/\q5 z22.y)/\q5 z22.x0)/\q5 z22.x1)/\(A (z7.length=z7.length)/\∀i:Nat,let z23:=(rI z7 i);i<z7.length->((Tt/\q5 z23.y)/\q5 z23.x0)/\q5 z23.x1)/\Tt)/\A (vld (Rg.mk z6.length (rI z6)).L/\vld (Rg.mk z7.length (rI z7)).L))/\Tt/\Tt/\Tt/\Tt/\Tt/\Tt/\((z4/\Tt)/\A z1.Ok)/\Tt/\Tt/\Tt/\((z4/\(A (z0.length=z0.length)/\∀i:Nat,let z24:=(rI z0 i);i<z0.length->((Tt/\q5 z24.y)/\q5 z24.x0)/\q5 z24.x1)/\z16/\Tt)/\A z18.Ok)/\(((A (z21.length=z21.length)/\∀i:Nat,let z13:=(rI z21 i);i<z21.length->((Tt/\q5 z13.y)/\q5 z13.x0)/\q5 z13.x1)/\(A (z3.length=z3.length)/\∀i:Nat,let z25:=(rI z3 i);i<z3.length->((Tt/\q5 z25.y)/\q5 z25.x0)/\q5 z25.x1)/\Tt)/\A (vld (Rg.mk z21.length (rI z21)).L/\vld (Rg.mk z3.length (rI z3)).L))/\T9 ((Tt/\A (z8.length=g.out.length)/\∀i:Nat,i<g.out.length->((Tt/\A z5/\A ((rI z8 i).y=(rI g.out i).y))/\A z5/\A ((rI z8 i).x0=(rI g.out i).x0))/\A z5/\A ((rI z8 i).x1=(rI g.out i).x1))/\q5 ((0:Int))))))) ?_;simp only[chp];simp only[cln,ly,lO];have hgc:(⟨g.c.w,g.c.h,g.c.P⟩:ChG).Ok:=hg.c;have hi:=hg.ink;have hv:=hg.v;have hsh:=aL8 (br2 hg) hg.x hg.y;have hmv:=cr6 ⟨⟨g.c.w,g.c.h,g.c.P⟩,Int.toNat 0⟩ g.under g.dx g.dy;refine⟨⟨rfl,hgc,by show 0<8;decide,hi.2⟩,⟨hg.x,hg.y⟩,λh=>absurd h (by omega),λ_=>⟨⟨rfl,hgc,by show 0<8;decide,by show 1<=(255:Int)/\(255:Int)<=255;decide,λk hk=>hv k hk 0⟩,⟨hgc,hi.2,by show 1<=(1:Int)/\(1:Int)<=255;decide,λk hk=>hv k hk g.ink⟩,⟨vldR (al0 _ _),vldR (al0 _ _)⟩,hgc,⟨hgc,hsh⟩,⟨vldR (aP5 _),vldR (ao7 _ _ _)⟩,?_⟩⟩;refine ar5 ?_;show un and (ah7 g.c) (mvL ⟨⟨⟨g.c.w,g.c.h,g.c.P⟩,Int.toNat 0⟩,g.under.length,rI g.under,g.dx,g.dy⟩)=g.out;rw[hmv];rfl
end Pul
namespace Pkl
open Go.RowKit Sx Num Aff Con Rga Rgl Rgm Rgn Rgb Rgc Rgd Rgo Gat Gar Ows Apl Apt Som Cel Dil Pul Ofl
theorem a63{W y R x a b:Nat}(hx:x<W)(hb:b<=W):(R*W+a<=y*W+x/\y*W+x<R*W+b)<->(R=y/\a<=x/\x<b):=by
 constructor
 ·rintro⟨h1,h2⟩;rcases xL R y with h|h|h
  ·have:=lk W h
   rw[uq]at this;omega
  ·subst h;omega
  ·have:=lk W h
   rw[uq]at this;omega
 ·rintro⟨rfl,h1,h2⟩;omega
def ixp(w:Nat)(y x:Int):Nat:=y.toNat*(16*w)+x.toNat
theorem bm4{w:Nat}{c:Nat->Vec}{r:Rn}{v:Vec}{y x:Int}(hy:0<=y)(hx:0<=x/\x<16*w)(hr:0<=r.y/\0<=r.x0/\r.x1<=16*w):putR w c r v (ixp w y x)=if inR r y x=true then v else c (ixp w y x):=by
 unfold putR put rwAt ixp;have h:=a63 (W:=16*w) (y:=y.toNat) (R:=r.y.toNat) (x:=x.toNat) (a:=r.x0.toNat) (b:=r.x1.toNat) (by omega) (by omega);by_cases hin:inR r y x=true
 ·rw[ll hin,lg (h.2 (by rw[af7]at hin;omega))];rfl
 ·rw[lu hin,lf (λhc=>hin (by rw[af7];have:=h.1 hc;omega))];rfl
theorem bi8{g:ChG}(hg:g.Ok){c:Nat->Vec}{k:Nat}(hk:k<g.P.n){y x:Int}(hy:0<=y)(hx:0<=x/\x<16*g.w):∀j,j<=g.P.m k->ceR ⟨g.w,g.h,g.P⟩ c k j (ixp g.w y x)=if mem (Lf (g.P.p k) j) y x=true then g.P.ink k else c (ixp g.w y x)
 |0,_=>rfl
 |j+1,hj=>by
  have hr:=hg.r k j hk hj;show putR g.w (ceR ⟨g.w,g.h,g.P⟩ c k j) (g.P.p k j) (g.P.ink k) (ixp g.w y x)=_;rw[bm4 hy hx ⟨hr.1.1,hr.2.1,hr.2.2⟩,bi8 hg hk hy hx j (by omega),av5,az4,ar8];cases hm:mem (Lf (g.P.p k) j) y x<;>cases hi:inR (g.P.p k j) y x<;>rfl
theorem bi9{g:ChG}(hg:g.Ok){y x:Int}(hy:0<=y)(hx:0<=x/\x<16*g.w):∀n,n<=g.P.n->(∀k<n,mem (Pcs.L g.P k) y x=true->ceP ⟨g.w,g.h,g.P⟩ n (ixp g.w y x)=g.P.ink k)/\((∀k<n,¬ mem (Pcs.L g.P k) y x=true)->ceP ⟨g.w,g.h,g.P⟩ n (ixp g.w y x)=λ_=>0)
 |0,_=>⟨λk hk=>absurd hk (ln _),λ_=>rfl⟩
 |n+1,hn=>by
  obtain⟨h1,h2⟩:=bi9 hg hy hx n (by omega);have e:ceP ⟨g.w,g.h,g.P⟩ (n+1) (ixp g.w y x)=if mem (Pcs.L g.P n) y x=true then g.P.ink n else ceP ⟨g.w,g.h,g.P⟩ n (ixp g.w y x):=bi8 hg (by omega) hy hx (g.P.m n) (lh _)
  rw[e];refine⟨λk hk hm=>?_,λhno=>?_⟩
  ·by_cases hkn:k=n
   ·subst hkn;rw[ll hm]
   ·rw[lu (λhc=>hg.P.disj k n (by omega) (by omega) y x hm hc)];exact h1 k (by omega) hm
  ·rw[lu (hno n (by omega))];exact h2 λk hk=>hno k (by omega)
theorem ci7{g:OfG}{P:Pcs}(h:OfOK g P){y x:Int}(hin:(0<=y/\y<16*(g.h:Int))/\0<=x/\x<16*(g.w:Int)):kOf (ceB ⟨g.w,g.h,P⟩ (ixp g.w y x))=kOf (g.f (ixp g.w y x)):=by
 obtain⟨h1,h2⟩:=bi9 h.c hin.1.1 hin.2 P.n (lh _);show kOf (ceP ⟨g.w,g.h,P⟩ P.n (ixp g.w y x))=ck g.f (16*g.w) y x;by_cases hz:ck g.f (16*g.w) y x=nul
 ·rw[h2 λk hk hm=>?_,hz]
  ·rfl
  ·have:=((h.m k hk y x).1 hm).2
   exact h.c.nz k hk (this.symm.trans hz)
 ·obtain⟨k,hk,he⟩:=h.cov y x hin hz;rw[h1 k hk ((h.m k hk y x).2 ⟨hin,he.symm⟩),he]
def bq4(b:Vec->Bool):Prop:=∀u v,kOf u=kOf v->b u=b v
theorem au7{h:InG}(hi:h.ink<8):bq4 (has h):=λu v e=>by
 have:u h.ink=v h.ink:=by
  unfold kOf at e;simp only[List.cons.injEq,laf]at e;obtain⟨e0,e1,e2,e3,e4,e5,e6,e7⟩:=e;obtain⟨i,l⟩:=h;simp only at hi⊢
  match i,hi with
  |0,_=>exact e0
  |1,_=>exact e1
  |2,_=>exact e2
  |3,_=>exact e3
  |4,_=>exact e4
  |5,_=>exact e5
  |6,_=>exact e6
  |7,_=>exact e7
 unfold has;rw[this]
theorem cf2{b:Vec->Bool}{P:Pcs}{y x:Int}:mem (sel b P P.n) y x=true<->∃k,k<P.n/\b (P.ink k)=true/\mem (Pcs.L P k) y x=true:=by
 rw[mem_iff];constructor
 ·rintro⟨r,hr,h1,h2,h3⟩;obtain⟨k,i,hk,hb,hi,rfl⟩:=aF4.1 hr;exact⟨k,hk,hb,(mem_iff _ _ _).2 ⟨_,ax7 hi,h1,h2,h3⟩⟩
 ·rintro⟨k,hk,hb,hm⟩;obtain⟨r,hr,h1,h2,h3⟩:=(mem_iff _ _ _).1 hm;obtain⟨i,hi,rfl⟩:=lX.1 hr;exact⟨_,aF4.2 ⟨k,i,hk,hb,lG.1 hi,rfl⟩,h1,h2,h3⟩
theorem aW8{g:OfG}{P:Pcs}(h:OfOK g P){b:Vec->Bool}(hb:bq4 b){y x:Int}:mem (smR b P) y x=true<->((0<=y/\y<16*(g.h:Int))/\0<=x/\x<16*(g.w:Int))/\kOf (g.f (ixp g.w y x))≠nul/\b (g.f (ixp g.w y x))=true:=by
 rw[aF3 (bd0 h.c.P b),cf2];constructor
 ·rintro⟨k,hk,hbk,hm⟩;obtain⟨h1,h2⟩:=(h.m k hk y x).1 hm;have h2:kOf (g.f (ixp g.w y x))=kOf (P.ink k):=h2;exact⟨h1,by rw[h2];exact h.c.nz k hk,by rw[hb _ _ h2];exact hbk⟩
 ·rintro⟨h1,hz,hbb⟩;obtain⟨k,hk,he⟩:=h.cov y x h1 hz;have he:kOf (P.ink k)=kOf (g.f (ixp g.w y x)):=he;exact⟨k,hk,by rw[hb _ _ he];exact hbb,(h.m k hk y x).2 ⟨h1,he.symm⟩⟩
theorem bT2:bq4 (λ_=>true):=λ_ _ _=>rfl
theorem bO8(v:Vec):key1 (key1 v)=key1 v:=by
 by_cases h:v 0=255
 ·have e:key1 v=λj=>if j=0 then 255 else 0:=by funext j;unfold key1;rw[lg h];rfl
  have h0:key1 v 0=255:=by rw[e];rfl
  rw[e];funext j;unfold key1;rw[lg (show(if(0:Nat)=0 then(255:Int)else 0)=255 from rfl)];rfl
 ·rw[as0 h,as0 h]
theorem bC1{u v:Vec}(h:kOf u=kOf v):kOf (key1 u)=kOf (key1 v):=by
 have h0:u 0=v 0:=by unfold kOf at h;exact(List.cons.inj h).1
 by_cases hc:u 0=255
 ·have e:∀t:Vec,t 0=255->key1 t=λj=>if j=0 then 255 else 0:=λt ht=>by funext j;unfold key1;rw[lg ht];rfl
  rw[e u hc,e v (h0▸hc)]
 ·rw[as0 hc,as0 (h0▸hc)];exact h
theorem bW8{w h:Nat}{c:Nat->Vec}{r:Rn}{y x:Int}(hy:0<=y/\y<16*h)(hx:0<=x/\x<16*w):pul1 w h c r (xb w r) (ixp w y x)=if inR r y x=true then key1 (c (ixp w y x))else c (ixp w y x):=by
 unfold pul1;have hxa:=bb1 r;have hxb:xb w r<=16*w:=by unfold xb;split<;>omega
 have iff:(inside h r&&decide ((rwAt w r:Int)+xa r<=(ixp w y x:Nat)/\((ixp w y x:Nat):Int)<rwAt w r+xb w r))=true<->inR r y x=true:=by
  rw[lr,af7,lE];unfold inside;rw[lr,lE,lE];constructor
  ·rintro⟨⟨a1,a2⟩,b1,b2⟩;have hb0:0<=xb w r:=by
    refine Int.not_lt.1 λhc=>?_
    omega
   have:=(a63 (W:=16*w) (y:=y.toNat) (R:=r.y.toNat) (x:=x.toNat) (a:=(xa r).toNat) (b:=(xb w r).toNat) (by omega) (by omega)).1 (by
    unfold ixp rwAt at b1 b2;omega)
   unfold xa at this hxa;unfold xb at this;split at this<;>split at this<;>omega
  ·rintro⟨rfl,b1,b2⟩;have h2:xa r<=x/\x<xb w r:=by unfold xa xb;split<;>split<;>omega
   refine⟨⟨hy.1,hy.2⟩,?_⟩;unfold ixp rwAt;omega
 by_cases hin:inR r y x=true
 ·rw[ll hin,iff.2 hin];rfl
 ·rw[lu hin,show(inside h r&&decide ((rwAt w r:Int)+xa r<=(ixp w y x:Nat)/\((ixp w y x:Nat):Int)<rwAt w r+xb w r))=false by rw[<-uj,iff];exact hin];rfl
theorem bK8{w h:Nat}{c:Nat->Vec}{f:Nat->Rn}{y x:Int}(hy:0<=y/\y<16*h)(hx:0<=x/\x<16*w):∀n,pulR w h c f n (ixp w y x)=if mem (Lf f n) y x=true then key1 (c (ixp w y x))else c (ixp w y x)
 |0=>rfl
 |n+1=>by
  show pul1 w h (pulR w h c f n) (f n) (xb w (f n)) (ixp w y x)=_;rw[bW8 hy hx,bK8 hy hx n,av5,az4,ar8];cases hm:mem (Lf f n) y x<;>cases hi:inR (f n) y x<;>simp[bO8]
def nigh(g:OfG)(r:Nat)(y x:Int):Prop:=∃a b:Int,(-(r:Int)<=a/\a<=r)/\(-(r:Int)<=b/\b<=r)/\((0<=y+a/\y+a<16*(g.h:Int))/\0<=x+b/\x+b<16*(g.w:Int))/\kOf (g.f (ixp g.w (y+a) (x+b)))=nul
theorem a34{g:OfG}{P:Pcs}(h:OfOK g P){y x:Int}:mem (ah7 ⟨g.w,g.h,P⟩) y x=true<->((0<=y/\y<16*(g.h:Int))/\0<=x/\x<16*(g.w:Int))/\kOf (g.f (ixp g.w y x))=nul:=by
 rw[be5 h.c,lr,uJ,<-uj,<-aF3 (bd0 h.c.P _),aW8 h bT2];unfold inPg;rw[lE];constructor
 ·rintro⟨h1,h2⟩;exact⟨h1,Decidable.byContradiction λhc=>h2 ⟨h1,hc,rfl⟩⟩
 ·rintro⟨h1,h2⟩;exact⟨h1,λhc=>hc.2.1 h2⟩
theorem bN4{g:OfG}{P:Pcs}(h:OfOK g P)(hw:g.w<=2)(hh:g.h<=2){r:Nat}(hr:r<=8){y x:Int}:mem (PuG.near ⟨⟨g.w,g.h,P⟩,r⟩) y x=true<->nigh g r y x:=by
 have hdi:=ct9 (bt7 h.c hw hh) (by decide) (w:=r) (by omega);show mem (DiG.o ⟨Ls (ah7 ⟨g.w,g.h,P⟩),r⟩) y x=true<->_;rw[DiG.o_mem hdi.1];unfold nigh;have e:∀a b:Int,mem (Rg.L (Ls (ah7 ⟨g.w,g.h,P⟩))) (y+a) (x+b)=true<->((0<=y+a/\y+a<16*(g.h:Int))/\0<=x+b/\x+b<16*(g.w:Int))/\kOf (g.f (ixp g.w (y+a) (x+b)))=nul:=λa b=>by rw[Ls_L];exact a34 h
 constructor
 ·rintro⟨a,b,h1,h2,h3⟩;exact⟨a,b,h1,h2,(e a b).1 h3⟩
 ·rintro⟨a,b,h1,h2,h3⟩;exact⟨a,b,h1,h2,(e a b).2 h3⟩
theorem cp0{g:OfG}{P:Pcs}(h:OfOK g P)(hw:g.w<=2)(hh:g.h<=2){r:Nat}(hr:r<=8){y x:Int}(hin:(0<=y/\y<16*(g.h:Int))/\0<=x/\x<16*(g.w:Int)):
  (nigh g r y x->kOf (PuG.out ⟨⟨g.w,g.h,P⟩,r⟩ (ixp g.w y x))=kOf (key1 (g.f (ixp g.w y x))))/\(¬ nigh g r y x->kOf (PuG.out ⟨⟨g.w,g.h,P⟩,r⟩ (ixp g.w y x))=kOf (g.f (ixp g.w y x))):=by
 have hc:=ci7 h hin;have e:PuG.out ⟨⟨g.w,g.h,P⟩,r⟩ (ixp g.w y x)=if mem (PuG.near ⟨⟨g.w,g.h,P⟩,r⟩) y x=true then key1 (ceB ⟨g.w,g.h,P⟩ (ixp g.w y x))else ceB ⟨g.w,g.h,P⟩ (ixp g.w y x):=by
  have:=bK8 (w:=g.w) (h:=g.h) (c:=ceB ⟨g.w,g.h,P⟩) (f:=rI (PuG.near ⟨⟨g.w,g.h,P⟩,r⟩)) hin.1 hin.2 (PuG.near ⟨⟨g.w,g.h,P⟩,r⟩).length
  rw[b22]at this;exact this
 rw[e];refine⟨λhn=>?_,λhn=>?_⟩
 ·rw[ll ((bN4 h hw hh hr).2 hn)];exact bC1 hc
 ·rw[lu (λhm=>hn ((bN4 h hw hh hr).1 hm))];exact hc
end Pkl
namespace Pke
open Cof
open Go.RowKit Sx Num Aff Con Rga Rgl Rgm Rgn Rgb Rgc Rgd Rgo Gat Gar Ows Apl Apt Som Cel Dil Pul Ofl Pkl
def pd(o:OfG)(r:Nat):OfG:=⟨o.w,o.h,256*o.w*o.h,PuG.out ⟨⟨o.w,o.h,Gt.P (ofA o)⟩,r⟩⟩
structure Pg(o:OfG)(r:Nat):Prop where
 w:1<=o.w/\o.w<=2
 h:1<=o.h/\o.h<=2
 r:r<=8
theorem Pg.ok{o:OfG}{r:Nat}(g:Pg o r):OfOK o (Gt.P (ofA o)):=by
 have:=g.w;have:=g.h
 have h1:256*o.w<=512:=by omega
 have:=ue h1 g.h.2
 exact bY5 ⟨by omega,by omega⟩ ⟨by omega,by omega⟩ (by omega)
theorem Pg.pd{o:OfG}{r:Nat}(g:Pg o r):OfOK (pd o r) (Gt.P (ofA (Pke.pd o r))):=by
 have:=g.w;have:=g.h
 have h1:256*o.w<=512:=by omega
 have:=ue h1 g.h.2
 exact bY5 (g:=Pke.pd o r) ⟨by show 1<=o.w;omega,by show o.w<=256;omega⟩ ⟨by show 1<=o.h;omega,by show o.h<=256;omega⟩ (by show 256*o.w*o.h<=4096;omega)
theorem bO9{u v:Vec}(h:kOf u=kOf v):u 0=v 0/\u 1=v 1:=by
 unfold kOf at h;simp only[List.cons.injEq,laf]at h;exact⟨h.1,h.2.1⟩
theorem bZ5(v:Vec):kOf (key1 v)=nul<->kOf v=nul:=by
 by_cases h:v 0=255
 ·have e:key1 v 0=255:=by unfold key1;rw[lg h];rfl
  constructor
  ·intro hn;have:key1 v 0=0:=(List.cons.inj hn).1
   omega
  ·intro hn;have:v 0=0:=(List.cons.inj hn).1
   omega
 ·rw[as0 h]
theorem cs2(v:Vec):key1 v 0=v 0:=by
 by_cases h:v 0=255
 ·unfold key1;rw[lg h,h];rfl
 ·rw[as0 h]
theorem cs1{v:Vec}(h:v 0=255){j:Nat}(hj:1<=j):key1 v j=0:=by
 unfold key1;rw[lg h];show(if j=0 then(255:Int)else 0)=0;rw[lu (by omega)]
theorem cell{o:OfG}{r:Nat}(g:Pg o r){y x:Int}(hin:(0<=y/\y<16*(o.h:Int))/\0<=x/\x<16*(o.w:Int)):
  (kOf ((pd o r).f (ixp o.w y x))=nul<->kOf (o.f (ixp o.w y x))=nul)/\(pd o r).f (ixp o.w y x) 0=o.f (ixp o.w y x) 0/\(nigh o r y x->o.f (ixp o.w y x) 0=255->∀j,1<=j->j<8->(pd o r).f (ixp o.w y x) j=0):=by
 obtain⟨h1,h2⟩:=cp0 g.ok g.w.2 g.h.2 g.r hin;have e:(pd o r).f=PuG.out ⟨⟨o.w,o.h,Gt.P (ofA o)⟩,r⟩:=rfl;rw[<-e]at h1 h2;by_cases hn:nigh o r y x
 ·have:=h1 hn
  have h3:=bO9 this;refine⟨?_,?_,λ_ h j h1 h8=>?_⟩
  ·rw[this,bZ5]
  ·rw[h3.1,cs2]
  ·rw[bn5 this h8,cs1 h h1]
 ·have:=h2 hn
  exact⟨by rw[this],(bO9 this).1,λh=>absurd h hn⟩
theorem bJ6(dx dy:Int)(L:List Rn)(y x:Int):mem (shL dx dy L) y x=mem L (y-dy) (x-dx):=by
 rw[uo,mem_iff,mem_iff];constructor
 ·rintro⟨s,hs,h1,h2,h3⟩;obtain⟨t,ht,rfl⟩:=lX.1 hs;unfold shR at h1 h2 h3;exact⟨t,ht,by simp only at h1;omega,by simp only at h2;omega,by simp only at h3;omega⟩
 ·rintro⟨t,ht,h1,h2,h3⟩;exact⟨shR dx dy t,List.mem_map_of_mem ht,by unfold shR;simp only;omega,by unfold shR;simp only;omega,by unfold shR;simp only;omega⟩
theorem bN1{o:OfG}{r ink:Nat}(g:Pg o r)(hv:∀i,o.f i 0<=255){dx dy:Int}(hx : -(r:Int)<=dx/\dx<=r)(hy : -(r:Int)<=dy/\dy<=r)(hok:FrG.Ok ⟨⟨o.w,o.h,Gt.P (ofA (pd o r))⟩,ink,dx,dy⟩):(FrG.out ⟨⟨o.w,o.h,Gt.P (ofA (pd o r))⟩,ink,dx,dy⟩).length=0:=by
 suffices h:FrG.out ⟨⟨o.w,o.h,Gt.P (ofA (pd o r))⟩,ink,dx,dy⟩=[]by rw[h];rfl
 refine ct2 (ao7 _ _ _) am3 λy x=>⟨λhm=>?_,λhm=>absurd hm (by simp[mem])⟩
 exfalso;have hc:ChG.Ok ⟨o.w,o.h,Gt.P (ofA (pd o r))⟩:=hok.c;have hv1:vld (shL dx dy (FrG.under ⟨⟨o.w,o.h,Gt.P (ofA (pd o r))⟩,ink,dx,dy⟩)):=by
  have h:=aL8 (br2 hok) hok.x hok.y;exact bJ5 (ao7 _ _ _) (λs hs=>by
   obtain⟨i,hi,rfl⟩:=uL.1 hs;have:=h.4 i hi
   have e:rI (FrG.under ⟨⟨o.w,o.h,Gt.P (ofA (pd o r))⟩,ink,dx,dy⟩) i=(FrG.under ⟨⟨o.w,o.h,Gt.P (ofA (pd o r))⟩,ink,dx,dy⟩)[i]:=by
    unfold rI;rw[la,lw hi];rfl
   exact e▸this)
 have hv2:vld (at8 o.w o.h):=ap6 hc.w hc.h;have hm:mem (un and (ah7 ⟨o.w,o.h,Gt.P (ofA (pd o r))⟩) (un and (shL dx dy (FrG.under ⟨⟨o.w,o.h,Gt.P (ofA (pd o r))⟩,ink,dx,dy⟩)) (at8 o.w o.h))) y x=true:=hm;have hpv:vld (ah7 ⟨o.w,o.h,Gt.P (ofA (pd o r))⟩):=ao7 _ _ _;rw[aH9 rfl hpv (ao7 _ _ _),aH9 rfl hv1 hv2,lr,lr,bJ6]at hm;obtain⟨hp,hu,_⟩:=hm;obtain⟨p1,p2⟩:=(a34 g.pd).1 hp;have p1:(0<=y/\y<16*(o.h:Int))/\0<=x/\x<16*(o.w:Int):=p1;have p3:kOf (o.f (ixp o.w y x))=nul:=(cell g p1).1.1 p2;unfold FrG.under at hu;rw[aH9 rfl (al0 _ _) (al0 _ _),lr,aW8 g.pd (au7 (by decide)),aW8 g.pd (au7 hok.ink.2)]at hu;obtain⟨⟨u1,_,u2⟩,⟨_,_,u3⟩⟩:=hu;have u1:(0<=y-dy/\y-dy<16*(o.h:Int))/\0<=x-dx/\x-dx<16*(o.w:Int):=u1;have u2:decide ((255:Int)<=(pd o r).f (ixp o.w (y-dy) (x-dx)) 0)=true:=u2;have u3:decide ((1:Int)<=(pd o r).f (ixp o.w (y-dy) (x-dx)) ink)=true:=u3;rw[lE]at u2 u3;obtain⟨_,c0,c1⟩:=cell g u1;have hn:nigh o r (y-dy) (x-dx):=⟨dy,dx,hy,hx,by rw[show y-dy+dy=y by omega,show x-dx+dx=x by omega];exact p1,by rw[show y-dy+dy=y by omega,show x-dx+dx=x by omega];exact p3⟩
 have:=hv (ixp o.w (y-dy) (x-dx))
 have:=c1 hn (by omega) ink hok.ink.1 hok.ink.2
 omega
def byt(v:Vec):Prop:=∀j,0<=v j/\v j<=255
theorem byt0:byt (λ_=>0):=λ_=>⟨xp 0,by show(0:Int)<=255;decide⟩
theorem ci8{v:Vec}(h:byt v):byt (key1 v):=λj=>by
 unfold key1;cases decide (v 0=255)
 ·exact h j
 ·show 0<=(if j=0 then(255:Int)else 0)/\(if j=0 then(255:Int)else 0)<=255;split<;>decide
theorem bS1{g:CeG}{c:Nat->Vec}{k:Nat}(hk:byt (g.P.ink k))(hc:∀i,byt (c i)):∀j i,byt (ceR g c k j i)
 |0,i=>hc i
 |j+1,i=>by
  show byt (putR g.w (ceR g c k j) (g.P.p k j) (g.P.ink k) i);unfold putR put;cases decide (rwAt g.w (g.P.p k j)+(g.P.p k j).x0.toNat<=i/\i<rwAt g.w (g.P.p k j)+(g.P.p k j).x1.toNat)
  ·exact bS1 hk hc j i
  ·exact hk
theorem bS2{g:CeG}(hP:∀k<g.P.n,byt (g.P.ink k)):∀n,n<=g.P.n->∀i,byt (ceP g n i)
 |0,_,_=>byt0
 |n+1,hn,i=>bS1 (hP n (by omega)) (bS2 hP n (by omega)) _ i
theorem bp9{w h:Nat}{c:Nat->Vec}{f:Nat->Rn}(hc:∀i,byt (c i)):∀n i,byt (pulR w h c f n i)
 |0,i=>hc i
 |n+1,i=>by
  show byt (pul1 w h (pulR w h c f n) (f n) (xb w (f n)) i);unfold pul1;cases (inside h (f n)&&decide ((rwAt w (f n):Int)+xa (f n)<=i/\(i:Int)<rwAt w (f n)+xb w (f n)))
  ·exact bp9 hc n i
  ·exact ci8 (bp9 hc n i)
theorem bS0{g:OfG}{P:Pcs}(h:OfOK g P)(hf:∀i,byt (g.f i)):∀k<P.n,byt (P.ink k):=λk hk=>by
 obtain⟨i,e⟩:=h.from' k hk;rw[e];exact hf i
theorem ct7{o:OfG}{r:Nat}(g:Pg o r)(hf:∀i,byt (o.f i)):∀i,byt ((pd o r).f i):=λi=>bp9 (bS2 (bS0 g.ok hf) _ (lh _)) _ i
theorem bW1{o:OfG}{P:Pcs}(h:OfOK o P)(hw:o.w<=2)(hh:o.h<=2){b:Vec->Bool}(hb:bq4 b):Bx 32 (smR b P):=⟨al0 _ _,λy x hm=>by
 have:=((aW8 h hb).1 hm).1
 omega⟩
theorem ci9{L:List Rn}(h:Bx 32 L){dx dy:Int}(hx : -8<=dx/\dx<=8)(hy : -8<=dy/\dy<=8):vld (shL dx dy L):=bJ5 h.v λr hr=>by
 have:=h.run hr
 unfold okR shR;simp only
 omega
theorem b06{o:OfG}{r ink:Nat}(g:Pg o r)(hv:∀i,o.f i 0<=255)(hi:1<=ink/\ink<8){dx dy:Int}(hx : -(r:Int)<=dx/\dx<=r)(hy : -(r:Int)<=dy/\dy<=r):
  (un and (un and (ah7 ⟨o.w,o.h,Gt.P (ofA o)⟩) (shL dx dy (smR (has ⟨0,255⟩) (Gt.P (ofA o))))) (un and (shL dx dy (smR (has ⟨ink,1⟩) (Gt.P (ofA (pd o r))))) (at8 o.w o.h))).length=0:=by
 have hr:=g.r;have h0:bq4 (has ⟨0,255⟩):=au7 (by decide);have h1:bq4 (has ⟨ink,1⟩):=au7 hi.2;have v1:vld (shL dx dy (smR (has ⟨0,255⟩) (Gt.P (ofA o)))):=ci9 (bW1 g.ok g.w.2 g.h.2 h0) (by omega) (by omega);have v2:vld (shL dx dy (smR (has ⟨ink,1⟩) (Gt.P (ofA (pd o r))))):=ci9 (bW1 g.pd g.w.2 g.h.2 h1) (by omega) (by omega);have v3:vld (at8 o.w o.h):=ap6 g.ok.c.w g.ok.c.h;suffices h:un and (un and (ah7 ⟨o.w,o.h,Gt.P (ofA o)⟩) (shL dx dy (smR (has ⟨0,255⟩) (Gt.P (ofA o))))) (un and (shL dx dy (smR (has ⟨ink,1⟩) (Gt.P (ofA (pd o r))))) (at8 o.w o.h))=[]by rw[h];rfl
 refine ct2 (ao7 _ _ _) am3 λy x=>⟨λhm=>?_,λhm=>absurd hm (by simp[mem])⟩
 exfalso;have hpv:vld (ah7 ⟨o.w,o.h,Gt.P (ofA o)⟩):=ao7 _ _ _;rw[aH9 rfl (ao7 _ _ _) (ao7 _ _ _),aH9 rfl hpv v1,aH9 rfl v2 v3,lr,lr,lr,bJ6,bJ6,aW8 g.ok h0,aW8 g.pd h1]at hm;obtain⟨⟨hp,⟨s1,_,s2⟩⟩,⟨⟨_,_,s3⟩,_⟩⟩:=hm;obtain⟨p1,p2⟩:=(a34 g.ok).1 hp;have s2:decide ((255:Int)<=o.f (ixp o.w (y-dy) (x-dx)) 0)=true:=s2;have s3:decide ((1:Int)<=(pd o r).f (ixp o.w (y-dy) (x-dx)) ink)=true:=s3;rw[lE]at s2 s3;have hn:nigh o r (y-dy) (x-dx):=⟨dy,dx,hy,hx,by rw[show y-dy+dy=y by omega,show x-dx+dx=x by omega];exact p1,by rw[show y-dy+dy=y by omega,show x-dx+dx=x by omega];exact p2⟩
 have:=hv (ixp o.w (y-dy) (x-dx))
 have:=(cell g s1).2.2 hn (by omega) ink hi.1 hi.2
 omega
end Pke
namespace Frc
open Go.RowKit Sx Num Aff Con Rga Rgl Rgm Rgn Rgb Rgc Rgd Rgo Gat Gar Ows Apl Apt Som Cel Dil Pul Ofl Pkl Pke Trq Fra Frb
theorem _root_.Go.Proofs.YtnhecfkpiojmhaaGreat.Tw.func8:Tw.prog.funcs[8]?=some Tryz.f8:=by kernel_rfl
theorem _root_.Go.Proofs.YtnhecfkpiojmhaaGreat.Tw.func13:Tw.prog.funcs[13]?=some Tryz.f13:=by kernel_rfl
theorem _root_.Go.Proofs.YtnhecfkpiojmhaaGreat.Tw.func3:Tw.prog.funcs[3]?=some Tryz.f3:=by kernel_rfl
def shwL(g:FrG):List Rn:=un and (shL g.dx g.dy (smR (has ⟨g.ink,1⟩) g.c.P)) (at8 g.c.w g.c.h)
def bI8:FSpec:=aa9 8 (γ:=FrG) (λ| [.int _ w,.int _ h,s,.int _ i,.agg _ d]=>some ⟨⟨w.toNat,h.toNat,pcD s⟩,i.toNat,Sx.intOf (d 0),Sx.intOf (d 1)⟩|_=>none)
 (λg=>[.int .i64 g.c.w,.int .i64 g.c.h,pcS g.c.P,.int .i64 g.ink,.agg 2 (lst [.int .i64 g.dx,.int .i64 g.dy])]) FrG.Ok (λg=>okP (al4 (shwL g)))
theorem cm4{g:FrG}(hg:g.Ok):Bx 50 (smR (has ⟨g.ink,1⟩) g.c.P):=⟨al0 _ _,λy x hm=>by
 rw[aF3 (bd0 hg.c.P _)]at hm;have:=b42 hg.c hm
 unfold inPg at this;rw[lE]at this;have h1:=hg.w;have h2:=hg.h;omega⟩
theorem bY0:aa5 Tw.prog bI8:=by
 refine ssW (specs:=[bs0,ay7,bW0,bl5]) (⟨bm9,aJ1,bL9,bu4,trivial⟩) Tw.func8 (λg=>A0) ?_;rintro g hg;refine ac7 (B:=let T8:=λp:Prop=>Tt/\Tt/\Tt/\Tt/\Tt/\Tt/\Tt/\Tt/\p;let A:=Aq;let z14:=(↑g.c.w:Int);let z13:=(↑g.c.h:Int);let z8:=(↑g.ink:Int);let z15:=(↑z8.toNat:Int);let z7:=(↑z13.toNat:Int);let z6:=(↑z14.toNat:Int);let z4:=(IntKind.u8=IntKind.u8);let q4:=λp:Int=>A z4/\A (p=p);let z3:=(IntKind.i64=IntKind.i64);let q3:=λp:Int=>A z3/\A (p=p);let z9:=((Tt/\q3 g.dx)/\q3 g.dy);let z5:=(A z3/\A (z8=z15));let z2:=(smR (Som.has (InG.mk z8.toNat (1:Int))) g.c.P);let z1:=(A (g.c.P.n=g.c.P.n)/\∀i:Nat,i<g.c.P.n->(chp (Tt/\A (g.c.P.m i=g.c.P.m i)/\∀i_1:Nat,let z10:=(g.c.P.p i i_1);i_1<g.c.P.m i->((Tt/\q3 z10.y)/\q3 z10.x0)/\q3 z10.x1) (λj:Nat=>q4 (g.c.P.ink i j)) 7)/\q4 (g.c.P.ink i (7:Nat)));let z0:=(MvF.mk (PaG.mk (ChG.mk z6.toNat z7.toNat g.c.P) z15.toNat) z2.length (rI z2) g.dx g.dy);T8 ((((A z3/\A (z14=z6))/\(A z3/\A (z13=z7))/\z1/\z5/\z5/\Tt)/\A (OnG.mk (ChG.mk z14.toNat z13.toNat g.c.P) z8.toNat z8.toNat).Ok)/\T8 (Tt/\((z9/\Tt)/\A (((-64:Int)<=g.dx/\g.dx<=(64:Int))/\(-64:Int)<=g.dy/\g.dy<=(64:Int)))/\Tt/\Tt/\Tt/\Tt/\Tt/\(((A z3/\A (z14=z6))/\(A z3/\A (z13=z7))/\z1/\z5/\(q3 ((1:Int)))/\Tt)/\A (IkG.mk z14.toNat z13.toNat g.c.P (InG.mk z8.toNat (1:Int))).Ok)/\T8 (((((((Tt/\A z3/\A (z6=(↑z6.toNat:Int)))/\A z3/\A (z7=(↑z7.toNat:Int)))/\A (g.c.P.n=g.c.P.n)/\∀i:Nat,i<g.c.P.n->(chp (Tt/\A (g.c.P.m i=g.c.P.m i)/\∀i_1:Nat,let z11:=(g.c.P.p i i_1);i_1<g.c.P.m i->((Tt/\q3 z11.y)/\q3 z11.x0)/\q3 z11.x1) (λj:Nat=>q4 (g.c.P.ink i j)) 7)/\q4 (g.c.P.ink i (7:Nat)))/\A z3/\A (z15=(↑z15.toNat:Int)))/\(A (z2.length=z2.length)/\∀i:Nat,let z12:=(rI z2 i);i<z2.length->((Tt/\q3 z12.y)/\q3 z12.x0)/\q3 z12.x1)/\z9/\Tt)/\A z0.Ok)/\Tt/\Tt/\Tt/\(Tt/\A ((mvL z0).length=(shwL g).length)/\∀i:Nat,let z16:=(rI (mvL z0) i);i<(shwL g).length->((Tt/\A z3/\A (z16.y=(rI (shwL g) i).y))/\A z3/\A (z16.x0=(rI (shwL g) i).x0))/\A z3/\A (z16.x1=(rI (shwL g) i).x1))/\q3 ((0:Int)))))) ?_;simp only[chp];simp only[cln,ly,lO];have hgc:(⟨g.c.w,g.c.h,g.c.P⟩:ChG).Ok:=hg.c;have hi:=hg.ink;have hv:=hg.v;have hsh:=aL8 (cm4 hg) hg.x hg.y;have hmv:=cr6 ⟨⟨g.c.w,g.c.h,g.c.P⟩,g.ink⟩ (smR (has ⟨g.ink,1⟩) g.c.P) g.dx g.dy;exact⟨⟨hgc,hi.2,hi.2⟩,⟨hg.x,hg.y⟩,⟨hgc,hi.2,by show 1<=(1:Int)/\(1:Int)<=255;decide,λk hk=>hv k hk g.ink⟩,⟨hgc,hsh⟩,ar5 hmv⟩
def b36:FSpec:=aa9 13 (γ:=Nat×Nat) (λ| [.int _ w,.int _ h]=>some (w.toNat,h.toNat)|_=>none) (λg=>[.int .i64 g.1,.int .i64 g.2]) (λg=>(1<=g.1/\g.1<=256)/\1<=g.2/\g.2<=256) (λg=>al4 (at8 g.1 g.2))
theorem ce0:aa5 Tw.prog b36:=by
 refine ssW (specs:=[bc9]) (⟨Rgd.a36,trivial⟩) Tw.func13 (λg=>A0) ?_;rintro⟨w,h⟩ ⟨hw,hh⟩;refine ac7 (B:=let A:=Aq;let z4:=(at8 w h);let z2:=(16:Int);let z1:=(IntKind.i64=IntKind.i64);let q1:=λp:Int=>A z1/\A (p=p);let z5:=(q1 ((0:Int)));let z0:=(ReG.mk (0:Int) (0:Int) (z2*(↑w:Int)) (z2*(↑h:Int)));Tt/\Tt/\A ((-9223372036854775808:Int)<=z2*(↑w:Int)/\z2*(↑w:Int)<=(9223372036854775807:Int))/\Tt/\A ((-9223372036854775808:Int)<=z2*(↑h:Int)/\z2*(↑h:Int)<=(9223372036854775807:Int))/\((z5/\z5/\(q1 (z2*(↑w:Int)))/\(q1 (z2*(↑h:Int)))/\Tt)/\A z0.ok)/\Tt/\Tt/\Tt/\Tt/\Tt/\Tt/\Tt/\Tt/\A ((Lf z0.f z0.n).length=z4.length)/\∀i:Nat,let z3:=(rI (Lf z0.f z0.n) i);i<z4.length->((Tt/\A z1/\A (z3.y=(rI z4 i).y))/\A z1/\A (z3.x0=(rI z4 i).x0))/\A z1/\A (z3.x1=(rI z4 i).x1)) ?_;simp only[cln,ly,lO];have hw:1<=w/\w<=256:=hw;have hh:1<=h/\h<=256:=hh;exact⟨by omega,by omega,bX0 hw hh,ar5 rfl⟩
structure LwG where
 w:Int
 h:Int
 n:Nat
 f:Nat->Vec
 k:Int
 r:Int
 ink:Int
 dx:Int
 dy:Int
structure LwG.Ok(g:LwG):Prop where
 n:g.n<=17592186044416
 v:∀i j,i<g.n->j<8->0<=g.f i j/\g.f i j<=255
structure KG where
 o:OfG
 r:Nat
 ink:Nat
 dx:Int
 dy:Int
 P:Pcs
 Q:Pcs
structure KG.Ok(s:KG):Prop where
 p:Pg s.o s.r
 r:s.r<=6
 ink:1<=s.ink/\s.ink<=3
 v:∀i,byt (s.o.f i)
 e:s.P=Gt.P (ofA s.o)
structure KG.In(s:KG):Prop where
 k:s.Ok
 x:0-(s.r:Int)<=s.dx/\s.dx<=s.r
 y:0-(s.r:Int)<=s.dy/\s.dy<=s.r
 q:s.Q=Gt.P (ofA (pd s.o s.r))
def cA:Inv:=⟨KG,KG.Ok,λs=>⟨[(0,.int .i64 s.o.w),(1,.int .i64 s.o.h),(4,.int .i64 s.r),(5,.int .i64 s.ink),(13,.own 0 0),(15,pcS s.P)],[.cells 2 (lst [.int .i64 s.dx,.int .i64 s.dy]) 24]⟩,λ_=>0⟩
def cB:Inv:=⟨KG,KG.In,λs=>⟨[(0,.int .i64 s.o.w),(1,.int .i64 s.o.h),(5,.int .i64 s.ink),(13,.own 0 0),(15,pcS s.P),(16,pcS s.Q)],[.cells 2 (lst [.int .i64 s.dx,.int .i64 s.dy]) 24]⟩,λ_=>0⟩
def spLaw:FSpec:=aa9 3 (γ:=LwG) (λ| [.int _ w,.int _ h,s,.int _ k,.int _ r,.int _ i,.agg _ d]=>some ⟨w,h,aj1 s,b12 s,k,r,i,Sx.intOf (d 0),Sx.intOf (d 1)⟩|_=>none) (λg=>[.int .i64 g.w,.int .i64 g.h,bi7 g.n g.f,.int .i64 g.k,.int .i64 g.r,.int .i64 g.ink,.agg 2 (lst [.int .i64 g.dx,.int .i64 g.dy])]) LwG.Ok (λ_=> .bool true)
theorem co9{g:LwG}(hg:g.Ok){W H:Nat}:∀i,byt ((PhG.of ⟨W,H,g.n,g.f,g.k⟩).f i):=λi j=>by
 show 0<=(if i<256*W*H then PhG.cel ⟨W,H,g.n,g.f,g.k⟩ i j else 0)/\(if i<256*W*H then PhG.cel ⟨W,H,g.n,g.f,g.k⟩ i j else 0)<=255;have z:(0:Int)<=0/\(0:Int)<=255:=by decide
 by_cases hi:i<256*W*H
 ·rw[ll hi];unfold PhG.cel;by_cases hn:0<g.n
  ·rw[ll (show 0<g.n from hn)];have ha:PhG.at' ⟨W,H,g.n,g.f,g.k⟩ i<g.n:=xS _ hn;unfold four;by_cases hj:j<4
   ·rw[ll hj];exact hg.v _ j ha (by omega)
   ·rw[lu hj];exact z
  ·rw[lu (show¬ 0<g.n from hn)];exact z
 ·rw[lu hi];exact z
theorem fr_ok{o:OfG}{r ink:Nat}(g:Pg o r)(hi:1<=ink/\ink<=3){dx dy R:Int}(hx:0-R<=dx/\dx<=R)(hy:0-R<=dy/\dy<=R)(hR:R<=64)(hv:∀k,k<(Gt.P (ofA (pd o r))).n->byt ((Gt.P (ofA (pd o r))).ink k)):FrG.Ok ⟨⟨o.w,o.h,Gt.P (ofA (pd o r))⟩,ink,dx,dy⟩:=
 ⟨g.pd.c,by show 1<=ink/\ink<8;omega,g.w.2,g.h.2,hv,by show -64<=dx/\dx<=64;omega,by show -64<=dy/\dy<=64;omega⟩
theorem cp9:aa5 Tw.prog spLaw:=by
 refine ssW (specs:=[cm3,bJ1,spPh,b35,bI8,bW0,bl3,aO5,b36,bl6,ar4,bs2]) (⟨cq6,bM6,ok_ph,cd9,bY0,bL9,bu2,aX2,ce0,bu6,au3,bM0,trivial⟩) Tw.func3 (λg=>(⟨[(5,.cut cA),(9,.cut cB)],[]⟩:Ann)) ?_;rintro g hg;refine ac7 (B:=let T7:=λp:Prop=>Tt/\Tt/\Tt/\Tt/\Tt/\Tt/\Tt/\p;let T8:=λp:Prop=>Tt/\Tt/\Tt/\Tt/\Tt/\Tt/\Tt/\Tt/\p;let T10:=λp:Prop=>Tt/\Tt/\Tt/\Tt/\Tt/\Tt/\Tt/\Tt/\Tt/\Tt/\p;let A:=Aq;let z56:=(1000000:Int);let z54:=(-1000000:Int);let z36:=(7:Nat);let z35:=(6:Nat);let z34:=(5:Nat);let z33:=(4:Nat);let z32:=(3:Nat);let z31:=(2:Nat);let z25:=(1:Nat);let z21:=(2:Int);let z20:=(0:Nat);let z17:=(1:Int);let z38:=((z54<=z17/\z17<=z21)/\z21<=z56);let z27:=(PhG.mk (cutI g.w z17 z21).toNat (cutI g.h z17 z21).toNat g.n g.f g.k);let z16:=(0:Int);let z55:=(InG.mk (Int.toNat z16) (255:Int));let z7:=(ofA z27.of);let z18:=(Gar.Gt.P z7);let z5:=(IntKind.u8=IntKind.u8);let q5:=λp:Int=>A z5/\A (p=p);let z4:=(IntKind.i64=IntKind.i64);let q4:=λp:Int=>A z4/\A (p=p);let z40:=(q4 z16);let z39:=(q4 z17);Tt/\Tt/\(Tt/\A True)/\Tt/\Tt/\(((q4 g.w)/\z39/\(q4 z21)/\Tt)/\A z38)/\Tt/\(((q4 g.h)/\z39/\(q4 z21)/\Tt)/\A z38)/\Tt/\(((q4 g.r)/\z40/\(q4 ((6:Int)))/\Tt)/\A ((z54<=z16/\z16<=(6:Int))/\(6:Int)<=z56))/\Tt/\(((q4 g.ink)/\z39/\(q4 ((3:Int)))/\Tt)/\A ((z54<=z17/\z17<=(3:Int))/\(3:Int)<=z56))/\Tt/\Tt/\Tt/\Tt/\(Tt/\Tt/\Tt/\Tt/\(((A z4/\A (cutI g.w z17 z21=(↑(cutI g.w z17 z21).toNat:Int)))/\(A z4/\A (cutI g.h z17 z21=(↑(cutI g.h z17 z21).toNat:Int)))/\(A (g.n=g.n)/\∀i:Nat,i<g.n->(chp True (λj:Nat=>q5 (g.f i j)) 7)/\q5 (g.f i z36))/\(q4 g.k)/\Tt)/\A z27.Ok)/\Tt/\∃g_1:KG,A (cA.pre g_1)/\((A z4/\A (cutI g.w z17 z21=(↑g_1.o.w:Int)))/\(A z4/\A (cutI g.h z17 z21=(↑g_1.o.h:Int)))/\(A z4/\A (cutI g.r z16 (6:Int)=(↑g_1.r:Int)))/\(A z4/\A (cutI g.ink z17 (3:Int)=(↑g_1.ink:Int)))/\A (z20=z20)/\(A ((bif z7.full then z20 else z7.n)=g_1.P.n)/\∀i:Nat,i<g_1.P.n->((((((((Tt/\A (z18.m i=g_1.P.m i)/\∀i_1:Nat,i_1<g_1.P.m i->((Tt/\A z4/\A ((z18.p i i_1).y=(g_1.P.p i i_1).y))/\A z4/\A ((z18.p i i_1).x0=(g_1.P.p i i_1).x0))/\A z4/\A ((z18.p i i_1).x1=(g_1.P.p i i_1).x1))/\A z5/\A (z18.ink i z20=g_1.P.ink i z20))/\A z5/\A (z18.ink i z25=g_1.P.ink i z25))/\A z5/\A (z18.ink i z31=g_1.P.ink i z31))/\A z5/\A (z18.ink i z32=g_1.P.ink i z32))/\A z5/\A (z18.ink i z33=g_1.P.ink i z33))/\A z5/\A (z18.ink i z34=g_1.P.ink i z34))/\A z5/\A (z18.ink i z35=g_1.P.ink i z35))/\A z5/\A (z18.ink i z36=g_1.P.ink i z36))/\Tt)/\((Tt/\A z4/\A (g.dx=g_1.dx))/\A z4/\A (g.dy=g_1.dy))/\Tt)/\∀g:KG,let z43:=(↑g.o.h:Int);let z42:=(↑g.o.w:Int);let z15:=(↑g.r:Int);let z53:=(q4 (z16-z15));let z28:=((z54<=z16-z15/\z16-z15<=z15)/\z15<=z56);let z24:=(PuG.mk (ChG.mk z42.toNat z43.toNat g.P) z15.toNat);let z22:=((-9223372036854775808:Int)<=z16-z15/\z16-z15<=(9223372036854775807:Int));let z2:=(ofA (OfG.mk z42.toNat z43.toNat ((256:Nat)*z42.toNat*z43.toNat) z24.out));let z19:=(Gar.Gt.P z2);cA.pre g->Tt/\Tt/\Tt/\Tt/\(((A z4/\A (z42=(↑z42.toNat:Int)))/\(A z4/\A (z43=(↑z43.toNat:Int)))/\(A (g.P.n=g.P.n)/\∀i:Nat,i<g.P.n->(chp (Tt/\A (g.P.m i=g.P.m i)/\∀i_1:Nat,let z47:=(g.P.p i i_1);i_1<g.P.m i->((Tt/\q4 z47.y)/\q4 z47.x0)/\q4 z47.x1) (λj:Nat=>q5 (g.P.ink i j)) 7)/\q5 (g.P.ink i z36))/\z40/\(A z4/\A (z15=(↑z15.toNat:Int)))/\Tt)/\A z24.Ok)/\T7 (Br (decide ((bif z2.full then z21 else z16)≠z16)) (Tt/\Tt/\A (false=true)) ((Tt/\Tt/\Tt/\A z22/\Tt/\(((q4 g.dx)/\z53/\(q4 z15)/\Tt)/\A z28)/\Tt/\Tt/\Tt/\A z22/\Tt/\(((q4 g.dy)/\z53/\(q4 z15)/\Tt)/\A z28)/\Tt/\Tt/\∃g_1:KG,A (cB.pre g_1)/\((A z4/\A (z42=(↑g_1.o.w:Int)))/\(A z4/\A (z43=(↑g_1.o.h:Int)))/\(A z4/\A ((↑g.ink:Int)=(↑g_1.ink:Int)))/\A (z20=z20)/\(A (g.P.n=g_1.P.n)/\∀i:Nat,i<g_1.P.n->((((((((Tt/\A (g.P.m i=g_1.P.m i)/\∀i_1:Nat,i_1<g_1.P.m i->((Tt/\A z4/\A ((g.P.p i i_1).y=(g_1.P.p i i_1).y))/\A z4/\A ((g.P.p i i_1).x0=(g_1.P.p i i_1).x0))/\A z4/\A ((g.P.p i i_1).x1=(g_1.P.p i i_1).x1))/\A z5/\A (g.P.ink i z20=g_1.P.ink i z20))/\A z5/\A (g.P.ink i z25=g_1.P.ink i z25))/\A z5/\A (g.P.ink i z31=g_1.P.ink i z31))/\A z5/\A (g.P.ink i z32=g_1.P.ink i z32))/\A z5/\A (g.P.ink i z33=g_1.P.ink i z33))/\A z5/\A (g.P.ink i z34=g_1.P.ink i z34))/\A z5/\A (g.P.ink i z35=g_1.P.ink i z35))/\A z5/\A (g.P.ink i z36=g_1.P.ink i z36))/\(A ((bif z2.full then z20 else z2.n)=g_1.Q.n)/\∀i:Nat,i<g_1.Q.n->((((((((Tt/\A (z19.m i=g_1.Q.m i)/\∀i_1:Nat,i_1<g_1.Q.m i->((Tt/\A z4/\A ((z19.p i i_1).y=(g_1.Q.p i i_1).y))/\A z4/\A ((z19.p i i_1).x0=(g_1.Q.p i i_1).x0))/\A z4/\A ((z19.p i i_1).x1=(g_1.Q.p i i_1).x1))/\A z5/\A (z19.ink i z20=g_1.Q.ink i z20))/\A z5/\A (z19.ink i z25=g_1.Q.ink i z25))/\A z5/\A (z19.ink i z31=g_1.Q.ink i z31))/\A z5/\A (z19.ink i z32=g_1.Q.ink i z32))/\A z5/\A (z19.ink i z33=g_1.Q.ink i z33))/\A z5/\A (z19.ink i z34=g_1.Q.ink i z34))/\A z5/\A (z19.ink i z35=g_1.Q.ink i z35))/\A z5/\A (z19.ink i z36=g_1.Q.ink i z36))/\Tt)/\((Tt/\A z4/\A (cutI g.dx (z16-z15) z15=g_1.dx))/\A z4/\A (cutI g.dy (z16-z15) z15=g_1.dy))/\Tt)/\∀g:KG,let z37:=(A z4/\A ((↑g.ink:Int)=(↑(↑g.ink:Int).toNat:Int)));let z30:=(↑g.o.w:Int);let z29:=(↑g.o.h:Int);let z26:=((Tt/\q4 g.dx)/\q4 g.dy);let z14:=(A z4/\A (z29=(↑z29.toNat:Int)));let z13:=(A z4/\A (z30=(↑z30.toNat:Int)));let z12:=(smR (λ(x:Gar.Vec)=>true) g.P);let z11:=(at8 z30.toNat z29.toNat);let z10:=(smR (Som.has z55) g.P);let z9:=(A (g.P.n=g.P.n)/\∀i:Nat,i<g.P.n->(chp (Tt/\A (g.P.m i=g.P.m i)/\∀i_1:Nat,let z48:=(g.P.p i i_1);i_1<g.P.m i->((Tt/\q4 z48.y)/\q4 z48.x0)/\q4 z48.x1) (λj:Nat=>q5 (g.P.ink i j)) 7)/\q5 (g.P.ink i z36));let z8:=(A (g.Q.n=g.Q.n)/\∀i:Nat,i<g.Q.n->(chp (Tt/\A (g.Q.m i=g.Q.m i)/\∀i_1:Nat,let z49:=(g.Q.p i i_1);i_1<g.Q.m i->((Tt/\q4 z49.y)/\q4 z49.x0)/\q4 z49.x1) (λj:Nat=>q5 (g.Q.ink i j)) 7)/\q5 (g.Q.ink i z36));let z6:=(FrG.mk (ChG.mk z30.toNat z29.toNat g.Q) (↑g.ink:Int).toNat g.dx g.dy);let z52:=(Rg.mk (shwL z6).length (rI (shwL z6)));let z3:=(ShG.mk (Rg.mk z10.length (rI z10)) g.dx g.dy);let z57:=(Rg.mk z3.L.length (rI z3.L));let z1:=(al9 mn (CbG.mk (Rg.mk z11.length (rI z11)) (Rg.mk z12.length (rI z12))));let z0:=(al9 Bool.and (CbG.mk (Rg.mk z1.length (rI z1)) z57));cB.pre g->Tt/\Tt/\Tt/\Tt/\Tt/\((z13/\z14/\z8/\z37/\z26/\Tt)/\A z6.Ok)/\T8 (((z13/\z14/\z9/\(A z4/\A (z16=(↑(Int.toNat z16):Int)))/\(q4 ((255:Int)))/\Tt)/\A (IkG.mk z30.toNat z29.toNat g.P z55).Ok)/\T10 ((((A (z10.length=z10.length)/\∀i:Nat,let z44:=(rI z10 i);i<z10.length->((Tt/\q4 z44.y)/\q4 z44.x0)/\q4 z44.x1)/\(q4 g.dx)/\(q4 g.dy)/\Tt)/\A z3.ok)/\T8 (((z13/\z14/\z9/\Tt)/\A (ChG.mk z30.toNat z29.toNat g.P).Ok)/\T7 (((z13/\z14/\Tt)/\A ((z25<=z30.toNat/\z30.toNat<=(256:Nat))/\z25<=z29.toNat/\z29.toNat<=(256:Nat)))/\Tt/\(((A (z11.length=z11.length)/\∀i:Nat,let z45:=(rI z11 i);i<z11.length->((Tt/\q4 z45.y)/\q4 z45.x0)/\q4 z45.x1)/\(A (z12.length=z12.length)/\∀i:Nat,let z46:=(rI z12 i);i<z12.length->((Tt/\q4 z46.y)/\q4 z46.x0)/\q4 z46.x1)/\Tt)/\A (vld (Rg.mk z11.length (rI z11)).L/\vld (Rg.mk z12.length (rI z12)).L))/\T7 ((((A (z1.length=z1.length)/\∀i:Nat,let z50:=(rI z1 i);i<z1.length->((Tt/\q4 z50.y)/\q4 z50.x0)/\q4 z50.x1)/\(A (z3.L.length=z3.L.length)/\∀i:Nat,let z41:=(rI z3.L i);i<z3.L.length->((Tt/\q4 z41.y)/\q4 z41.x0)/\q4 z41.x1)/\Tt)/\A (vld (Rg.mk z1.length (rI z1)).L/\vld z57.L))/\T7 ((((A (z0.length=z0.length)/\∀i:Nat,let z51:=(rI z0 i);i<z0.length->((Tt/\q4 z51.y)/\q4 z51.x0)/\q4 z51.x1)/\(A ((shwL z6).length=(shwL z6).length)/\∀i:Nat,let z23:=(rI (shwL z6) i);i<(shwL z6).length->((Tt/\q4 z23.y)/\q4 z23.x0)/\q4 z23.x1)/\Tt)/\A (vld (Rg.mk z0.length (rI z0)).L/\vld z52.L))/\T10 (((z13/\z14/\z8/\z40/\z37/\z26/\Tt)/\A z6.Ok)/\T10 (T7 (Br (decide ((↑(al9 Bool.and (CbG.mk (Rg.mk z0.length (rI z0)) z52)).length:Int)=z16)) (Tt/\Tt/\Tt/\Tt/\Tt/\Tt/\A (decide ((↑z6.out.length:Int)=z16)=true)) (Tt/\Tt/\Tt/\A (false=true)))))))))))))) ?_;simp only[chp];simp only[cln,ly,lO];have hn:=hg.n;have c1:=ak1 g.w 1 2 (by omega);have c2:=ak1 g.h 1 2 (by omega);have c3:=ak1 g.r 0 6 (by omega);have c4:=ak1 g.ink 1 3 (by omega);have pg:Pg (PhG.of ⟨(cutI g.w 1 2).toNat,(cutI g.h 1 2).toNat,g.n,g.f,g.k⟩) (cutI g.r 0 6).toNat:=⟨⟨by show 1<=(cutI g.w 1 2).toNat;omega,by show(cutI g.w 1 2).toNat<=2;omega⟩,⟨by show 1<=(cutI g.h 1 2).toNat;omega,by show(cutI g.h 1 2).toNat<=2;omega⟩,by omega⟩
 refine⟨by omega,by omega,by omega,by omega,⟨⟨⟨by omega,by omega⟩,⟨pg.w,pg.h,hn⟩⟩,⟨⟨_,(cutI g.r 0 6).toNat,(cutI g.ink 1 3).toNat,g.dx,g.dy,Gt.P (ofA (PhG.of ⟨(cutI g.w 1 2).toNat,(cutI g.h 1 2).toNat,g.n,g.f,g.k⟩)),Gt.P (ofA (PhG.of ⟨(cutI g.w 1 2).toNat,(cutI g.h 1 2).toNat,g.n,g.f,g.k⟩))⟩,⟨pg,by show(cutI g.r 0 6).toNat<=6;omega,⟨by show 1<=(cutI g.ink 1 3).toNat;omega,by show(cutI g.ink 1 3).toNat<=3;omega⟩,co9 hg,rfl⟩,
  ⟨by show cutI g.w 1 2=((cutI g.w 1 2).toNat:Int);omega,by show cutI g.h 1 2=((cutI g.h 1 2).toNat:Int);omega,by show cutI g.r 0 6=((cutI g.r 0 6).toNat:Int);omega,by show cutI g.ink 1 3=((cutI g.ink 1 3).toNat:Int);omega,pEq (P:=Gt.P (ofA (PhG.of ⟨(cutI g.w 1 2).toNat,(cutI g.h 1 2).toNat,g.n,g.f,g.k⟩))) rfl⟩,rfl,rfl⟩⟩,?_⟩
 clear pg c1 c2 c3 c4 hn hg g;rintro⟨o,r,ink,dx,dy,P,Q⟩ ⟨pg,hr,hi,hv,he⟩;simp only at pg hr hi hv he
 subst he;have hx:=ak1 dx (0-(r:Int)) r (by omega);have hy:=ak1 dy (0-(r:Int)) r (by omega);have g1 : -9223372036854775808<=0-(r:Int)/\0-(r:Int)<=9223372036854775807:=by omega
 have g2:(-1000000<=0-(r:Int)/\0-(r:Int)<=r)/\(r:Int)<=1000000:=by omega
 have full:=congrArg (λb=>bif b then(2:Int)else 0) pg.pd.n;refine⟨⟨pg.ok.c,pg.w.2,pg.h.2,pg.r⟩,λh=>absurd full h,λ_=>⟨⟨g1,g2,g1,g2,⟨⟨o,r,ink,_,_,_,Gt.P (ofA (pd o r))⟩,⟨⟨pg,hr,hi,hv,rfl⟩,hx,hy,rfl⟩,⟨rfl,rfl,rfl,pEq (P:=Gt.P (ofA o)) rfl,pEq (P:=Gt.P (ofA (pd o r))) rfl⟩,rfl,rfl⟩⟩,?_⟩⟩;rintro⟨o,r,ink,dx,dy,P,Q⟩ ⟨⟨pg,hr,hi,hv,he⟩,hx,hy,hq⟩;simp only at pg hr hi hv he hx hy hq
 subst he hq;have fr:=fr_ok pg hi hx hy (by omega) (bS0 pg.pd (ct7 pg hv));have h0:bq4 (has ⟨0,255⟩):=au7 (by decide);have eS:ShG.L ⟨⟨(smR (has ⟨0,255⟩) (Gt.P (ofA o))).length,rI (smR (has ⟨0,255⟩) (Gt.P (ofA o)))⟩,dx,dy⟩=shL dx dy (smR (has ⟨0,255⟩) (Gt.P (ofA o))):=by rw[ShG.L_eq,Rg.L_of]
 have b0:Bx 50 (smR (has ⟨0,255⟩) (Gt.P (ofA o))):=⟨al0 _ _,λy x hm=>by
  have:=(bW1 pg.ok pg.w.2 pg.h.2 h0).b y x hm
  omega⟩
 have v1:vld (ShG.L ⟨⟨(smR (has ⟨0,255⟩) (Gt.P (ofA o))).length,rI (smR (has ⟨0,255⟩) (Gt.P (ofA o)))⟩,dx,dy⟩):=by
  rw[eS];exact ci9 (bW1 pg.ok pg.w.2 pg.h.2 h0) (by omega) (by omega)
 have E:=b06 pg (λi=>(hv i 0).2) ⟨hi.1,by omega⟩ (by omega) (by omega) (dx:=dx) (dy:=dy);rw[<-eS]at E;have hs:=aL8 b0 (dx:=dx) (dy:=dy) (by omega) (by omega);have nf:=bN1 pg (λi=>(hv i 0).2) (by omega) (by omega) fr;refine⟨fr,⟨rfl,pg.ok.c,by show 0<8;decide,by show 1<=(255:Int)/\(255:Int)<=255;decide,λk hk=>bS0 pg.ok hv k hk 0⟩,hs,pg.ok.c,⟨pg.ok.c.w,pg.ok.c.h⟩,⟨vldR (ap6 pg.ok.c.w pg.ok.c.h),vldR (al0 _ _)⟩,⟨vldR (aP5 ⟨o.w,o.h,Gt.P (ofA o)⟩),vldR v1⟩,⟨vldR (ao7 _ _ _),vldR (ao7 _ _ _)⟩,fr,λ_=>congrArg Int.ofNat nf,λh=>absurd (congrArg Int.ofNat E) h⟩
end Frc
namespace Hid
open Go.RowKit Go.Conc
variable [LoopOK] [Junk]
def dmF(p:Program):Frame:={fn:=p.funcs.size,tmps:=#[undef],todo:=[.call default true "fmt's door!" #[]],defers:=[],mode:=.run,kind:=.normal}
theorem bD4(p:Program)(m:FrameMode):({dmF p with mode:=m}:Frame).catches p=true:=by
 have:p.funcs[p.funcs.size]?=none:=by simp
 simp only[Frame.catches,dmF,this];decide +kernel
inductive Lost(p P:Program):Goroutine->Prop
 |fr {x:Frame}{xs:List Frame}{ch:List PanicEntry}(hm:x.mode=.panicking ch) (hd:x.defers=[]) (hxs:∀y∈xs,y.defers=[]/\(y.mode=.run\/y.mode=.returning)):Lost p P (G x (xs++[dmF p]))
 |dm {ch:List PanicEntry}:Lost p P (G {dmF p with mode:= .panicking ch} [])
theorem bf4{p P:Program}{g:Goroutine}(h:Lost p P g)(w:World):(∃o w' es,stepG p true g w=.ended o w' es)\/∃g',stepG p true g w=.go g' w #[]/\Lost p P g':=by
 cases h with
 |@fr x xs ch hm hd hxs=>
  by_cases hc:x.catches p=true
  ·left;simp only[stepG,G,hm,unwind,hd,hc,xj];exact⟨_,_,_,rfl⟩
  ·right;cases xs with
   |nil=>
    refine⟨_,by simp only[stepG,G,hm,unwind,hd,hc,uW];rfl,?_⟩;exact .dm
   |cons y ys=>
    refine⟨_,by simp only[stepG,G,hm,unwind,hd,hc,uP];rfl,?_⟩;have hy:=hxs y (by simp);have e:y.raise ch={y with mode:= .panicking ch}:=by
     unfold Frame.raise;rcases hy.2 with h|h<;>rw[h]
    rw[e];exact .fr rfl hy.1 λz hz=>hxs z (by simp[hz])
 |@dm ch=>
  left;have:=bD4 p (.panicking ch)
  simp only[stepG,G,unwind,this,xj];exact⟨_,_,_,rfl⟩
theorem am5{P:Program}{a:Goroutine}{w w':World}{o:Outcome}{es:Array Event}(hs:a.status=.running)(h:stepG P true a w=.ended o w' es):step P (solo a w)=.ended o w':=by
 rw[step,stepT_solo hs];simp[runT,solo,Array.swapAt!,Array.swapAt,h,GStep.es]
theorem Lost.status{p P:Program}{g:Goroutine}(h:Lost p P g):g.status=.running:=by cases h<;>rfl
theorem bf5{p P:Program}:∀(n:Nat){g:Goroutine}{w:World}{m:Machine},Lost p P g->runN p n (solo g w)=.next m->∃g' w',m=solo g' w'/\Lost p P g'
 |0,g,w,m,h,hr=>by cases hr;exact⟨g,w,rfl,h⟩
 |n+1,g,w,m,h,hr=>by
  rcases bf4 h w with⟨o,w',es,e⟩|⟨g',e,h'⟩
  ·simp only[runN,am5 h.status e]at hr;cases hr
  ·simp only[runN,step_solo_go h.status e]at hr;exact bf5 n h' hr
theorem Lost.mode{p P:Program}{x:Frame}{xs:List Frame}(h:Lost p P (G x xs)):∃ch,x.mode=.panicking ch:=by
 generalize hg:G x xs=g at h;cases h with
 |fr hm _ _=>simp only[G,Goroutine.mk.injEq]at hg;exact⟨_,hg.1▸hm⟩
 |dm=>simp only[G,Goroutine.mk.injEq]at hg;exact⟨_,by rw[hg.1]⟩
theorem bp4(p:Program)(v:Value)(w:World):∃o w' es,stepG p true (G ((dmF p).finish v) []) w=.ended o w' es:=by
 have hx:Extern.next "fmt's door!" = none:=by rfl
 simp only[stepG,G,dmF,Frame.finish,stepG.exec,hx,Option.elim];exact⟨_,_,_,rfl⟩
inductive Tree(p:Program)(Stop:Goroutine->World->Prop):Goroutine->World->Prop
 |stop {g:Goroutine}{w:World}(h:Stop g w):Tree p Stop g w
 |step {g:Goroutine}{w:World}(nx:Nat->Goroutine×World) (h:∀d,∃es,stepG p true g (w.at d)=.go (nx d).1 (nx d).2 es) (ih:∀d,Tree p Stop (nx d).1 (nx d).2):Tree p Stop g w
theorem Tree.mk{p:Program}{Stop:Goroutine->World->Prop}{g:Goroutine}{w:World}(h:∀d,∃g' w' es,stepG p true g (w.at d)=.go g' w' es/\Tree p Stop g' w'):Tree p Stop g w:=
 .step (λd=>((h d).choose,(h d).choose_spec.choose)) (λd=>⟨_,(h d).choose_spec.choose_spec.choose_spec.1⟩) λd=>(h d).choose_spec.choose_spec.choose_spec.2
def AtRet(p:Program)(f:FuncId)(Q:Value->World->Prop)(g:Goroutine)(w:World):Prop:=∃fr v,g=G fr [dmF p]/\fr.fn=f/\fr.leaving p w (.returned v)/\Q v w
section
variable {p:Program}{Stop:Goroutine->World->Prop}
def bU4(r:GStep):Prop:=∃g' w' es,r=.go g' w' es/\∀ch,g'.frame.mode≠.panicking ch
def badD(p:Program)(Stop:Goroutine->World->Prop)(s:Goroutine×World):Nat:=
 open Classical in if h:∃d,∀g' w' es,stepG p true s.1 (s.2.at d)=.go g' w' es->¬ Tree p Stop g' w' then h.choose else 0
def nxt(p:Program)(Stop:Goroutine->World->Prop)(s:Goroutine×World):Goroutine×World:=
 open Classical in if bU4 (stepG p true s.1 (s.2.at (badD p Stop s)))then(match stepG p true s.1 (s.2.at (badD p Stop s))with|.go g' w' _=>(g',w')|_=>s)else s
def sq(p:Program)(Stop:Goroutine->World->Prop)(s:Goroutine×World):Nat->Goroutine×World
 |0=>s
 |i+1=>nxt p Stop (sq p Stop s i)
def bk0(p:Program)(Stop:Goroutine->World->Prop)(s:Goroutine×World)(i:Nat):Prop:=bU4 (stepG p true (sq p Stop s i).1 ((sq p Stop s i).2.at (badD p Stop (sq p Stop s i))))
def pos(p:Program)(Stop:Goroutine->World->Prop)(s:Goroutine×World):Nat->Nat
 |0=>s.2.drawn
 |i+1=>pos p Stop s i+((sq p Stop s (i+1)).2.drawn-badD p Stop (sq p Stop s i))
def Here(p:Program)(Stop:Goroutine->World->Prop)(s:Goroutine×World)(n i:Nat):Prop:=n<pos p Stop s (i+1)\/¬ bk0 p Stop s i
def bG1(p:Program)(Stop:Goroutine->World->Prop)(s:Goroutine×World)(n:Nat):Question->Nat:=
 open Classical in if h:∃i,Here p Stop s n i/\∀j<i,¬ Here p Stop s n j then s.2.tape (badD p Stop (sq p Stop s h.choose)+(n-pos p Stop s h.choose))else s.2.tape n
variable {s:Goroutine×World}
theorem bS5{q:Goroutine×World}(h:¬ Tree p Stop q.1 q.2):∀g' w' es,stepG p true q.1 (q.2.at (badD p Stop q))=.go g' w' es->¬ Tree p Stop g' w':=by
 have hex:∃d,∀g' w' es,stepG p true q.1 (q.2.at d)=.go g' w' es->¬ Tree p Stop g' w':=by
  refine lz λhc=>h (.mk λd=>lz λhd=>hc ⟨d,λg' w' es e ht=>hd ⟨g',w',es,e,ht⟩⟩)
 unfold badD;rw[dif_pos hex];exact hex.choose_spec
theorem sq_go{i:Nat}{g':Goroutine}{w':World}{es:Array Event}(h:stepG p true (sq p Stop s i).1 ((sq p Stop s i).2.at (badD p Stop (sq p Stop s i)))=.go g' w' es)(hm:∀ch,g'.frame.mode≠.panicking ch):bk0 p Stop s i/\sq p Stop s (i+1)=(g',w'):=by
 have hg:bU4 (stepG p true (sq p Stop s i).1 ((sq p Stop s i).2.at (badD p Stop (sq p Stop s i)))):=⟨g',w',es,h,hm⟩
 refine⟨hg,?_⟩;show nxt p Stop (sq p Stop s i)=_;unfold nxt;rw[ll hg,h]
theorem bt3(i:Nat):∀j,i<=j->pos p Stop s i<=pos p Stop s j
 |0,h=>by
  obtain rfl:i=0:=by omega
  exact lh _
 |j+1,h=>by
  rcases uk i (j+1)with h'|h'
  ·have:=bt3 i j (by omega)
   simp only[pos];omega
  ·obtain rfl:i=j+1:=by omega
   exact lh _
theorem bG0{i:Nat}(hg:∀j<i,bk0 p Stop s j)(k:Nat)(hk:pos p Stop s i+k<pos p Stop s (i+1)\/¬ bk0 p Stop s i):
  bG1 p Stop s (pos p Stop s i+k)=s.2.tape (badD p Stop (sq p Stop s i)+k):=by
 have h1:Here p Stop s (pos p Stop s i+k) i:=hk;have h2:∀j<i,¬ Here p Stop s (pos p Stop s i+k) j:=λj hj hh=>by
  rcases hh with hh|hh
  ·have:=bt3 (p:=p) (Stop:=Stop) (s:=s) (j+1) i hj
   omega
  ·exact hh (hg j hj)
 have hex:∃i',Here p Stop s (pos p Stop s i+k) i'/\∀j<i',¬ Here p Stop s (pos p Stop s i+k) j:=⟨i,h1,h2⟩
 have e:hex.choose=i:=by
  have hc:=hex.choose_spec;rcases xL hex.choose i with h|h|h
  ·exact absurd hc.1 (h2 _ h)
  ·exact h
  ·exact absurd h1 (hc.2 _ h)
 unfold bG1;rw[dif_pos hex,e];congr 1;omega
theorem WR.at'{C L:World}(h:WR C L)(d:Nat):WR C (L.at d):=⟨h.os,h.out,h.size,h.blk,h.nv,h.np,h.lp⟩
theorem WR.bz3{C L:World}(h:WR C L)(e:C.heap=L.heap):WR L C:=⟨h.os.symm,h.out.symm,h.size.symm,λb o ho=>⟨o,by rw[<-e];exact ho,.inl rfl⟩,λb a u=>by rw[e];exact h.nv b a u,λb a u=>by rw[e];exact h.np b a u,λb r=>by rw[e];exact h.lp b r⟩
theorem bZ8{C L:World}(h:∀b:Nat,C.heap[b]?=L.heap[b]?):C.heap=L.heap:=Array.ext_getElem? h
theorem a19{g g':Goroutine}{w w':World}{es:Array Event}{k:Nat}{m:Machine}(hs:g.status=.running)(h:stepG p true g w=.go g' w' es)(hr:runN p (k+1) (solo g w)=.next m):runN p k (solo g' w')=.next m:=by
 simpa only [runN,step_solo_go hs h]using hr
theorem bS6{f:FuncId}{x c:Frame}{v:Value}{w w':World}{k:Nat}{fr:Frame}(hr:runN p k (solo (G ((dmF p).finish v) []) w)=.next (lone fr [c] w')):False:=by
 cases k with
 |zero=>
  cases hr
 |succ k=>
  obtain⟨o,w1,es,e⟩:=bp4 p v w;simp only[runN,am5 rfl e]at hr;cases hr
theorem road(h:Pair p p){f:FuncId}{Q:Value->World->Prop}{s:Goroutine×World}{fr:Frame}{v:Value}{w':World}(hfn:fr.fn=f)
  (hl:fr.leaving p w' (.returned v)) (hQv:Q v w') (hQ:∀v (w1 w2:World),w1.heap=w2.heap->w1.os=w2.os->w1.output=w2.output->Q v w1->Q v w2)
  (hres:∀fn,p.funcs[f]?=some fn->∀tmps,∃v,∀w,(results fn tmps).run p w=.ok v w):∀(k i:Nat)(x:Frame)(xs:List Frame)(W:World),
  (sq p (AtRet p f Q) s i).1=G x (xs++[dmF p])->FrOK p p x->(∀y∈xs,FrOK p p y)->¬ Tree p (AtRet p f Q) (sq p (AtRet p f Q) s i).1 (sq p (AtRet p f Q) s i).2->(∀j<i,bk0 p (AtRet p f Q) s j)->
  WR W (sq p (AtRet p f Q) s i).2->W.heap=(sq p (AtRet p f Q) s i).2.heap->W.tape=bG1 p (AtRet p f Q) s->(sq p (AtRet p f Q) s i).2.tape=s.2.tape->W.drawn=pos p (AtRet p f Q) s i->
  runN p k (solo (G x (xs++[dmF p])) W)=.next (lone fr [dmF p] w')->False:=by
 intro k;induction k with
 |zero=>
  intro i x xs W hg hx hxs hnt hgo hw hh hT hT0 hd hr;simp only[runN,Stepped.next.injEq,solo,lone,Machine.mk.injEq,List.cons.injEq,Array.mk.injEq,G,Goroutine.mk.injEq,laf,lar]at hr;obtain⟨rfl,rfl,hcs⟩:=hr;refine hnt (.stop ⟨x,v,?_,hfn,?_,hQ v _ _ hh hw.os hw.out hQv⟩)
  ·rw[hg];simp only[G,hcs]
  ·obtain⟨h1,h2,h3,fn,h4,h5⟩:=hl;refine⟨h1,h2,h3,fn,h4,?_⟩;obtain⟨v',hv'⟩:=hres fn (hfn▸h4) x.tmps;rw[hv']at h5⊢;cases h5;rfl
 |succ k ih=>
  intro i x xs W hg hx hxs hnt hgo hw hh hT hT0 hd hr;generalize hS:AtRet p f Q=Stop at *
  generalize hq:sq p Stop s i=q at *
  have hrun:(G x (xs++[dmF p])).status=.running:=rfl;by_cases hG:bk0 p Stop s i
  ·
   have hG':=hG;unfold bk0 bU4 at hG';rw[hq,hg]at hG';obtain⟨g',w1,es,e,hm⟩:=hG';obtain⟨_,hnx⟩:=sq_go (i:=i) (s:=s) (Stop:=Stop) (p:=p) (by rw[hq,hg];exact e) hm;have hpos:pos p Stop s (i+1)=pos p Stop s i+(w1.drawn-badD p Stop q):=by simp only[pos,hnx,hq]
   have hst:=aL7 (mT:=true) (mP:=true) (C:=W) (L:=q.2.at (badD p Stop q)) (c:=dmF p) (csT:=[]) (csP:=[dmF p]) h hx hxs (hw.at' _) (λb _=>by rw[hh];rfl) (λg2 L2 es2 e2 k hk=>by
    rw[e]at e2;cases e2;have hk':badD p Stop q+k<w1.drawn:=hk;have:=bG0 (p:=p) (Stop:=Stop) (s:=s) hgo k (.inl (by rw[hpos];omega))
    rw[hT,hd,this,hq];show _=q.2.tape _;rw[hT0];rfl)
   have hnt':¬ Tree p Stop g' w1:=bS5 hnt g' w1 es (by rw[hg];exact e);rw[e]at hst;generalize hr2:stepG p true (G x (xs++[dmF p])) W=r2 at hst;cases hst with
   |@go x' xs' C' _ _ hx' hxs' ho=>
    have hr':=a19 hrun hr2 hr;refine ih (i+1) x' xs' C' (by rw[hnx]) hx' hxs' (by rw[hnx];exact hnt') (λj hj=>?_) (by rw[hnx];exact ho.wr) (by rw[hnx];exact bZ8 λb=>ho.heq b (by rw[hh];rfl)) (ho.tc.trans hT) (by rw[hnx];exact ho.tl.trans hT0) ?_ hr'
    ·rcases uk j i with h'|h'
     ·exact hgo j h'
     ·obtain rfl:j=i:=by omega
      exact hG
    ·rw[hpos,ho.dr.2,hd];rfl
   |at6 hf _=>exact hf rfl
   |ret he hm ho=>
    have e3:∀(w:World)(v:Value),doReturn p true x [dmF p] none v w=.go (G ((dmF p).finish v) []) w:=λw v=>by simp only[doReturn,hx.kind];rfl
    rw[e3,ac8]at hr2;exact bS6 (f:=f) (x:=x) (a19 hrun hr2 hr)
   |bad hb=>
    cases hb with
    |panic hm' _=>exact hm _ hm'
  ·
   have hst:=aL7 (mT:=true) (mP:=true) (C:=q.2.at (badD p Stop q)) (L:=W) (c:=dmF p) (csT:=[]) (csP:=[dmF p]) h hx hxs (by
    have:=hw.bz3 hh
    exact⟨this.os,this.out,this.size,this.blk,this.nv,this.np,this.lp⟩) (λb _=>by rw[hh];rfl) (λg2 L2 es2 e2 k hk=>by
    have:=bG0 (p:=p) (Stop:=Stop) (s:=s) hgo k (.inr hG)
    rw[hT,hd,this,hq];show q.2.tape _=_;rw[hT0];rfl)
   generalize hr2:stepG p true (G x (xs++[dmF p])) W=r2 at hst;generalize hr3:stepG p true (G x (xs++[dmF p])) (q.2.at (badD p Stop q))=r3 at hst;cases hst with
   |@go x' xs' C' L' es hx' hxs' ho=>
    refine hG ?_;unfold bk0 bU4;rw[hq,hg];refine⟨_,_,_,hr3,λch hc=>?_⟩;rcases hx'.mode with h|h<;>exact absurd (h.symm.trans hc) (by simp)
   |at6 hf _=>exact hf rfl
   |ret he hm ho=>exact bS6 (f:=f) (x:=x) (a19 hrun hr2 hr)
   |bad hb=>
    cases hb with
    |ended=>
     simp only[runN,am5 hrun hr2]at hr;cases hr
    |panic hm' hd'=>
     obtain⟨g2,w2,e2,hlost⟩:=bf5 (P:=p) k (.fr hm' hd' λy hy=>⟨(hxs y hy).defers,(hxs y hy).mode⟩) (a19 hrun hr2 hr);have e4:g2=G fr [dmF p]:=by
      simp only[solo,lone,Machine.mk.injEq,Array.mk.injEq,List.cons.injEq,laf,lar]at e2;exact e2.2.symm
     rw[e4]at hlost;obtain⟨ch,hc⟩:=hlost.mode;exact absurd (hl.1.symm.trans hc) (by simp)
theorem aZ8(h:Pair p p){f:FuncId}(hJ:LoopOK.fn f){args:Array Value}{w:World}{Q:Value->World->Prop}(hw:WR w w)
  (hC:∀T,Calls p f args {w with tape:=T} λe w'=>∃v,e=.returned v/\Q v w') (hQ:∀v (w1 w2:World),w1.heap=w2.heap->w1.os=w2.os->w1.output=w2.output->Q v w1->Q v w2)
  {fn:Func}(hf:p.funcs[f]?=some fn) (hres:∀tmps,∃v,∀w,(results fn tmps).run p w=.ok v w):Tree p (AtRet p f Q) (G (Frame.enter p f args .normal) [dmF p]) w:=by
 refine lz λhn=>?_
 obtain⟨e,w',fr,⟨v,rfl,hQv⟩,⟨N,hN⟩,hfn,hl⟩:=hC (bG1 p (AtRet p f Q) (G (Frame.enter p f args .normal) [dmF p],w)) [dmF p];exact road h (s:=(G (Frame.enter p f args .normal) [dmF p],w)) hfn hl hQv hQ (λfn' hf'=>by rw[hf]at hf';cases hf';exact hres) N 0 (Frame.enter p f args .normal) []
  {w with tape:=bG1 p (AtRet p f Q) (G (Frame.enter p f args .normal) [dmF p],w)} rfl (aM8 h hJ hf args) (by simp) hn (by simp) ⟨hw.os,hw.out,hw.size,hw.blk,hw.nv,hw.np,hw.lp⟩ rfl rfl rfl rfl hN
end
end Hid
namespace Hid
open Go.RowKit Go.Conc
variable [LoopOK] [Junk]
open Go.ConcN (sumTo upd sumTo_upd upd_ne upd_same)
def Wins(P:Program)(Post:Value->World->Prop)(m:Machine)(t:Trace):Prop:=
 ∃N last o w' t',runNT P (N+1) m t=(.ended o w',t')/\runN P N m=.next last/\step P last=.ended o w'/\Go.Conc.Good P Post last o w' t'
section
variable {P:Program}{Post:Value->World->Prop}{Shun:Loc->Prop}
theorem Wins.step{m m':Machine}{t:Trace}{ops:Array MemOp}(h:stepT P m=(.next m',ops))(hw:Wins P Post m' (t++ops)):Wins P Post m t:=by
 obtain⟨N,last,o,w',t',h1,h2,h3,h4⟩:=hw;exact⟨N+1,last,o,w',t',by rw[runNT_succ_next h];exact h1,by rw[runN_succ_next h];exact h2,h3,h4⟩
theorem bq0:∀(M:Nat){B:Nat}{gs:Array Goroutine}{a:Goroutine}{C:World}{sl:Option (Nat×Nat)}{t:Trace}{q:Nat->Nat},sumTo gs.size q<=M->gs[0]?=some a->a.status=.running->Leavers P t gs q->Past Shun B t->
  (∀d,∃a' C' es B',stepG P true a (C.at d)=.go a' C' es/\(∀e∈es,EvL Shun B' e)/\B<=B'/\
   ∀gs' sl' t' q',gs'[0]?=some a'->gs'.size=gs.size->Leavers P t' gs' q'->Past Shun B' t'->Wins P Post (crowd gs' C' sl') t')->Wins P Post (crowd gs C sl) t:=by
 intro M;induction M with
 |zero|succ M ih=>?_
 all_goals
  intro B gs a C sl t q hM h0 hrun hL hP hstep;have haw:∀g∈gs,awake g:=by
   intro g hg;obtain⟨i,hi,rfl⟩:=ui.1 hg;rcases xB i with rfl|hpos
   ·have:gs[0]=a:=by simpa[lF hi]using h0
    rw[this];exact awake_of (.inl hrun)
   ·exact awake_of ((hL.old i _ hpos (lF hi)).status.elim .inl λx=> .inr (.inr x))
  obtain⟨i,g,d,sl',hi,hg,hst⟩:=crowd_pick (P:=P) (w:=C) (sl:=sl) haw ⟨0,a,h0,hrun⟩;rcases xB i with rfl|hpos
  ·obtain rfl:g=a:=by rw[h0]at hi;exact(sj hi).symm
   obtain⟨a',C',es,B',hgo,hev,hB,hk⟩:=hstep d;have hrunT:=runT_crowd_go (P:=P) (sl:=sl') (i:=0) hi (show stepG P (0==0) g (C.at d)=_ from hgo);have hlt:0<gs.size:=(li.1 h0).1;refine .step (hst.trans hrunT) (hk _ _ _ q (by simp[hlt]) (by simp) ⟨λj x hj hx=>?_,λj hj=>?_⟩ ((hP.mono hB).own hev))
   ·have hne:0≠j:=by omega
    rw[lj hne,xc]at hx;obtain⟨y,hy,rfl⟩:=xl.1 hx;have hq:=hL.old j y hj hy;rw[woken_quitsD hq,Deaf_other t (by omega) _ (λop hop=>by obtain⟨e,_,rfl⟩:=lJ hop;rfl)];exact hq
   ·rw[Deaf_other t (g':=0) (by simp at hj;omega) _ (λop hop=>by obtain⟨e,_,rfl⟩:=lJ hop;rfl)];exact hL.above j (by simpa using hj)
  ·have hq:=hL.old i g hpos hi;have hi0:(i==0)=false:=by simp;omega
   have hlt:i<gs.size:=(li.1 hi).1;cases hqi:q i with
   |zero=>rw[hqi]at hq;rw[hq.1]at hg;cases hg
   |succ k=>
    rw[hqi]at hq;rcases hq with⟨hf,_⟩|⟨_,g',es,hm,hstp,hq'⟩
    ·rw[hf]at hg;cases hg
    have hsum:sumTo gs.size (upd q i k)+(k+1)=sumTo gs.size q+k:=by
     have:=sumTo_upd q k id hlt
     simpa[hqi]using this
    first
    |(exfalso;omega)
    |(have hrunT:=runT_crowd_go (P:=P) (sl:=sl') (i:=i) hi (by rw[hi0];exact hstp (C.at d))
      have hsz:((gs.map (woken P g g' (C.at d))).setIfInBounds i g').size=gs.size:=by simp
      refine .step (hst.trans hrunT) (ih (B:=B) (a:=a) (q:=upd q i k) (by rw[hsz];omega) ?_ hrun ⟨λj x hj hx=>?_,λj hj=>?_⟩ (hP.mute (by omega) hm) λe=>?_)
      ·have hne:i≠0:=by omega
       rw[lj hne,xc,h0];simp[woken_run hrun]
      ·by_cases hji:i=j
       ·subst hji;rw[lm (by simpa using hlt)]at hx;obtain rfl:=sj hx
        rw[upd_same,Deaf_own];exact hq'
       ·rw[lj hji,xc]at hx;obtain⟨y,hy,rfl⟩:=xl.1 hx;have hqj:=hL.old j y hj hy;rw[woken_quitsD hqj,upd_ne q k (xG hji),Deaf_other t hji _ (λop hop=>by obtain⟨e,_,rfl⟩:=lJ hop;rfl)];exact hqj
      ·rw[Deaf_other t (g':=i) (by simp at hj;omega) _ (λop hop=>by obtain⟨e,_,rfl⟩:=lJ hop;rfl)];exact hL.above j (by simpa using hj)
      ·obtain⟨a',C',es',B',h1,h2,h3,h4⟩:=hstep e;exact⟨a',C',es',B',h1,h2,h3,λgs' sl' t' q' g0 gz=>h4 gs' sl' t' q' g0 (gz.trans hsz)⟩)
theorem ct0{L:World}(hs:∀l,Shun l->∃a T fz,l=.cell a/\L.heap[a.block]?=some (.cells #[] T fz)){e:Event}(he:EvOK L e):EvL Shun L.heap.size e:=by
 obtain⟨loc,wr,sy⟩:=e;have lt:∀{b:Nat}{o:Obj},L.heap[b]?=some o->b<L.heap.size:=λh=>(li.1 h).1
 cases loc with
 |cell a=>
  obtain⟨c,T,fz,h1,h2⟩:=he;refine⟨λx hx hsh=>?_,by simp,by simp,?_⟩
  ·rw[ofEvent_cell0]at hx;simp only[MemAct.touch?,sk]at hx;subst hx;obtain⟨a',T',fz',e1,e2⟩:=hs _ hsh;cases e1;rw[h1]at e2;cases e2;simp at h2
  ·rw[ofEvent_cell0];exact lt h1
 |obj r=>
  obtain⟨o,h1,h2,_⟩:=he;refine⟨λx hx hsh=>?_,by simp,by simp,by cases wr<;>cases sy<;>exact lt h1⟩;have hl:x.loc=.obj r:=by cases wr<;>cases sy<;>simp[MemAct.ofEvent,MemAct.touch?]at hx<;>subst hx<;>rfl
  obtain⟨a',T',fz',e1,_⟩:=hs _ hsh;rw[hl]at e1;cases e1
 |mark m=>
  cases m<;>first|exact he.elim|skip
  refine⟨λx hx hsh=>?_,by simp,by simp,trivial⟩;simp[MemAct.ofEvent,MemAct.touch?]at hx
 |output=>exact he.elim
 |goroutines=>exact he.elim
end
inductive Later(p:Program):Goroutine->World->Goroutine->World->Prop
 |refl (g:Goroutine) (w:World):Later p g w g w
 |step {g:Goroutine}{w:World}{d:Nat}{g':Goroutine}{w':World}{es:Array Event}{g2:Goroutine}{w2:World}(h:stepG p true g (w.at d)=.go g' w' es) (r:Later p g' w' g2 w2):Later p g w g2 w2
theorem Later.trans{p:Program}{a b c:Goroutine}{u v w:World}(h:Later p a u b v)(k:Later p b v c w):Later p a u c w:=by
 induction h with
 |refl=>exact k
 |step h _ ih=>exact .step h (ih k)
structure Sit(P:Program)(B0:Nat)(Shun:Loc->Prop)(B:Nat)(gs:Array Goroutine)(C L:World)(t:Trace)(q:Nat->Nat):Prop where
 lv:Leavers P t gs q
 past:Past Shun B t
 wr:WR C L
 low:B<=L.heap.size
 shun:∀l,Shun l->∃a T fz,l=.cell a/\L.heap[a.block]?=some (.cells #[] T fz)
 tape:C.tape=L.tape
 old:∀b:Nat,b<B0->C.heap[b]?=U b L.heap[b]?
 big:B0<=L.heap.size
def Claim(p P:Program)(B0:Nat)(Post:Value->World->Prop)(g:Goroutine)(L:World):Prop:=
 ∀(x:Frame)(xs:List Frame),g=G x (xs++[dmF p])->FrOK p P x->(∀y∈xs,FrOK p P y)->∀(Shun:Loc->Prop)(B:Nat)(gs:Array Goroutine)(C:World)(sl:Option (Nat×Nat))(t:Trace)(q:Nat->Nat),
  Sit P B0 Shun B gs C L t q->gs[0]?=some (G x xs)->Wins P Post (crowd gs C sl) t
def cu7(p P:Program)(B0:Nat)(Post:Value->World->Prop)(Stop:Goroutine->World->Prop)(f:FuncId):Prop:=
 ∀(args:Array Value)(x:Frame)(xs:List Frame)(Shun:Loc->Prop)(B:Nat)(gs:Array Goroutine)(C L:World)(sl:Option (Nat×Nat))(t:Trace)(q:Nat->Nat),
  FrOK p P x->(∀y∈xs,FrOK p P y)->Sit P B0 Shun B gs C L t q->gs[0]?=some (G (Frame.enter P f args .normal) (x::xs))->Tree p Stop (G (Frame.enter p f args .normal) (x::xs++[dmF p])) L->
  (∀g' L',Later p (G (Frame.enter p f args .normal) (x::xs++[dmF p])) L g' L'->Claim p P B0 Post g' L')->Wins P Post (crowd gs C sl) t
theorem br7{L L':World}(h:Stay L L'){b:Nat}{T:TypeId}{fz:Nat×Nat}(hb:L.heap[b]?=some (.cells #[] T fz)):∃fz',L'.heap[b]?=some (.cells #[] T fz'):=by
 obtain⟨c',fz',h1,h2⟩:=h.row b _ _ _ hb;obtain rfl:c' = #[]:=xZ.1 (by simpa using h2)
 exact⟨fz',h1⟩
section
variable {p P:Program}{B0:Nat}{Post:Value->World->Prop}{f:FuncId}{Q:Value->World->Prop}
theorem aQ2{g:Goroutine}{w:World}(ht:Tree p (AtRet p f Q) g w):¬ Lost p P g:=by
 induction ht with
 |stop h=>
  intro hl;obtain⟨fr,v,rfl,_,⟨hm,_⟩,_⟩:=h;obtain⟨ch,hc⟩:=hl.mode;exact absurd (hm.symm.trans hc) (by simp)
 |@step g w nx h _ ih=>
  intro hl;obtain⟨es,e⟩:=h 0;rcases bf4 hl (w.at 0)with⟨o,w',es',e'⟩|⟨g',e',hl'⟩
  ·rw[e]at e';cases e'
  ·rw[e]at e';simp only[GStep.go.injEq]at e';exact ih 0 (e'.1▸hl')
theorem ch6{v:Value}{w:World}(ht:Tree p (AtRet p f Q) (G ((dmF p).finish v) []) w):False:=by
 cases ht with
 |stop h=>
  obtain⟨fr,v,e,_⟩:=h;simp[G]at e
 |step nx h _=>
  obtain⟨es,e⟩:=h 0;obtain⟨o,w',es',e'⟩:=bp4 p v (w.at 0);rw[e]at e';cases e'
theorem bB7{v:Value}{w:World}{g:Goroutine}{w':World}(h:Later p (G ((dmF p).finish v) []) w g w'):g=G ((dmF p).finish v) []:=by
 cases h with
 |refl=>rfl
 |@step _ _ d _ _ _ _ _ h _=>
  obtain⟨o,w',es',e'⟩:=bp4 p v (w.at d);rw[h]at e';cases e'
theorem Sit.step{P:Program}{Shun:Loc->Prop}{B:Nat}{gs:Array Goroutine}{C L:World}{t:Trace}{q:Nat->Nat}(h:Sit P B0 Shun B gs C L t q)(d:Nat){C' L':World}{es:Array Event}(ho:Out (C.at d) (L.at d) C' L' #[] es)
  {gs':Array Goroutine}{t':Trace}{q':Nat->Nat}(hl:Leavers P t' gs' q') (hp:Past Shun L'.heap.size t'):Sit P B0 Shun L'.heap.size gs' C' L' t' q':=by
 refine⟨hl,hp,ho.wr,lh _,λl hs=>?_,?_,λb hb=>ho.old b (h.old b hb),lU h.big ho.stay.size⟩
 ·obtain⟨a,T,fz,e,hb⟩:=h.shun l hs;obtain⟨fz',hb'⟩:=br7 ho.stay hb;exact⟨a,T,fz',e,hb'⟩
 ·rw[ho.tc,ho.tl];exact h.tape
theorem Sit.ev{P:Program}{Shun:Loc->Prop}{B:Nat}{gs:Array Goroutine}{C L:World}{t:Trace}{q:Nat->Nat}(h:Sit P B0 Shun B gs C L t q)(d:Nat){C' L':World}{es:Array Event}(ho:Out (C.at d) (L.at d) C' L' #[] es):(∀e∈es,EvL Shun L'.heap.size e)/\B<=L'.heap.size:=by
 refine⟨λe he=>ct0 (λl hs=>?_) ?_,lU h.low ho.stay.size⟩
 ·obtain⟨a,T,fz,e,hb⟩:=h.shun l hs;obtain⟨fz',hb'⟩:=br7 ho.stay hb;exact⟨a,T,fz',e,hb'⟩
 ·obtain⟨ns,e1,h1⟩:=ho.evs;rw[e1]at he;exact h1 e (by simpa using he)
theorem bE1(h:Pair p P)(hB0:GB p B0){f6:FuncId}(hgo:cu7 p P B0 Post (AtRet p f Q) f6)
  (hsp:∀(k:FuncId),P.funcs[k]?≠p.funcs[k]?->(k=f6/\∃Fn:Func,P.funcs[k]?=some Fn/\Fn.body.isSome)\/∃fn s,p.funcs[k]?=some fn/\fn.body=some (.refuse s))
  (hin:P.inits.idxOf? f=none) {fn:Func}(hf:p.funcs[f]?=some fn) (hres:∀tmps,∃v,∀(q:Program)(w:World)(es:Array Event),(results fn tmps).runT q w es=(.ok v w,es))
  (hPost:∀v (C L:World),WR C L->(∀b:Nat,b<B0->C.heap[b]?=U b L.heap[b]?)->Q v L->Post v C)
  {g:Goroutine}{L:World}(ht:Tree p (AtRet p f Q) g L):∀g' L',Later p g L g' L'->Claim p P B0 Post g' L':=by
 induction ht with
 |@stop g L hs=>
  have hs':=hs;obtain⟨fr,v,rfl,hfn,hl,hQ⟩:=hs;intro g' L' hlat;have key:Claim p P B0 Post (G fr [dmF p]) L:=by
   intro x xs hg hx hxs Shun B gs C sl t q hsit h0;simp only[G,Goroutine.mk.injEq,laf,lar]at hg;obtain⟨rfl,hxs'⟩:=hg;obtain rfl:xs=[]:=by simpa using hxs'
   obtain⟨hm,hd,hk,fn',hfn',hr⟩:=hl;obtain rfl:fn'=fn:=by rw[hfn,hf]at hfn';exact(sj hfn').symm
   obtain⟨Fn,hF,hE⟩:∃Fn,P.funcs[fr.fn]?=some Fn/\Fn.results=fn'.results:=by
    obtain⟨b,Fn,_,hF,hE⟩:=h.twin.fn _ _ hfn';exact⟨Fn,hF,by rw[hE]⟩
   obtain⟨v',hv'⟩:=hres fr.tmps;obtain rfl:v'=v:=by
    rw[<-Sem.runT_fst p _ L #[],hv']at hr;cases hr;rfl
   refine beside_ends (D:=λ_ _ _=>False) (n:=0) (λ_ _ _ hf=>hf.elim) h0 hsit.lv hsit.past (λw₁ hw₁=>?_);obtain⟨d,rfl⟩:=hw₁;refine⟨rfl,v',#[],?_,by simp,hPost _ _ L ⟨hsit.wr.os,hsit.wr.out,hsit.wr.size,hsit.wr.blk,hsit.wr.nv,hsit.wr.np,hsit.wr.lp⟩ hsit.old hQ⟩;have hin':P.inits.idxOf? fr.fn=none:=by rw[hfn];exact hin
   have e:∀w,stepG P true (G fr []) w=GStep.after (seen P fr.fn #[]) (.ended (.done v') w):=λw=>by
    simp only[stepG,G,hm,unwind,hd];rw[hF];simp only[aw4 (a:=Fn) (b:=fn') fr.tmps hE,hv',doReturn,hk,hin'];rfl
   rw[e];rfl
  cases hlat with
  |refl=>exact key
  |@step _ _ d g1 w1 es _ _ e r=>
   obtain⟨hm,hd,hk,fn',hfn',hr⟩:=hl;obtain rfl:fn'=fn:=by rw[hfn,hf]at hfn';exact(sj hfn').symm
   obtain⟨v',hv'⟩:=hres fr.tmps;have e2:∀w,stepG p true (G fr [dmF p]) w=GStep.after (seen p fr.fn #[]) (.go (G ((dmF p).finish v') []) w):=λw=>by
    simp only[stepG,G,hm,unwind,hd];rw[hfn'];simp only[hv',doReturn,hk]
   rw[e2,ac8]at e;simp only[GStep.go.injEq]at e;obtain⟨rfl,rfl,_⟩:=e;intro x xs hg;rw[bB7 r]at hg;simp[G]at hg
 |@step g L nx hst htr ih=>
  intro g' L' hlat;cases hlat with
  |@step _ _ d g1 w1 es _ _ e r=>
   obtain⟨es',e'⟩:=hst d;rw[e]at e';simp only[GStep.go.injEq]at e';obtain⟨rfl,rfl,_⟩:=e';exact ih d g' L' r
  |refl=>
   intro x xs hg hx hxs Shun B gs C sl t q hsit h0;subst hg;refine bq0 (sumTo gs.size q) (lh _) h0 rfl hsit.lv hsit.past λd=>?_
   obtain⟨es,e⟩:=hst d;have htr':=htr d;have ih':=ih d;have hstp:=aL7 (mT:=true) (mP:=true) (C:=C.at d) (L:=L.at d) (c:=dmF p) (csT:=[]) (csP:=[]) h hx hxs ⟨hsit.wr.os,hsit.wr.out,hsit.wr.size,hsit.wr.blk,hsit.wr.nv,hsit.wr.np,hsit.wr.lp⟩ (hsit.wr.gl hB0 hsit.old) (λg2 L2 es2 _ i _=>by
    show C.tape _=L.tape _;rw[hsit.tape];rfl)
   rw[e]at hstp;rw[uT]at hstp;generalize hr:stepG P true (G x xs) (C.at d)=r at hstp;generalize hn:nx d=n at *
   obtain⟨g1,L1⟩:=n;simp only at hstp htr' ih'
   cases hstp with
   |@go x' xs' C' _ _ hx' hxs' ho=>
    refine⟨G x' (xs'++[]),C',es,L1.heap.size,rfl,(hsit.ev d ho).1,(hsit.ev d ho).2,λgs' sl' t' q' g0 _ hl hp=>?_⟩;exact ih' _ _ (.refl _ _) x' xs' rfl hx' hxs' Shun _ gs' C' sl' t' q' (hsit.step d ho hl hp) (by rw[g0,uT])
   |@at6 k args _ _ _ hne _ _ hr'=>
    rcases hsp k hne with⟨rfl,Fn,hF,hb⟩|⟨fn1,s,hfn1,hb⟩
    ·rcases hr' with⟨Fn',hF',hb'⟩|⟨C',rfl,ho⟩
     ·rw[hF]at hF';cases hF';rw[hb']at hb;cases hb
     ·refine⟨_,C',es,L1.heap.size,rfl,(hsit.ev d ho).1,(hsit.ev d ho).2,λgs' sl' t' q' g0 _ hl hp=>?_⟩;exact hgo args x xs Shun _ gs' C' L1 sl' t' q' hx hxs (hsit.step d ho hl hp) (by rw[g0,uT]) htr' λg2 L2 hl2=>ih' g2 L2 hl2
    ·exfalso;cases htr' with
     |stop hs=>
      obtain⟨fr,v,e3,_,⟨hm,_⟩,_⟩:=hs;simp only[G,Goroutine.mk.injEq]at e3;rw[<-e3.1]at hm;cases hm
     |step nx2 h2 _=>
      obtain⟨es2,e3⟩:=h2 0;simp only[stepG,G,Frame.enter,hfn1,lan,hb,lZ,stepG.exec]at e3;cases e3
   |ret he hm ho=>exact(ch6 htr').elim
   |bad hb=>
    cases hb with
    |panic hm hd=>exact(aQ2 (P:=P) htr' (.fr hm hd λy hy=>⟨(hxs y hy).defers,(hxs y hy).mode⟩)).elim
end
end Hid
namespace Hid
open Go.RowKit Go.Conc
variable [LoopOK] [Junk]
structure AtOp(x:Frame)(o:Oper):Prop where
 mode:x.mode=.run
 kind:x.kind=.normal
 round:x.roundOf=none
 todo:∃ops i rest k,x.todo=.inRegion ops (i::rest)::k/\ops[i]?=some o/\o.guard=none
section
variable {p P:Program}{x y:Frame}{o:Oper}
theorem AtOp.step(h:AtOp x o)(q:Program)(m:Bool)(cs:List Frame)(w:World):stepG q m (G x cs) w=stepG.apply q true x cs none (execOp x.eval o) w:=by
 obtain⟨hm,_,hr,ops,i,rest,k,ht,ho,hg⟩:=h;have hw:(((ops[i]?).map (Region.wanted · (yielded ops x.tmps))).getD false)=true:=by
  rw[ho];simp[Region.wanted,hg]
 have ho':x.oper?=some o:=by simp only[Frame.oper?,ht,ho]
 simp only[stepG,G,hm,stepG.exec,ht,hw,xj,stepG.oper,ho',hr]
theorem AtOp.cr1(h:AtOp x o):∀d b r sv k,x.todo≠.call d b r sv::k:=by
 obtain⟨_,_,_,ops,i,rest,k,ht,_,_⟩:=h;intro d b r sv k e;rw[ht]at e;simp at e
theorem AtOp.go(h:AtOp x o){q:Program}{m:Bool}{cs:List Frame}{w w':World}{n:Next}{es:Array Event}(hr:(execOp x.eval o).runT q w #[]=(.ok n w',es))(hp:PlainN n):
  stepG q m (G x cs) w=match n with
   |.value v=> .go (G (x.finish v) cs) w' (seen q x.fn es)
   |.enter f args=> .go (G (Frame.enter q f args .normal) (x::cs)) w' (seen q x.fn es)
   |_=> .go (G (x.finish undef) cs) w' (seen q x.fn es):=by
 have hearly:(x.kind==CallKind.early)=false:=by rw[h.kind];rfl
 have hk:=h.cr1;rw[h.step];unfold stepG.apply;simp only[hr,xj,hearly,lH,xn];cases hp<;>simp only[ac8]
 ·rfl
 ·rfl
 ·split
  ·rename_i e;exact(hk _ _ _ _ _ e).elim
  ·rfl
theorem AtOp.inv(h:AtOp x o)(hP:Pair p P)(hT:OpT p P o){m:Bool}{cs:List Frame}{L L':World}{g':Goroutine}{es:Array Event}(hw:WR L L)
  (e:stepG p m (G x cs) L=.go g' L' es) (hn:∀ch,g'.frame.mode≠.panicking ch):∃n es0,(execOp x.eval o).runT p L #[]=(.ok n L',es0)/\PlainN n/\es=seen p x.fn es0:=by
 have hearly:(x.kind==CallKind.early)=false:=by rw[h.kind];rfl
 cases hr:(execOp x.eval o).runT p L #[]with
 |mk r es0=>
  cases r with
  |ok n w=>
   have hp:=((hT x.eval λ_=>rfl).plain hP hw hr).1;have e2:=h.go (m:=m) (cs:=cs) hr hp;rw[e]at e2;refine⟨n,es0,?_,hp,?_⟩
   ·cases hp<;>(simp only[GStep.go.injEq]at e2;rw[e2.2.1])
   ·cases hp<;>(simp only[GStep.go.injEq]at e2;exact e2.2.2)
  |halt hh w=>
   exfalso;have hn':=(hT x.eval λ_=>rfl).bP6 hP.twin hw hr;rw[h.step]at e;unfold stepG.apply at e;simp only[hr,xj,hearly,lH,xn]at e;cases hn' with
   |panic v=>
    simp only[ac8,GStep.go.injEq]at e;rw[<-e.1]at hn;have:x.raise [{v,recovered:=false}]={x with mode:= .panicking [{v,recovered:=false}]}:=by
     unfold Frame.raise;rw[h.mode]
    exact hn [{v,recovered:=false}] (by simp only[this])
   |uns u hu=>cases u<;>first|(simp[GStep.after]at e;done)|exact absurd rfl (hu _)
   |stuck s=>simp[GStep.after]at e
end
end Hid
namespace Hid
open Go.RowKit Go.Conc
open Go.ConcN (sumTo)
variable [LoopOK] [Junk]
inductive Idle(q:Program):Frame->Frame->Prop
 |refl (x:Frame):Idle q x x
 |step {x y z:Frame}(hm:x.mode=.run) (h:∀m cs w,stepG q m (G x cs) w=.go (G y cs) w #[]) (r:Idle q y z):Idle q x z
theorem Idle.trans{q:Program}{x y z:Frame}(h:Idle q x y)(k:Idle q y z):Idle q x z:=by
 induction h with
 |refl=>exact k
 |step hm h _ ih=>exact .step hm h (ih k)
section
variable {p P:Program}{f:FuncId}{Q:Value->World->Prop}{Post:Value->World->Prop}{Shun:Loc->Prop}
theorem au4{x:Frame}{cs:List Frame}{L:World}(hm:x.mode=.run):¬ AtRet p f Q (G x cs) L:=by
 rintro⟨fr,v,e,_,⟨h,_⟩,_⟩;simp only[G,Goroutine.mk.injEq]at e;rw[<-e.1,hm]at h;cases h
theorem Tree.adv{g g':Goroutine}{L L':World}{d:Nat}{es:Array Event}(ht:Tree p (AtRet p f Q) g L)(hn:¬ AtRet p f Q g L)(e:stepG p true g (L.at d)=.go g' L' es):Tree p (AtRet p f Q) g' L':=by
 cases ht with
 |stop h=>exact absurd h hn
 |step nx h ih=>
  obtain⟨es',e'⟩:=h d;rw[e]at e';simp only[GStep.go.injEq]at e';obtain⟨rfl,rfl,_⟩:=e';exact ih d
theorem Tree.goes{g:Goroutine}{L:World}(ht:Tree p (AtRet p f Q) g L)(hn:¬ AtRet p f Q g L)(d:Nat):∃g' L' es,stepG p true g (L.at d)=.go g' L' es/\Tree p (AtRet p f Q) g' L'/\Later p g L g' L':=by
 cases ht with
 |stop h=>exact absurd h hn
 |step nx h ih=>
  obtain⟨es,e⟩:=h d;exact⟨_,_,es,e,ih d,.step e (.refl _ _)⟩
end
end Hid
end Go.Proofs.YtnhecfkpiojmhaaGreat
