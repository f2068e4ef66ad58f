import Derived.Test.YtnhecfkpiojmhaaGreatM7
set_option maxRecDepth 100000
set_option linter.all false
noncomputable section
/- Part 8. -/
namespace Go.Proofs.YtnhecfkpiojmhaaGreat
namespace Trp
open Go.RowKit Sx Num Aff Con Rga Wid
structure WiG where
 n:Nat
 f:Nat->Int
 r:Nat
def byS(n:Nat)(f:Nat->Int):SV:= .sl n 1 (λj _=> .int .u8 (f j))
def byR(n:Nat)(f:Nat->Int):SO:= .row 0 n 1 (λj _=> .int .u8 (f j)) 5
structure WiG.Ok(g:WiG):Prop where
 n:g.n<=1073741824
 r:g.r<=1073741824
 f:∀j<g.n,0<=g.f j
def quR(Q:Qu):SO:= .row 0 Q.m 1 (λj _=> .int .i64 (Q.q j)) 3
def wiO(g:WiG)(i:Nat):SO:=byR g.n (λj=>bif decide (j<i)then wid g.f g.n g.r j else 0)
structure W1 where
 i:Nat
 nx:Nat
 Q:Qu
structure W2 where
 nx:Nat
 Q:Qu
def wiT(g:WiG)(i nx:Nat):List (Nat×SV):=[(0,byS g.n g.f),(1,.int .i64 g.r),(5,.osl 0 0),(6,.osl 1 0),(7,.int .i64 nx),(13,.int .i64 g.n),(14,.int .i64 i)]
def wiT8(g:WiG)(i nx:Nat):List (Nat×SV):=[(0,byS g.n g.f),(1,.int .i64 g.r),(5,.osl 0 0),(6,.osl 1 0),(7,.int .i64 nx),(8,.int .i64 i),(13,.int .i64 g.n),(14,.int .i64 i)]
def wi1(g:WiG):Inv:=⟨W1,λs=>s.i<=g.n/\s.nx<=g.n/\s.nx<=s.i+g.r/\Wp g.f s.Q (s.i-g.r) s.nx False,λs=>⟨wiT g s.i s.nx,[wiO g s.i,quR s.Q]⟩,λs=>g.n-s.i⟩
def wi2(g:WiG)(s:W1):Inv:=⟨W2,λt=>s.i<g.n/\t.nx<=g.n/\t.nx<=s.i+g.r+1/\Wp g.f t.Q (s.i-g.r) t.nx False,λt=>⟨wiT8 g s.i t.nx,[wiO g s.i,quR t.Q]⟩,λt=>g.n-t.nx⟩
def wi3(g:WiG)(s:W1)(t:W2):Inv:=⟨Qu,λQ=>s.i<g.n/\t.nx<g.n/\t.nx<=s.i+g.r/\Wp g.f Q (s.i-g.r) t.nx True,λQ=>⟨wiT8 g s.i t.nx,[wiO g s.i,quR Q]⟩,λQ=>Q.m⟩
def wi4(g:WiG)(s:W1):Inv:=⟨W2,λt=>s.i<g.n/\t.nx=min g.n (s.i+g.r+1)/\Wp g.f t.Q (s.i-g.r) t.nx False,λt=>⟨wiT8 g s.i t.nx,[wiO g s.i,quR t.Q]⟩,λt=>t.Q.m⟩
def cl5:FSpec:=bZ1 83 (γ:=WiG) (λ| [.sl n _ f,.int _ r]=>some ⟨n,λj=>Sx.intOf (f j 0),r.toNat⟩|_=>none) (λg=>[byS g.n g.f,.int .i64 g.r]) WiG.Ok
 (λg=>byR g.n (wid g.f g.n g.r))
theorem two{p q X B C:Prop}(h1:p->X)(h2:p->q->B)(h3:¬ (p/\q)->C):(p->X/\(q->B)/\(¬ q->C))/\(¬ p->C):=⟨λhp=>⟨h1 hp,h2 hp,λhq=>h3 λh=>hq h.2⟩,λhp=>h3 λh=>hp h.1⟩
theorem cp5:aa5 Tw.prog cl5:=by
 refine bc6 (specs:=[]) (av3 trivial) (eqs:=[]) (λ_ _ h=>(xi h).elim) Aff.mixed Tw.func83 rfl (by kernel_rfl) (λ_ _=>by kernel_rfl) (λg=>(⟨[(5,.nest (wi1 g) (λs=>[(7,.nest (wi2 g s) (λt=>[(9,.inv (wi3 g s t))])),(12,.inv (wi4 g s))]))],[(4,[.own 6 3 1]),(1000010,[.shrink 6]),(1000013,[.shrink 6])]⟩:Ann)) (λg=>0) (λg=>lN (by kernel_rfl)) (λ_ _ _ _ _=>trivial) ?_;rintro g hg;refine ac7 (B:=let T2:=λp:Prop=>Tt/\Tt/\p;let T3:=λp:Prop=>Tt/\Tt/\Tt/\p;let T4:=λp:Prop=>Tt/\Tt/\Tt/\Tt/\p;let U:=Int.ofNat;let J:=Int.toNat;let K:=Br;let A:=Aq;let z22:=(0:Nat);let z21:=(1:Nat);let z19:=(↑g.r:Int);let z15:=(IntKind.u8=IntKind.u8);let z14:=(1:Int);let z13:=(↑g.n:Int);let z10:=(-9223372036854775808:Int);let z9:=(9223372036854775807:Int);let z8:=(0:Int);let z2:=(A (g.n=g.n)/\∀i:Nat,i<g.n->Tt/\A z15/\A (g.f i=g.f i));let z1:=(IntKind.i64=IntKind.i64);let q1:=λp:Int=>A z1/\A (p=p);let z5:=(q1 z13);let z4:=(q1 z19);T3 (A (z8<=z13/\z13<=z13/\(↑z21:Int)*z13<=(140737488355328:Int)/\z13<=z9)/\T4 (T2 ((∃g_1:W1,A ((wi1 g).pre g_1)/\(z2/\z4/\T2 ((A z1/\A (z8=(↑g_1.nx:Int)))/\z5/\(A z1/\A (z8=(↑g_1.i:Int)))/\Tt))/\(A (z13.toNat=g.n)/\∀i:Nat,i<g.n->Tt/\A z15/\A (z8=bif decide (i<g_1.i)then Wid.wid g.f g.n g.r i else z8))/\(A (z22=g_1.Q.m)/\∀i:Nat,i<g_1.Q.m->Tt/\False)/\Tt)/\∀g_1:W1,let z25:=(wi2 g g_1);let z24:=(wi4 g g_1);let z7:=(↑g_1.i:Int);let z3:=(q1 z7);let z0:=(A (g.n=g.n)/\∀i:Nat,i<g.n->Tt/\A z15/\A ((bif decide (i<g_1.i)then Wid.wid g.f g.n g.r i else z8)=bif decide (i<g_1.i)then Wid.wid g.f g.n g.r i else z8));(wi1 g).pre g_1->Tt/\K (decide (z7<z13)) (T2 ((∃g_2:W2,A (z25.pre g_2)/\(z2/\z4/\T2 ((A z1/\A ((↑g_1.nx:Int)=(↑g_2.nx:Int)))/\z3/\z5/\z3/\Tt))/\z0/\(A (g_1.Q.m=g_2.Q.m)/\∀i:Nat,i<g_2.Q.m->Tt/\A z1/\A ((↑(g_1.Q.q i):Int)=(↑(g_2.Q.q i):Int)))/\Tt)/\∀g_2:W2,let z26:=(wi3 g g_1 g_2);let z11:=(↑g_2.nx:Int);let z20:=(z2/\z4/\T2 ((q1 z11)/\z3/\z5/\z3/\Tt));let z6:=(∃g_3:W2,A (z24.pre g_3)/\(z2/\z4/\T2 ((A z1/\A (z11=(↑g_3.nx:Int)))/\z3/\z5/\z3/\Tt))/\z0/\(A (g_2.Q.m=g_3.Q.m)/\∀i:Nat,i<g_3.Q.m->Tt/\A z1/\A ((↑(g_2.Q.q i):Int)=(↑(g_3.Q.q i):Int)))/\Tt);z25.pre g_2->T4 (Tt/\K (decide (z11<z13)) (T3 (A (z10<=z7+z19/\z7+z19<=z9)/\T2 (K (decide (z11<=z7+z19)) ((∃g_3:Qu,A (z26.pre g_3)/\z20/\z0/\(A (g_2.Q.m=g_3.m)/\∀i:Nat,i<g_3.m->Tt/\A z1/\A ((↑(g_2.Q.q i):Int)=(↑(g_3.q i):Int)))/\Tt)/\∀g_3:Qu,let z16:=(g_3.m+z21<=(9223372036854775807:Nat)/\(g_3.m+z21)*(8:Nat)<=(140737488355328:Nat));let z12:=(↑g_3.m:Int);let z23:=(↑(g_3.q (z12-z14).toNat):Int);z26.pre g_3->T4 (K (decide (z8<z12)) (T4 (A (z10<=z12-z14/\z12-z14<=z9)/\A (z8<=z12-z14/\z12-z14<z12)/\A ((z12-z14).toNat<g_3.m)/\A (z8<=z23/\z23<z13)/\T3 (A (z8<=z11/\z11<z13)/\T3 (K (decide (g.f z23.toNat<=g.f z11.toNat)) (T3 (A (z10<=z12-z14/\z12-z14<=z9)/\A (z8<=U z22/\U z22<=z12-z14/\z12-z14<=U g_3.m/\U g_3.m<=z12)/\Tt/\∃(g':Qu),A (z26.pre g')/\(z20/\z0/\(A ((z12-z14-U z22).toNat=g'.m)/\∀i:Nat,i<g'.m->Tt/\A z1/\A ((↑(g_3.q i):Int)=(↑(g'.q i):Int)))/\Tt)/\A (z26.meas g'<z26.meas g_3))) (T3 (A z16/\T2 (A (z10<=z11+z14/\z11+z14<=z9)/\Tt/\∃(g':W2),A (z25.pre g')/\((z2/\z4/\T2 ((A z1/\A (z11+z14=(↑g'.nx:Int)))/\z3/\z5/\z3/\Tt))/\z0/\(A (g_3.m+z21=g'.Q.m)/\∀i:Nat,i<g'.Q.m->Tt/\A z1/\A ((bif decide (i<g_3.m)then(↑(g_3.q i):Int)else z11)=(↑(g'.Q.q i):Int)))/\Tt)/\A (z25.meas g'<z25.meas g_2)))))))) (T4 (A z16/\T2 (A (z10<=z11+z14/\z11+z14<=z9)/\Tt/\∃(g':W2),A (z25.pre g')/\((z2/\z4/\T2 ((A z1/\A (z11+z14=(↑g'.nx:Int)))/\z3/\z5/\z3/\Tt))/\z0/\(A (g_3.m+z21=g'.Q.m)/\∀i:Nat,i<g'.Q.m->Tt/\A z1/\A ((bif decide (i<g_3.m)then(↑(g_3.q i):Int)else z11)=(↑(g'.Q.q i):Int)))/\Tt)/\A (z25.meas g'<z25.meas g_2)))))) (z6/\∀g_3:W2,let z17:=(↑(g_3.Q.q (J z8)):Int);z24.pre g_3->Tt/\A (z8<=z8/\z8<(↑g_3.Q.m:Int))/\A (J z8<g_3.Q.m)/\T2 (A (z10<=z7-z19/\z7-z19<=z9)/\Tt/\K (decide (z17<z7-z19)) (Tt/\A (z8<=U z21/\U z21<=U g_3.Q.m/\U g_3.Q.m<=U g_3.Q.m/\U g_3.Q.m<=(↑g_3.Q.m:Int))/\Tt/\∃(g':W2),A (z24.pre g')/\((z2/\z4/\T2 ((A z1/\A ((↑g_3.nx:Int)=(↑g'.nx:Int)))/\z3/\z5/\z3/\Tt))/\z0/\(A ((U g_3.Q.m-U z21).toNat=g'.Q.m)/\∀i:Nat,i<g'.Q.m->Tt/\A z1/\A ((↑(g_3.Q.q (z22+z21+i)):Int)=(↑(g'.Q.q i):Int)))/\Tt)/\A (z24.meas g'<z24.meas g_3)) (T4 (A (z8<=z8/\z8<(↑g_3.Q.m:Int))/\A (J z8<g_3.Q.m)/\A (z8<=z17/\z17<z13)/\Tt/\A (z8<=z7/\z7<z13)/\A (z7.toNat<g.n)/\A (z10<=z7+z14/\z7+z14<=z9)/\Tt/\∃(g':W1),A ((wi1 g).pre g')/\((z2/\z4/\T2 ((A z1/\A ((↑g_3.nx:Int)=(↑g'.nx:Int)))/\z5/\(A z1/\A (z7+z14=(↑g'.i:Int)))/\Tt))/\(A (g.n=g.n)/\∀i:Nat,i<g.n->Tt/\A z15/\A ((bif decide (i=z7.toNat/\z22<=z22/\z22<z22+z21)then g.f z17.toNat else bif decide (i<g_1.i)then Wid.wid g.f g.n g.r i else z8)=bif decide (i<g'.i)then Wid.wid g.f g.n g.r i else z8))/\(A (g_3.Q.m=g'.Q.m)/\∀i:Nat,i<g'.Q.m->Tt/\A z1/\A ((↑(g_3.Q.q i):Int)=(↑(g'.Q.q i):Int)))/\Tt)/\A ((wi1 g).meas g'<(wi1 g).meas g_1)))))))) (Tt/\z6/\∀g_3:W2,let z18:=(↑(g_3.Q.q (J z8)):Int);z24.pre g_3->Tt/\A (z8<=z8/\z8<(↑g_3.Q.m:Int))/\A (J z8<g_3.Q.m)/\T2 (A (z10<=z7-z19/\z7-z19<=z9)/\Tt/\K (decide (z18<z7-z19)) (Tt/\A (z8<=U z21/\U z21<=U g_3.Q.m/\U g_3.Q.m<=U g_3.Q.m/\U g_3.Q.m<=(↑g_3.Q.m:Int))/\Tt/\∃(g':W2),A (z24.pre g')/\((z2/\z4/\T2 ((A z1/\A ((↑g_3.nx:Int)=(↑g'.nx:Int)))/\z3/\z5/\z3/\Tt))/\z0/\(A ((U g_3.Q.m-U z21).toNat=g'.Q.m)/\∀i:Nat,i<g'.Q.m->Tt/\A z1/\A ((↑(g_3.Q.q (z22+z21+i)):Int)=(↑(g'.Q.q i):Int)))/\Tt)/\A (z24.meas g'<z24.meas g_3)) (T4 (A (z8<=z8/\z8<(↑g_3.Q.m:Int))/\A (J z8<g_3.Q.m)/\A (z8<=z18/\z18<z13)/\Tt/\A (z8<=z7/\z7<z13)/\A (z7.toNat<g.n)/\A (z10<=z7+z14/\z7+z14<=z9)/\Tt/\∃(g':W1),A ((wi1 g).pre g')/\((z2/\z4/\T2 ((A z1/\A ((↑g_3.nx:Int)=(↑g'.nx:Int)))/\z5/\(A z1/\A (z7+z14=(↑g'.i:Int)))/\Tt))/\(A (g.n=g.n)/\∀i:Nat,i<g.n->Tt/\A z15/\A ((bif decide (i=z7.toNat/\z22<=z22/\z22<z22+z21)then g.f z18.toNat else bif decide (i<g_1.i)then Wid.wid g.f g.n g.r i else z8)=bif decide (i<g'.i)then Wid.wid g.f g.n g.r i else z8))/\(A (g_3.Q.m=g'.Q.m)/\∀i:Nat,i<g'.Q.m->Tt/\A z1/\A ((↑(g_3.Q.q i):Int)=(↑(g'.Q.q i):Int)))/\Tt)/\A ((wi1 g).meas g'<(wi1 g).meas g_1)))))))) (T3 ((Tt/\Tt)/\(A (g.n=g.n)/\∀i:Nat,i<g.n->Tt/\A z15/\A ((bif decide (i<g_1.i)then Wid.wid g.f g.n g.r i else z8)=Wid.wid g.f g.n g.r i))/\Tt)))))) ?_;simp only[cln,ly,lO,xA];have hn:=hg.n;have hr:=hg.r;have hf:=hg.f;refine⟨by omega,⟨⟨0,0,⟨0,λ_=>0⟩⟩,⟨lB _,lB _,lB _,by rw[Nat.zero_sub];exact Wp.nil _ _⟩,⟨rfl,rfl⟩,λi _=>rfl,rfl,λi hi=>absurd hi (ln _)⟩,λs hs=>?_⟩;obtain⟨hi,hnx,hnr,hq⟩:=hs;refine⟨λhlt=>?_,λhge=>λi hi'=>?_⟩
 ·have hin:s.i<g.n:=by omega
  refine⟨⟨⟨s.nx,s.Q⟩,⟨hin,hnx,ud hnr,hq⟩,rfl,rfl,λ_ _=>rfl⟩,λt ht=>?_⟩
  ·obtain⟨hi',hnx,hnr,hq⟩:=ht;have two5:∀{p q X1 X2 X3 X4 X5 B C:Prop},(p->X1/\X2/\X3/\X4/\X5)->(p->q->B)->(¬ (p/\q)->C)->(p->X1/\X2/\X3/\X4/\X5/\(q->B)/\(¬ q->C))/\(¬ p->C):=λh1 h2 h3=>⟨λhp=>⟨(h1 hp).1,(h1 hp).2.1,(h1 hp).2.2.1,(h1 hp).2.2.2.1,(h1 hp).2.2.2.2,h2 hp,λhq=>h3 λh=>hq h.2⟩,λhp=>h3 λh=>hp h.1⟩
   refine two (λh1=>by omega) (λh1 h2=>⟨⟨t.Q,⟨hin,by omega,by omega,hq.open⟩,rfl,λ_ _=>rfl⟩,λQ hQ=>?_⟩) (λhex=>?_)
   ·obtain⟨_,hnx',hnr',hp⟩:=hQ;have hle:=hp.le;have e1:((Q.m:Int)-1).toNat=Q.m-1:=by omega
    rw[e1];have hlast:0<Q.m->Q.q (Q.m-1)<t.nx:=λh=>hp.lt _ (by omega)
    refine two5 (λh1=>?_) (λh1 h2=>?_) (λhex=>?_)
    ·have:=hlast (by omega)
     omega
    ·refine⟨by omega,by omega,Q.pop,⟨hin,hnx',hnr',hp.pop (by omega) h2⟩,⟨by show _=Q.m-1;omega,λ_ _=>rfl⟩,by show Q.m-1<Q.m;omega⟩
    ·refine⟨by omega,by omega,⟨t.nx+1,Q.push t.nx⟩,⟨hin,hnx',Nat.succ_le_succ hnr',hp.push λh=>?_⟩,⟨rfl,rfl,λi _=>?_⟩,by show g.n-(t.nx+1)<g.n-t.nx;omega⟩
     ·have:¬ g.f (Q.q (Q.m-1))<=g.f t.nx:=λhc=>hex ⟨by omega,hc⟩
      omega
     ·show _=(((bif decide (i<Q.m)then Q.q i else t.nx):Nat):Int);cases decide (i<Q.m)<;>rfl
   ·have enx:t.nx=min g.n (s.i+g.r+1):=by omega
    refine⟨⟨⟨t.nx,t.Q⟩,⟨hin,enx,hq⟩,rfl,rfl,λ_ _=>rfl⟩,λu hu=>?_⟩;obtain⟨_,enx,hq⟩:=hu;have hpos:=hq.some (i:=s.i) (by omega) (by omega);have hle:=hq.le;have hhd:=hq.lt 0 hpos;have e0:Int.toNat 0=0:=rfl;rw[e0];refine⟨by omega,hpos,by omega,λh1=>?_,λh1=>?_⟩
    ·exact⟨by omega,⟨u.nx,u.Q.front⟩,⟨hin,enx,hq.front (by omega)⟩,⟨rfl,by show _=u.Q.m-1;omega,λi _=>by rw[Nat.add_comm 1 i];rfl⟩,by show u.Q.m-1<u.Q.m;omega⟩
    ·have hw:=hq.head hin enx (by omega) hf;refine⟨by omega,hpos,by omega,by omega,hin,by omega,⟨s.i+1,u.nx,u.Q⟩,⟨hin,by show u.nx<=_;omega,by show u.nx<=s.i+1+_;omega,hq.lo (by show _<=s.i+1-g.r;omega)⟩,⟨⟨rfl,rfl⟩,λi hi'=>?_,rfl,λ_ _=>rfl⟩,by show g.n-(s.i+1)<g.n-s.i;omega⟩;show _=bif decide (i<s.i+1)then _ else _
     rw[hw];by_cases h:i=s.i
     ·subst h;rw[lg ⟨rfl,lh _,uw⟩,lg (xD _)];rfl
     ·rw[lf (λhc=>h hc.1),show decide (i<s.i+1)=decide (i<s.i)from xP.2 (by omega)];rfl
 ·rw[lg (show i<s.i by omega)];rfl
end Trp
namespace Tsp
open Go.RowKit Sx Num Aff Con Rga Gat Gar Wid Trp
structure SpG where
 w:Nat
 h:Nat
 c:Nat->Vec
 ink:Nat
 r:Nat
def am6(g:SpG)(y:Nat):Nat->Int:=wid (λx=>g.c (y*g.w+x) g.ink) g.w g.r
def bz4(g:SpG)(x:Nat):Nat->Int:=wid (λy=>am6 g y x) g.h g.r
def spr(g:SpG)(j:Nat):Int:=bz4 g (j%g.w) (j/g.w)
structure SpG.Ok(g:SpG):Prop where
 w:1<=g.w/\g.w<=4096
 h:1<=g.h/\g.h<=4096
 ink:g.ink<8
 r:g.r<=1073741824
 c:∀i<g.w*g.h,0<=g.c i g.ink
def clR(w h:Nat)(c:Nat->Vec):SO:= .row 0 (w*h) 8 (λi j=> .int .u8 (c i j)) 45
def byR(n:Nat)(f:Nat->Int):SO:=Trp.byR n f
structure SpS where
 y:Nat
 R:Nat->Int
def spH(g:SpG)(o R C:Nat->Int):List SO:=[clR g.w g.h g.c,byR (g.w*g.h) o,byR g.w R,byR g.h C]
def spT(g:SpG):List (Nat×SV):=[(0,.osl 0 0),(1,.int .i64 g.w),(2,.int .i64 g.h),(3,.int .i64 g.ink),(4,.int .i64 g.r),(11,.osl 1 0),(12,.osl 2 0),(13,.osl 3 0)]
def spT2(g:SpG):List (Nat×SV):=[(0,.osl 0 0),(1,.int .i64 g.w),(2,.int .i64 g.h),(3,.int .i64 g.ink),(4,.int .i64 g.r),(11,.osl 1 0),(13,.osl 3 0)]
def zer:Nat->Int:=λ_=>0
def o1(g:SpG)(y:Nat)(j:Nat):Int:=bif decide (j/g.w<y)then am6 g (j/g.w) (j%g.w)else 0
def o2(g:SpG)(x y:Nat)(j:Nat):Int:=bif decide (j%g.w<x\/j%g.w=x/\j/g.w<y)then bz4 g (j%g.w) (j/g.w)else am6 g (j/g.w) (j%g.w)
def sp1(g:SpG):Inv:=⟨SpS,λs=>s.y<=g.h,λs=>⟨spT g++[(27,.int .i64 g.h),(28,.int .i64 s.y)],spH g (o1 g s.y) s.R zer⟩,λs=>g.h-s.y⟩
def sp2(g:SpG)(s:SpS):Inv:=⟨Nat,λx=>s.y<g.h/\x<=g.w,λx=>⟨spT g++[(27,.int .i64 g.h),(28,.int .i64 s.y),(14,.int .i64 s.y),(32,.int .i64 g.w),(33,.int .i64 x)],
 spH g (o1 g s.y) (λj=>bif decide (j<x)then g.c (s.y*g.w+j) g.ink else s.R j) zer⟩,λx=>g.w-x⟩
def sp3(g:SpG):Inv:=⟨SpS,λs=>s.y<=g.w,λs=>⟨spT2 g++[(60,.int .i64 g.w),(61,.int .i64 s.y)],[clR g.w g.h g.c,byR (g.w*g.h) (o2 g s.y 0),.dead,byR g.h s.R]⟩,λs=>g.w-s.y⟩
def sp4(g:SpG)(s:SpS):Inv:=⟨Nat,λy=>s.y<g.w/\y<=g.h,λy=>⟨spT2 g++[(60,.int .i64 g.w),(61,.int .i64 s.y),(16,.int .i64 s.y),(65,.int .i64 g.h),(66,.int .i64 y)],
 [clR g.w g.h g.c,byR (g.w*g.h) (o2 g s.y 0),.dead,byR g.h (λj=>bif decide (j<y)then am6 g j s.y else s.R j)]⟩,λy=>g.h-y⟩
def sp5(g:SpG)(s:SpS):Inv:=⟨Nat,λy=>s.y<g.w/\y<=g.h,λy=>⟨spT2 g++[(60,.int .i64 g.w),(61,.int .i64 s.y),(16,.int .i64 s.y),(83,.osl 4 0),(84,.int .i64 g.h),(85,.int .i64 y)],
 [clR g.w g.h g.c,byR (g.w*g.h) (o2 g s.y y),.dead,byR g.h (λj=>am6 g j s.y),byR g.h (bz4 g s.y)]⟩,λy=>g.h-y⟩
theorem aK0{w y x:Nat}(hx:x<w):(y*w+x)/w=y:=by rw[xO,Nat.mul_add_div (by omega),Nat.div_eq_of_lt hx,lV]
theorem aS6{w y x:Nat}(hx:x<w):(y*w+x)%w=x:=by rw[xO,Nat.mul_add_mod,uN hx]
theorem bR0{w:Nat}(hw:1<=w)(i:Nat):∃a b,b<w/\i=a*w+b:=⟨i/w,i%w,xS _ hw,by rw[xO];exact(Nat.div_add_mod i w).symm⟩
theorem b07{w a y:Nat}(h:a<y):a*w+w<=y*w:=by
 have:=lk w (show a+1<=y from h)
 rwa[lL,uD]at this
theorem bQ9{w a b y:Nat}(hb:b<w):(y*w<=a*w+b/\a*w+b<y*w+w)<->a=y:=by
 rcases xL a y with h|h|h
 ·have:=b07 (w:=w) h;exact⟨λhc=>by omega,λhc=>by omega⟩
 ·subst h;exact⟨λ_=>rfl,λ_=>by omega⟩
 ·have:=b07 (w:=w) h;exact⟨λhc=>by omega,λhc=>by omega⟩
theorem ch8{w a b y x:Nat}(hb:b<w)(hx:x<w):a*w+b=y*w+x<->a=y/\b=x:=by
 constructor
 ·intro h;obtain rfl:a=y:=(bQ9 hb).1 (by omega)
  exact⟨rfl,by omega⟩
 ·rintro⟨rfl,rfl⟩;rfl
theorem b08{w h a b:Nat}(hb:b<w)(ha:a<h):a*w+b<w*h:=by
 have:=b07 (w:=w) ha
 rw[xO w h];omega
theorem b76{w h a b:Nat}(h1:a*w+b<w*h):a<h:=by
 rcases uk a h with h2|h2
 ·exact h2
 ·have:=lk w h2
  rw[xO w h]at h1;omega
theorem b82{p:Prop}{inst:Decidable p}{α:Type}{a b c:α}(h1:p->a=c)(h2:¬ p->b=c):(bif @decide p inst then a else b)=c:=by
 by_cases h:p
 ·rw[lg h];exact h1 h
 ·rw[lf h];exact h2 h
def cl6:FSpec:=af2 64 [.arg 0] (γ:=SpG) (λl os=>match l,os with
  | [_,.int _ w,.int _ h,.int _ i,.int _ r],[.row _ _ _ f _]=>some ⟨w.toNat,h.toNat,λi j=>Sx.intOf (f i j),i.toNat,r.toNat⟩
  |_,_=>none)
 (λg=>[.osl 0 0,.int .i64 g.w,.int .i64 g.h,.int .i64 g.ink,.int .i64 g.r]) (λg=>[clR g.w g.h g.c]) SpG.Ok (λg=>byS (g.w*g.h) (spr g)) (λg=>[clR g.w g.h g.c])
theorem cp6:aa5 Tw.prog cl6:=by
 refine smW (specs:=[cl5]) (⟨cp5,trivial⟩) Tw.func64 (λg=>(⟨[(4,.nest (sp1 g) (λs=>[(7,.inv (sp2 g s))])),(14,.nest (sp3 g) (λs=>[(17,.inv (sp4 g s)),(22,.inv (sp5 g s))]))],[]⟩:Ann)) false ?_;rintro g hg;refine ac7 (B:=let T2:=λp:Prop=>Tt/\Tt/\p;let T3:=λp:Prop=>Tt/\Tt/\Tt/\p;let T5:=λp:Prop=>Tt/\Tt/\Tt/\Tt/\Tt/\p;let J:=Int.ofNat;let K:=Br;let A:=Aq;let z35:=(g.w*g.h);let z34:=(140737488355328:Int);let z31:=(1:Nat);let z30:=(↑g.ink:Int);let z29:=(g.h=g.h);let z27:=(1:Int);let z26:=(↑g.r:Int);let z23:=(0:Int);let z21:=(↑g.h:Int);let z16:=(0:Nat);let z15:=(↑z35:Int);let z12:=(g.w*g.h=g.w*g.h);let z10:=(-9223372036854775808:Int);let z9:=(↑g.w:Int);let z8:=(9223372036854775807:Int);let z4:=(IntKind.u8=IntKind.u8);let q4:=λp:Int=>A z4/\A (p=p);let z14:=(A z29/\∀i:Nat,i<g.h->Tt/\q4 (zer i));let z1:=(IntKind.i64=IntKind.i64);let q1:=λp:Int=>A z1/\A (p=p);let z33:=(A z1/\A (z26=(↑z26.toNat:Int)));let z6:=(q1 z26);let z5:=(q1 z30);let z3:=(q1 z21);let z2:=(q1 z9);let z0:=(A z12/\∀i:Nat,i<g.w*g.h->(chp True (λj:Nat=>q4 (g.c i j)) 7)/\q4 (g.c i (7:Nat)));T3 (A (z23<=z15/\z15<=z15/\(↑z31:Int)*z15<=z34/\z15<=z8)/\T2 (A (z23<=z9/\z9<=z9/\(↑z31:Int)*z9<=z34/\z9<=z8)/\Tt/\A (z23<=z21/\z21<=z21/\(↑z31:Int)*z21<=z34/\z21<=z8)/\T3 (Tt/\(∃g_1:SpS,A ((sp1 g).pre g_1)/\Tt/\(Tt/\z2/\z3/\z5/\z6/\T3 (z3/\(A z1/\A (z23=(↑g_1.y:Int)))/\Tt))/\z0/\(A (z15.toNat=g.w*g.h)/\∀i:Nat,i<g.w*g.h->Tt/\A z4/\A (z23=o1 g g_1.y i))/\(A (z9.toNat=g.w)/\∀i:Nat,i<g.w->Tt/\A z4/\A (z23=g_1.R i))/\(A (z21.toNat=g.h)/\∀i:Nat,i<g.h->Tt/\A z4/\A (z23=zer i))/\Tt)/\∀g_1:SpS,let z32:=(g_1.y*g.w);let z22:=(A z12/\∀i:Nat,i<g.w*g.h->Tt/\q4 (o1 g g_1.y i));let z11:=(↑g_1.y:Int);let z24:=(q1 z11);(sp1 g).pre g_1->Tt/\K (decide (z11<z21)) (T5 ((∃g_2:Nat,A ((sp2 g g_1).pre g_2)/\Tt/\(Tt/\z2/\z3/\z5/\z6/\T3 (z3/\z24/\z24/\z2/\(A z1/\A (z23=(↑g_2:Int)))/\Tt))/\z0/\z22/\(A (g.w=g.w)/\∀i:Nat,i<g.w->Tt/\A z4/\A (g_1.R i=bif decide (i<g_2)then g.c (g_1.y*g.w+i) g.ink else g_1.R i))/\z14/\Tt)/\∀g_2:Nat,let z25:=(λ(j:Nat)=>bif decide (j<g_2)then g.c (g_1.y*g.w+j) g.ink else g_1.R j);let z19:=(↑g_2:Int);(sp2 g g_1).pre g_2->Tt/\K (decide (z19<z9)) (T5 (T2 (A (z10<=z11*z9/\z11*z9<=z8)/\Tt/\A (z10<=z11*z9+z19/\z11*z9+z19<=z8)/\Tt/\A (z23<=z11*z9+z19/\z11*z9+z19<z15)/\A (z23<=z30/\z30<(↑(8:Nat):Int))/\K (decide (z16+z30.toNat*z31+z31<=(8:Nat))) (A ((z11*z9+z19).toNat<g.w*g.h)) False/\A (z23<=z19/\z19<z9)/\A (z19.toNat<g.w)/\A (z10<=z19+z27/\z19+z27<=z8)/\Tt/\∃(g':Nat),A ((sp2 g g_1).pre g')/\Tt/\((Tt/\z2/\z3/\z5/\z6/\T3 (z3/\z24/\z24/\z2/\(A z1/\A (z19+z27=(↑g':Int)))/\Tt))/\z0/\z22/\(A (g.w=g.w)/\∀i:Nat,i<g.w->Tt/\A z4/\A ((bif decide (i=z19.toNat/\z16<=z16/\z16<z16+z31)then g.c (z11*z9+z19).toNat (z16+z30.toNat*z31)else bif decide (i<g_2)then g.c (g_1.y*g.w+i) g.ink else g_1.R i)=bif decide (i<g')then g.c (g_1.y*g.w+i) g.ink else g_1.R i))/\z14/\Tt)/\A ((sp2 g g_1).meas g'<(sp2 g g_1).meas g_2)))) (T3 (A (z10<=z11*z9/\z11*z9<=z8)/\A (z23<=J z32/\J z32<=J z35/\J z35<=J z35/\J z35<=z15)/\T2 ((((A (g.w=g.w)/\∀i:Nat,i<g.w->Tt/\A z4/\A ((bif decide (i<g_2)then g.c (g_1.y*g.w+i) g.ink else g_1.R i)=bif decide (i<g_2)then g.c (g_1.y*g.w+i) g.ink else g_1.R i))/\z33/\Tt)/\A (WiG.mk g.w z25 z26.toNat).Ok)/\Tt/\A (z10<=z11+z27/\z11+z27<=z8)/\Tt/\∃(g':SpS),A ((sp1 g).pre g')/\Tt/\((Tt/\z2/\z3/\z5/\z6/\T3 (z3/\(A z1/\A (z11+z27=(↑g'.y:Int)))/\Tt))/\z0/\(A z12/\∀i:Nat,i<g.w*g.h->Tt/\A z4/\A ((bif decide ((J z32).toNat<=i/\i<(J z32).toNat+g.w.min (J z35-J z32).toNat)then Wid.wid z25 g.w z26.toNat (i-(J z32).toNat)else o1 g g_1.y i)=o1 g g'.y i))/\(A (g.w=g.w)/\∀i:Nat,i<g.w->Tt/\A z4/\A ((bif decide (i<g_2)then g.c (g_1.y*g.w+i) g.ink else g_1.R i)=g'.R i))/\z14/\Tt)/\A ((sp1 g).meas g'<(sp1 g).meas g_1)))))) (T2 ((∃g_2:SpS,A ((sp3 g).pre g_2)/\Tt/\(Tt/\z2/\z3/\z5/\z6/\T2 (z2/\(A z1/\A (z23=(↑g_2.y:Int)))/\Tt))/\z0/\(A z12/\∀i:Nat,i<g.w*g.h->Tt/\A z4/\A (o1 g g_1.y i=o2 g g_2.y z16 i))/\Tt/\(A z29/\∀i:Nat,i<g.h->Tt/\A z4/\A (zer i=g_2.R i))/\Tt)/\∀g_2:SpS,let z20:=(A z12/\∀i:Nat,i<g.w*g.h->Tt/\q4 (o2 g g_2.y z16 i));let z13:=(↑g_2.y:Int);let z7:=(q1 z13);(sp3 g).pre g_2->Tt/\K (decide (z13<z9)) (T5 ((∃g_3:Nat,A ((sp4 g g_2).pre g_3)/\Tt/\(Tt/\z2/\z3/\z5/\z6/\T2 (z2/\z7/\z7/\z3/\(A z1/\A (z23=(↑g_3:Int)))/\Tt))/\z0/\z20/\Tt/\(A z29/\∀i:Nat,i<g.h->Tt/\A z4/\A (g_2.R i=bif decide (i<g_3)then am6 g i g_2.y else g_2.R i))/\Tt)/\∀g_3:Nat,let z28:=(λ(j:Nat)=>bif decide (j<g_3)then am6 g j g_2.y else g_2.R j);let z17:=(↑g_3:Int);(sp4 g g_2).pre g_3->Tt/\K (decide (z17<z21)) (T5 (T2 (A (z10<=z17*z9/\z17*z9<=z8)/\Tt/\A (z10<=z17*z9+z13/\z17*z9+z13<=z8)/\A (z23<=z17*z9+z13/\z17*z9+z13<z15)/\A ((z17*z9+z13).toNat<g.w*g.h)/\A (z23<=z17/\z17<z21)/\A (z17.toNat<g.h)/\A (z10<=z17+z27/\z17+z27<=z8)/\Tt/\∃(g':Nat),A ((sp4 g g_2).pre g')/\Tt/\((Tt/\z2/\z3/\z5/\z6/\T2 (z2/\z7/\z7/\z3/\(A z1/\A (z17+z27=(↑g':Int)))/\Tt))/\z0/\z20/\Tt/\(A z29/\∀i:Nat,i<g.h->Tt/\A z4/\A ((bif decide (i=z17.toNat/\z16<=z16/\z16<z16+z31)then o2 g g_2.y z16 (z17*z9+z13).toNat else bif decide (i<g_3)then am6 g i g_2.y else g_2.R i)=bif decide (i<g')then am6 g i g_2.y else g_2.R i))/\Tt)/\A ((sp4 g g_2).meas g'<(sp4 g g_2).meas g_3)))) (T2 ((((A z29/\∀i:Nat,i<g.h->Tt/\A z4/\A ((bif decide (i<g_3)then am6 g i g_2.y else g_2.R i)=bif decide (i<g_3)then am6 g i g_2.y else g_2.R i))/\z33/\Tt)/\A (WiG.mk g.h z28 z26.toNat).Ok)/\T2 ((∃g_4:Nat,A ((sp5 g g_2).pre g_4)/\Tt/\(Tt/\z2/\z3/\z5/\z6/\T2 (z2/\z7/\z7/\Tt/\z3/\(A z1/\A (z23=(↑g_4:Int)))/\Tt))/\z0/\(A z12/\∀i:Nat,i<g.w*g.h->Tt/\A z4/\A (o2 g g_2.y z16 i=o2 g g_2.y g_4 i))/\Tt/\(A z29/\∀i:Nat,i<g.h->Tt/\A z4/\A ((bif decide (i<g_3)then am6 g i g_2.y else g_2.R i)=am6 g i g_2.y))/\(A z29/\∀i:Nat,i<g.h->Tt/\A z4/\A (Wid.wid z28 g.h z26.toNat i=bz4 g g_2.y i))/\Tt)/\∀g_4:Nat,let z18:=(↑g_4:Int);(sp5 g g_2).pre g_4->Tt/\K (decide (z18<z21)) (Tt/\A (z23<=z18/\z18<z21)/\A (z18.toNat<g.h)/\T5 (A (z10<=z18*z9/\z18*z9<=z8)/\Tt/\A (z10<=z18*z9+z13/\z18*z9+z13<=z8)/\Tt/\A (z23<=z18*z9+z13/\z18*z9+z13<z15)/\A ((z18*z9+z13).toNat<g.w*g.h)/\A (z10<=z18+z27/\z18+z27<=z8)/\Tt/\∃(g':Nat),A ((sp5 g g_2).pre g')/\Tt/\((Tt/\z2/\z3/\z5/\z6/\T2 (z2/\z7/\z7/\Tt/\z3/\(A z1/\A (z18+z27=(↑g':Int)))/\Tt))/\z0/\(A z12/\∀i:Nat,i<g.w*g.h->Tt/\A z4/\A ((bif decide (i=(z18*z9+z13).toNat/\z16<=z16/\z16<z16+z31)then bz4 g g_2.y z18.toNat else o2 g g_2.y g_4 i)=o2 g g_2.y g' i))/\Tt/\(A z29/\∀i:Nat,i<g.h->Tt/\q4 (am6 g i g_2.y))/\(A z29/\∀i:Nat,i<g.h->Tt/\q4 (bz4 g g_2.y i))/\Tt)/\A ((sp5 g g_2).meas g'<(sp5 g g_2).meas g_4))) (A (z10<=z13+z27/\z13+z27<=z8)/\Tt/\∃(g':SpS),A ((sp3 g).pre g')/\Tt/\((Tt/\z2/\z3/\z5/\z6/\T2 (z2/\(A z1/\A (z13+z27=(↑g'.y:Int)))/\Tt))/\z0/\(A z12/\∀i:Nat,i<g.w*g.h->Tt/\A z4/\A (o2 g g_2.y g_4 i=o2 g g'.y z16 i))/\Tt/\(A z29/\∀i:Nat,i<g.h->Tt/\A z4/\A (am6 g i g_2.y=g'.R i))/\Tt)/\A ((sp3 g).meas g'<(sp3 g).meas g_2))))))) (T3 (Tt/\((A z12/\∀i:Nat,i<g.w*g.h->Tt/\A z4/\A (o2 g g_2.y z16 i=spr g i))/\Tt)/\z0/\Tt)))))))) ?_;simp only[chp];simp only[cln,ly,lO,xA];have hw:=hg.w;have hh:=hg.h;have hi:=hg.ink;have hWH:g.w*g.h<=4096*4096:=ue hw.2 hh.2;have c0:∀a:Nat,(a:Int)*(g.w:Int)=((a*g.w:Nat):Int):=λa=>(Int.natCast_mul a g.w).symm
 have c1:∀a b:Nat,((a*g.w:Nat):Int)+(b:Int)=((a*g.w+b:Nat):Int):=λa b=>(Int.natCast_add _ _).symm
 have hr:=hg.r;simp only[c0,c1,ly];refine⟨by omega,by omega,by omega,⟨⟨0,zer⟩,lB _,rfl,λi _=>?_,λ_ _=>rfl,λ_ _=>rfl⟩,λs hs=>⟨λhlt=>⟨⟨0,⟨by omega,lB _⟩,rfl,λ_ _=>rfl⟩,λx hx=>⟨λhx1=>?_,λhx1=>?_⟩⟩,λhge=>⟨⟨⟨0,zer⟩,lB _,rfl,λi hi=>?_,λ_ _=>rfl⟩,λs3 hs3=>⟨λhlt=>⟨⟨0,⟨by omega,lB _⟩,rfl,λ_ _=>rfl⟩,λy hy=>⟨λhy1=>?_,λhy1=>?_⟩⟩,λhge=>λi hi=>?_⟩⟩⟩⟩
 ·show 0=bif decide (i/g.w<0)then _ else _
  rw[lf (ln _)];rfl
 ·obtain⟨hy,hx⟩:=hx;have hx:x<g.w:=by omega
  have hin:=b08 hx hy;refine⟨by omega,by omega,by omega,by omega,⟨λ_=>hin,λh=>h (by omega)⟩,by omega,hx,by omega,x+1,⟨hy,hx⟩,⟨rfl,λi hi=>?_⟩,by show g.w-(x+1)<g.w-x;omega⟩;by_cases h:i=x
  ·subst h;rw[lg ⟨rfl,lh _,uw⟩,lg (xD _)];rfl
  ·rw[lf (λhc=>h hc.1),show decide (i<x+1)=decide (i<x)from xP.2 (by omega)];rfl
 ·obtain⟨hy,hx⟩:=hx;obtain rfl:x=g.w:=by omega
  have hrow:=b07 (w:=g.w) hy;rw[xO g.h g.w]at hrow;have ef:∀j<g.w,(bif decide (j<g.w)then g.c (s.y*g.w+j) g.ink else s.R j)=g.c (s.y*g.w+j) g.ink:=λj hj=>by rw[lg hj];rfl
  refine⟨by omega,by omega,⟨by show g.w<=_;omega,hr,λj hj=>?_⟩,by omega,⟨s.y+1,λj=>bif decide (j<g.w)then g.c (s.y*g.w+j) g.ink else s.R j⟩,hy,⟨rfl,λi hi=>?_,λ_ _=>rfl⟩,by show g.h-(s.y+1)<g.h-s.y;omega⟩
  ·have hj:j<g.w:=hj;show 0<=bif decide (j<g.w)then _ else _
   rw[ef j hj];exact hg.c _ (b08 hj hy)
  ·obtain⟨a,b,hb,rfl⟩:=bR0 hw.1 i;have em:g.w.min (((g.w*g.h:Nat):Int)-((s.y*g.w:Nat):Int)).toNat=g.w:=uv (by omega);refine b82 (λh=>?_) (λh=>?_)
   ·rw[em]at h;obtain rfl:=(bQ9 hb).1 h
    show _=bif decide ((s.y*g.w+b)/g.w<s.y+1)then am6 g ((s.y*g.w+b)/g.w) ((s.y*g.w+b)%g.w)else 0
    rw[aK0 hb,aS6 hb,lg (xD _),show s.y*g.w+b-s.y*g.w=b by omega,bb3 ef];rfl
   ·rw[em]at h;have h:a≠s.y:=λhc=>h ((bQ9 hb).2 hc)
    unfold o1;rw[aK0 hb,show decide (a<s.y+1)=decide (a<s.y)from xP.2 (by omega)]
 ·have hsy:s.y<=g.h:=hs;obtain⟨a,b,hb,rfl⟩:=bR0 hw.1 i;have:=b76 hi
  unfold o1 o2;rw[aK0 hb,aS6 hb,lg (show a<s.y by omega),lf (show¬ (b<0\/b=0/\a<0)by omega)];rfl
 ·obtain⟨hx,hy⟩:=hy;have hy:y<g.h:=by omega
  have hin:=b08 hx hy;refine⟨by omega,by omega,by omega,hin,by omega,hy,by omega,y+1,⟨hx,hy⟩,⟨rfl,λi hi=>?_⟩,by show g.h-(y+1)<g.h-y;omega⟩;by_cases h:i=y
  ·subst h;rw[lg ⟨rfl,lh _,uw⟩,lg (xD _)];unfold o2;rw[aK0 hx,aS6 hx,lf (show¬ (s3.y<s3.y\/s3.y=s3.y/\i<0)by omega)];rfl
  ·rw[lf (λhc=>h hc.1),show decide (i<y+1)=decide (i<y)from xP.2 (by omega)];rfl
 ·obtain⟨hx,hy⟩:=hy;obtain rfl:y=g.h:=by omega
  have ef:∀j<g.h,(bif decide (j<g.h)then am6 g j s3.y else s3.R j)=am6 g j s3.y:=λj hj=>by rw[lg hj];rfl
  refine⟨⟨by show g.h<=_;omega,hr,λj hj=>?_⟩,⟨0,⟨hx,lB _⟩,rfl,λ_ _=>rfl,ef,λi _=>by rw[bb3 ef];rfl⟩,λy hy=>⟨λhy1=>?_,λhy1=>?_⟩⟩
  ·have hj:j<g.h:=hj;show 0<=bif decide (j<g.h)then _ else _
   rw[ef j hj];exact bE2 _ _ _ _
  ·have hy:y<g.h:=by omega
   have hin:=b08 hx hy;refine⟨by omega,hy,by omega,by omega,by omega,hin,by omega,y+1,⟨hx,hy⟩,⟨rfl,λi hi=>?_⟩,by show g.h-(y+1)<g.h-y;omega⟩;obtain⟨a,b,hb,rfl⟩:=bR0 hw.1 i;unfold o2;rw[aK0 hb,aS6 hb];by_cases h:a=y/\b=s3.y
   ·obtain⟨rfl,rfl⟩:=h;rw[lg ⟨rfl,lh _,uw⟩,lg (show s3.y<s3.y\/s3.y=s3.y/\a<a+1 by omega)];rfl
   ·rw[lf (λhc=>h ((ch8 hb hx).1 hc.1)),show decide (b<s3.y\/b=s3.y/\a<y+1)=decide (b<s3.y\/b=s3.y/\a<y)from xP.2 (by omega)];rfl
  ·have hyh:y<=g.h:=hy.2;refine⟨by omega,⟨s3.y+1,λj=>am6 g j s3.y⟩,hx,⟨rfl,λi hi=>?_,λ_ _=>rfl⟩,by show g.w-(s3.y+1)<g.w-s3.y;omega⟩;obtain⟨a,b,hb,rfl⟩:=bR0 hw.1 i;have:=b76 hi
   unfold o2;rw[aK0 hb,aS6 hb,show decide (b<s3.y\/b=s3.y/\a<y)=decide (b<s3.y+1\/b=s3.y+1/\a<0)from xP.2 (by omega)]
 ·have hsy:s3.y<=g.w:=hs3;obtain⟨a,b,hb,rfl⟩:=bR0 hw.1 i;unfold o2 spr;rw[aK0 hb,aS6 hb,lg (show b<s3.y\/b=s3.y/\a<0 by omega)];rfl
end Tsp
namespace Tpn
open _root_.Go.Proofs.YtnhecfkpiojmhaaGreat.Hid
open Go.RowKit Sx Num Aff Con Rga Gat Gar Wid Trp Tsp
structure PlG where
 w:Nat
 h:Nat
 c:Nat->Vec
 m:Nat
 o:Nat->Nat
 r:Nat
def PlG.sp(g:PlG)(k:Nat):SpG:=⟨g.w,g.h,g.c,g.o k,g.r⟩
structure PlG.Ok(g:PlG):Prop where
 m:g.m<=8
 w:1<=g.w/\g.w<=4096
 h:1<=g.h/\g.h<=4096
 o:∀k<g.m,g.o k<8
 r:g.r<=1073741824
 c:∀i j,i<g.w*g.h->j<8->0<=g.c i j
theorem PlG.Ok.sp{g:PlG}(h:g.Ok){k:Nat}(hk:k<g.m):(g.sp k).Ok:=⟨h.w,h.h,h.o k hk,h.r,λi hi=>h.c i _ hi (h.o k hk)⟩
def orS(m:Nat)(o:Nat->Nat):SV:= .sl m 1 (λk _=> .int .i64 (o k))
def plS(g:PlG)(k i:Nat):SV:=byS (bif decide (i<k)then g.w*g.h else 0) (spr (g.sp i))
def plR(g:PlG)(k:Nat):SO:= .row 0 g.m 1 (λi _=>plS g k i) 89
def wiS(g:PlG):SV:= .sl g.m 1 (λi _=>byS (g.w*g.h) (spr (g.sp i)))
def pl1(g:PlG):Inv:=⟨Nat,λk=>k<=g.m,λk=>⟨[(0,.osl 0 0),(1,.int .i64 g.w),(2,.int .i64 g.h),(3,orS g.m g.o),(4,.int .i64 g.r),(18,.int .i64 g.m),(19,.osl 6 0),(29,.int .i64 k)],
 [clR g.w g.h g.c,.dead,.dead,.dead,.dead,.dead,plR g k]⟩,λk=>g.m-k⟩
theorem _root_.Go.Proofs.YtnhecfkpiojmhaaGreat.Tw.func48:Tw.prog.funcs[48]?=some {Tryz.f48 with body:=some au0}:=by kernel_rfl
def spPl:FSpec:=af2 48 [.arg 0] (γ:=PlG) (λl os=>match l,os with
  | [_,.int _ w,.int _ h,.sl m _ o,.int _ r,_],[.row _ _ _ f _]=>some ⟨w.toNat,h.toNat,λi j=>Sx.intOf (f i j),m,λk=>(Sx.intOf (o k 0)).toNat,r.toNat⟩
  |_,_=>none)
 (λg=>[.osl 0 0,.int .i64 g.w,.int .i64 g.h,orS g.m g.o,.int .i64 g.r,.int .i64 1]) (λg=>[clR g.w g.h g.c]) PlG.Ok wiS (λg=>[clR g.w g.h g.c])
theorem ok_pl:aa5 Tw.prog spPl:=by
 refine smW (specs:=[cl6]) (⟨cp6,trivial⟩) Tw.func48 (λg=>(⟨[(10,.inv (pl1 g))],[]⟩:Ann)) false ?_;rintro g hg;refine ac7 (B:=let T5:=λp:Prop=>Tt/\Tt/\Tt/\Tt/\Tt/\p;let A:=Aq;let z10:=(↑g.r:Int);let z9:=(↑g.h:Int);let z8:=(↑g.w:Int);let z7:=(0:Nat);let z5:=(↑g.m:Int);let z2:=(IntKind.i64=IntKind.i64);let q2:=λp:Int=>A z2/\A (p=p);let z4:=(A (g.m=g.m)/\∀i:Nat,i<g.m->Tt/\q2 ((↑(g.o i):Int)));let z1:=(IntKind.u8=IntKind.u8);let q1:=λp:Int=>A z1/\A (p=p);let z0:=(A (g.w*g.h=g.w*g.h)/\∀i:Nat,i<g.w*g.h->(chp True (λj:Nat=>q1 (g.c i j)) 7)/\q1 (g.c i (7:Nat)));T5 (Tt/\Tt/\Br (decide (z5<=(8:Int))) (T5 (Tt/\A ((0:Int)<=z5/\z5<=z5/\(↑(24:Nat):Int)*z5<=(140737488355328:Int)/\z5<=(9223372036854775807:Int))/\T5 ((∃g_1:Nat,A ((pl1 g).pre g_1)/\Tt/\(Tt/\(q2 z8)/\(q2 z9)/\z4/\(q2 z10)/\(q2 z5)/\Tt/\(A z2/\A ((0:Int)=(↑g_1:Int)))/\Tt)/\z0/\T5 ((A (z5.toNat=g.m)/\∀i:Nat,i<g.m->Tt/\A ((bif decide (i<g_1)then g.w*g.h else z7)=z7))/\Tt))/\∀g_1:Nat,let z3:=(↑g_1:Int);let z12:=(↑(g.o z3.toNat):Int);let z6:=(SpG.mk z8.toNat z9.toNat g.c z12.toNat z10.toNat);(pl1 g).pre g_1->Tt/\Br (decide (z3<z5)) (A ((0:Int)<=z3/\z3<z5)/\Tt/\((Tt/\(Tt/\(A z2/\A (z8=(↑z8.toNat:Int)))/\(A z2/\A (z9=(↑z9.toNat:Int)))/\(A z2/\A (z12=(↑z12.toNat:Int)))/\(A z2/\A (z10=(↑z10.toNat:Int)))/\Tt)/\(A (g.w*g.h=z8.toNat*z9.toNat)/\∀i:Nat,i<z8.toNat*z9.toNat->(chp True (λj:Nat=>q1 (g.c i j)) 7)/\q1 (g.c i (7:Nat)))/\Tt)/\A z6.Ok)/\A ((0:Int)<=z3/\z3<z5)/\A (z3.toNat<g.m)/\A ((-9223372036854775808:Int)<=z3+(1:Int)/\z3+(1:Int)<=(9223372036854775807:Int))/\Tt/\∃(g':Nat),A ((pl1 g).pre g')/\Tt/\((Tt/\(q2 z8)/\(q2 z9)/\z4/\(q2 z10)/\(q2 z5)/\Tt/\(A z2/\A (z3+(1:Int)=(↑g':Int)))/\Tt)/\(A (z8.toNat*z9.toNat=g.w*g.h)/\∀i:Nat,i<g.w*g.h->(chp True (λj:Nat=>q1 (g.c i j)) 7)/\q1 (g.c i (7:Nat)))/\T5 ((A (g.m=g.m)/\∀i:Nat,let z11:=(i=z3.toNat/\z7<=z7/\z7<z7+(1:Nat));i<g.m->Tt/\A ((bif decide z11 then z8.toNat*z9.toNat else bif decide (i<g_1)then g.w*g.h else z7)=bif decide (i<g')then g.w*g.h else z7)/\∀i_1:Nat,(i_1<bif decide (i<g')then g.w*g.h else z7)->Tt/\A z1/\A ((bif decide z11 then spr z6 i_1 else spr (g.sp i) i_1)=spr (g.sp i) i_1))/\Tt))/\A ((pl1 g).meas g'<(pl1 g).meas g_1)) (Tt/\Tt/\Tt/\((A (g.m=g.m)/\∀i:Nat,i<g.m->Tt/\A ((bif decide (i<g_1)then g.w*g.h else z7)=g.w*g.h)/\∀i_1:Nat,i_1<g.w*g.h->Tt/\q1 (spr (g.sp i) i_1))/\Tt)/\z0/\Tt)))) False)) ?_;simp only[chp];simp only[cln,ly,lO,xA];have hm:=hg.m;refine⟨λ_=>⟨by omega,⟨0,lB _,rfl,λi _=>?_⟩,λk hk=>⟨λhlt=>?_,λhge i hi=>?_⟩⟩,λh=>h (by omega)⟩
 ·rw[lf (ln _)];rfl
 ·have hkm:k<g.m:=by omega
  refine⟨by omega,hg.sp hkm,by omega,hkm,by omega,k+1,hkm,⟨rfl,λi hi=>?_⟩,by show g.m-(k+1)<g.m-k;omega⟩;by_cases h:i=k
  ·subst h;rw[lg ⟨rfl,lh _,uw⟩,lg (xD _)];exact⟨rfl,λ_ _=>rfl⟩
  ·rw[lf (λhc=>h hc.1),show decide (i<k+1)=decide (i<k)from xP.2 (by omega)];exact⟨rfl,λ_ _=>rfl⟩
 ·rw[lg (show i<k by omega)];rfl
end Tpn
namespace Tco
open Go.RowKit Sx Num Aff Con Rga Rgl Rgm Rgn Rgc Gat Gar Ows Apl Apt Tpn
structure CoG where
 P:Pcs
 m:Nat
 o:Nat->Nat
structure CoG.Ok(g:CoG):Prop where
 n:g.P.n<=4096
 m:g.m<=8
 o:∀k<g.m,g.o k<8
 d:∀i j,i<j->j<g.m->g.o i≠g.o j
 c:∀k j,k<g.P.n->j<8->g.P.ink k j≠0->∃i,i<g.m/\g.o i=j
def kn(o:Nat->Nat):Nat->Nat->Bool
 |0,_=>false
 |k+1,j=>kn o k j||decide (o k=j)
theorem bO7{o:Nat->Nat}{j:Nat}:∀{k},kn o k j=true<->∃i,i<k/\o i=j
 |0=>⟨λh=>(by cases h),λ⟨_,h,_⟩=>absurd h (ln _)⟩
 |k+1=>by
  unfold kn;rw[xg,bO7,lE];constructor
  ·rintro(⟨i,h1,h2⟩|h)
   ·exact⟨i,by omega,h2⟩
   ·exact⟨k,by omega,h⟩
  ·rintro⟨i,h1,h2⟩;by_cases h:i=k
   ·exact .inr (h▸h2)
   ·exact .inl ⟨i,by omega,h2⟩
def knO(g:CoG)(k:Nat):SO:= .cells 8 (λj=> .bool (kn g.o k j)) 114
def co1(g:CoG):Inv:=⟨Nat,λk=>k<=g.m,λk=>⟨[(0,pcS g.P),(5,.own 0 0),(15,orS g.m g.o),(16,.int .i64 g.m),(17,.int .i64 k)],[knO g k]⟩,λk=>g.m-k⟩
def coT(g:CoG)(k:Nat)(s:SV):St:=⟨[(0,pcS g.P),(5,.own 0 0),(7,s),(15,orS g.m g.o),(16,.int .i64 g.m),(17,.int .i64 k)],[knO g k]⟩
def coI(g:CoG)(k:Nat):Inv:=⟨Unit,λ_=>k<g.m/\g.o k<8,λ_=>coT g k (.int .i64 (g.o k)),λ_=>0⟩
def coJ(g:CoG)(k j:Nat):Inv:=⟨Unit,λ_=>k<g.m/\g.o k=j,λ_=>coT g k (.int .i64 j),λ_=>0⟩
def coJs(g:CoG)(k:Nat):List Inv:=[coJ g k 0,coJ g k 1,coJ g k 2,coJ g k 3,coJ g k 4,coJ g k 5,coJ g k 6,coJ g k 7]
theorem cg2(g:CoG)(k:Nat):bx9 55 0 (coI g k) (coJs g k):=by
 rintro _ ⟨h1,h2⟩ w0 X0 a w _ h;have h:StR w0 X0 55 (coT g k (.int .i64 (g.o k))) a w:=h;have key:∀j,g.o k=j->∃h,(coJ g k j).pre h/\StR w0 X0 55 ((coJ g k j).st h) a w:=λj hj=>⟨(),⟨h1,hj⟩,by subst hj;exact h⟩
 have h8:g.o k=0\/g.o k=1\/g.o k=2\/g.o k=3\/g.o k=4\/g.o k=5\/g.o k=6\/g.o k=7:=by omega
 rcases h8 with h|h|h|h|h|h|h|h<;>exact⟨_,by simp[coJs],key _ h⟩
def coK(g:CoG):Inv:=⟨Nat,λk=>k<=g.P.n,λk=>⟨[(5,.own 0 0),(33,pcS g.P),(34,.int .i64 g.P.n),(35,.int .i64 k)],[knO g g.m]⟩,λk=>g.P.n-k⟩
def coS(g:CoG)(k:Nat)(j:Nat):St:=⟨[(5,.own 0 0),(33,pcS g.P),(34,.int .i64 g.P.n),(35,.int .i64 k),(40,.agg 8 (λj=> .int .u8 (g.P.ink k j))),(41,.int .i64 j)],[knO g g.m]⟩
def coC(g:CoG)(k:Nat):Inv:=⟨Nat,λj=>k<g.P.n/\j<=8,λj=>coS g k j,λj=>8-j⟩
def spCo:FSpec:=aa9 47 (γ:=CoG) (λ| [s,.sl m _ o]=>some ⟨pcD s,m,λk=>(Sx.intOf (o k 0)).toNat⟩|_=>none) (λg=>[pcS g.P,orS g.m g.o]) CoG.Ok (λ_=> .int .i64 0)
theorem ok_co:aa5 Tw.prog spCo:=by
 refine ssW (specs:=[]) trivial Tw.func47 (λg=>(⟨[(5,.nest (co1 g) (λk=>[(5000009,.hand (coI g k) (coJs g k))])),(14,.nest (coK g) (λk=>[(17,.inv (coC g k))]))],[]⟩:Ann)) ?_;rintro g hg;refine ac7 (B:=let K:=Br;let A:=Aq;let z39:=(↑g.m:Int);let z29:=(9223372036854775807:Int);let z28:=(-9223372036854775808:Int);let z24:=(1:Int);let z20:=(0:Int);let z18:=(7:Nat);let z17:=(6:Nat);let z16:=(5:Nat);let z15:=(4:Nat);let z14:=(3:Nat);let z13:=(2:Nat);let z11:=(1:Nat);let z10:=(↑(8:Nat):Int);let z37:=(z20<=(↑z18:Int)/\(↑z18:Int)<z10);let z36:=(z20<=(↑z17:Int)/\(↑z17:Int)<z10);let z35:=(z20<=(↑z16:Int)/\(↑z16:Int)<z10);let z34:=(z20<=(↑z15:Int)/\(↑z15:Int)<z10);let z33:=(z20<=(↑z14:Int)/\(↑z14:Int)<z10);let z32:=(z20<=(↑z13:Int)/\(↑z13:Int)<z10);let z31:=(z20<=(↑z11:Int)/\(↑z11:Int)<z10);let z9:=(0:Nat);let z38:=(z20<=(↑z9:Int)/\(↑z9:Int)<z10);let z25:=(z9=z9);let z6:=(IntKind.u8=IntKind.u8);let q6:=λp:Int=>A z6/\A (p=p);let z2:=(IntKind.i64=IntKind.i64);let q2:=λp:Int=>A z2/\A (p=p);let z12:=(q2 ((↑g.P.n:Int)));let z8:=(Tt/\Tt/\A z2/\A ((7:Int)=z20));let z7:=(q2 z39);let z3:=(A (g.m=g.m)/\∀i:Nat,i<g.m->Tt/\q2 ((↑(g.o i):Int)));let z1:=((((((((Tt/\A (kn g.o g.m z9=kn g.o g.m z9))/\A (kn g.o g.m z11=kn g.o g.m z11))/\A (kn g.o g.m z13=kn g.o g.m z13))/\A (kn g.o g.m z14=kn g.o g.m z14))/\A (kn g.o g.m z15=kn g.o g.m z15))/\A (kn g.o g.m z16=kn g.o g.m z16))/\A (kn g.o g.m z17=kn g.o g.m z17))/\A (kn g.o g.m z18=kn g.o g.m z18));let z0:=(A (g.P.n=g.P.n)/\∀i:Nat,i<g.P.n->(chp (Tt/\A (g.P.m i=g.P.m i)/\∀i_1:Nat,let z30:=(g.P.p i i_1);i_1<g.P.m i->((Tt/\q2 z30.y)/\q2 z30.x0)/\q2 z30.x1) (λj:Nat=>q6 (g.P.ink i j)) 7)/\q6 (g.P.ink i z18));Tt/\Tt/\Tt/\Tt/\K (decide ((8:Int)<z39)) (Tt/\Tt/\A z2/\A ((2:Int)=z20)) (Tt/\Tt/\Tt/\Tt/\(∃g_1:Nat,A ((co1 g).pre g_1)/\(z0/\A z25/\z3/\z7/\(A z2/\A (z20=(↑g_1:Int)))/\Tt)/\(chp True (λj:Nat=>A (false=kn g.o g_1 j)) 8)/\Tt)/\∀g_1:Nat,let z21:=(↑g_1:Int);let z4:=(z28<=z21+z24/\z21+z24<=z29);(co1 g).pre g_1->Tt/\K (decide (z21<z39)) (A (z20<=z21/\z21<z39)/\Tt/\Tt/\Tt/\Tt/\Tt/\Tt/\Tt/\Tt/\K (decide ((8:Int)<=(↑(g.o z21.toNat):Int))) (Tt/\Tt/\A z2/\A ((3:Int)=z20)) (bx9 (nat_lit 55) (nat_lit 0) (coI g g_1) (coJs g g_1)/\(∃g_2:Unit,A ((coI g g_1).pre g_2)/\(z0/\A z25/\(A z2/\A ((↑(g.o z21.toNat):Int)=(↑(g.o g_1):Int)))/\z3/\z7/\(q2 z21)/\Tt)/\((((((((Tt/\A (kn g.o g_1 z9=kn g.o g_1 z9))/\A (kn g.o g_1 z11=kn g.o g_1 z11))/\A (kn g.o g_1 z13=kn g.o g_1 z13))/\A (kn g.o g_1 z14=kn g.o g_1 z14))/\A (kn g.o g_1 z15=kn g.o g_1 z15))/\A (kn g.o g_1 z16=kn g.o g_1 z16))/\A (kn g.o g_1 z17=kn g.o g_1 z17))/\A (kn g.o g_1 z18=kn g.o g_1 z18))/\Tt)/\(∀h:Unit,(coJ g g_1 z9).pre h->Tt/\A z38/\Tt/\K (kn g.o g_1 (z9+(↑z9:Int).toNat*z11)) z8 (Tt/\A z38/\Tt/\A z4/\Tt/\∃(g':Nat),A ((co1 g).pre g')/\((z0/\A z25/\z3/\z7/\(A z2/\A (z21+z24=(↑g':Int)))/\Tt)/\((((((((Tt/\A (true=kn g.o g' z9))/\A (kn g.o g_1 z11=kn g.o g' z11))/\A (kn g.o g_1 z13=kn g.o g' z13))/\A (kn g.o g_1 z14=kn g.o g' z14))/\A (kn g.o g_1 z15=kn g.o g' z15))/\A (kn g.o g_1 z16=kn g.o g' z16))/\A (kn g.o g_1 z17=kn g.o g' z17))/\A (kn g.o g_1 z18=kn g.o g' z18))/\Tt)/\A ((co1 g).meas g'<(co1 g).meas g_1)))/\(∀h:Unit,(coJ g g_1 z11).pre h->Tt/\A z31/\Tt/\K (kn g.o g_1 (z9+(↑z11:Int).toNat*z11)) z8 (Tt/\A z31/\Tt/\A z4/\Tt/\∃(g':Nat),A ((co1 g).pre g')/\((z0/\A z25/\z3/\z7/\(A z2/\A (z21+z24=(↑g':Int)))/\Tt)/\((((((((Tt/\A (kn g.o g_1 z9=kn g.o g' z9))/\A (true=kn g.o g' z11))/\A (kn g.o g_1 z13=kn g.o g' z13))/\A (kn g.o g_1 z14=kn g.o g' z14))/\A (kn g.o g_1 z15=kn g.o g' z15))/\A (kn g.o g_1 z16=kn g.o g' z16))/\A (kn g.o g_1 z17=kn g.o g' z17))/\A (kn g.o g_1 z18=kn g.o g' z18))/\Tt)/\A ((co1 g).meas g'<(co1 g).meas g_1)))/\(∀h:Unit,(coJ g g_1 z13).pre h->Tt/\A z32/\Tt/\K (kn g.o g_1 (z9+(↑z13:Int).toNat*z11)) z8 (Tt/\A z32/\Tt/\A z4/\Tt/\∃(g':Nat),A ((co1 g).pre g')/\((z0/\A z25/\z3/\z7/\(A z2/\A (z21+z24=(↑g':Int)))/\Tt)/\((((((((Tt/\A (kn g.o g_1 z9=kn g.o g' z9))/\A (kn g.o g_1 z11=kn g.o g' z11))/\A (true=kn g.o g' z13))/\A (kn g.o g_1 z14=kn g.o g' z14))/\A (kn g.o g_1 z15=kn g.o g' z15))/\A (kn g.o g_1 z16=kn g.o g' z16))/\A (kn g.o g_1 z17=kn g.o g' z17))/\A (kn g.o g_1 z18=kn g.o g' z18))/\Tt)/\A ((co1 g).meas g'<(co1 g).meas g_1)))/\(∀h:Unit,(coJ g g_1 z14).pre h->Tt/\A z33/\Tt/\K (kn g.o g_1 (z9+(↑z14:Int).toNat*z11)) z8 (Tt/\A z33/\Tt/\A z4/\Tt/\∃(g':Nat),A ((co1 g).pre g')/\((z0/\A z25/\z3/\z7/\(A z2/\A (z21+z24=(↑g':Int)))/\Tt)/\((((((((Tt/\A (kn g.o g_1 z9=kn g.o g' z9))/\A (kn g.o g_1 z11=kn g.o g' z11))/\A (kn g.o g_1 z13=kn g.o g' z13))/\A (true=kn g.o g' z14))/\A (kn g.o g_1 z15=kn g.o g' z15))/\A (kn g.o g_1 z16=kn g.o g' z16))/\A (kn g.o g_1 z17=kn g.o g' z17))/\A (kn g.o g_1 z18=kn g.o g' z18))/\Tt)/\A ((co1 g).meas g'<(co1 g).meas g_1)))/\(∀h:Unit,(coJ g g_1 z15).pre h->Tt/\A z34/\Tt/\K (kn g.o g_1 (z9+(↑z15:Int).toNat*z11)) z8 (Tt/\A z34/\Tt/\A z4/\Tt/\∃(g':Nat),A ((co1 g).pre g')/\((z0/\A z25/\z3/\z7/\(A z2/\A (z21+z24=(↑g':Int)))/\Tt)/\((((((((Tt/\A (kn g.o g_1 z9=kn g.o g' z9))/\A (kn g.o g_1 z11=kn g.o g' z11))/\A (kn g.o g_1 z13=kn g.o g' z13))/\A (kn g.o g_1 z14=kn g.o g' z14))/\A (true=kn g.o g' z15))/\A (kn g.o g_1 z16=kn g.o g' z16))/\A (kn g.o g_1 z17=kn g.o g' z17))/\A (kn g.o g_1 z18=kn g.o g' z18))/\Tt)/\A ((co1 g).meas g'<(co1 g).meas g_1)))/\(∀h:Unit,(coJ g g_1 z16).pre h->Tt/\A z35/\Tt/\K (kn g.o g_1 (z9+(↑z16:Int).toNat*z11)) z8 (Tt/\A z35/\Tt/\A z4/\Tt/\∃(g':Nat),A ((co1 g).pre g')/\((z0/\A z25/\z3/\z7/\(A z2/\A (z21+z24=(↑g':Int)))/\Tt)/\((((((((Tt/\A (kn g.o g_1 z9=kn g.o g' z9))/\A (kn g.o g_1 z11=kn g.o g' z11))/\A (kn g.o g_1 z13=kn g.o g' z13))/\A (kn g.o g_1 z14=kn g.o g' z14))/\A (kn g.o g_1 z15=kn g.o g' z15))/\A (true=kn g.o g' z16))/\A (kn g.o g_1 z17=kn g.o g' z17))/\A (kn g.o g_1 z18=kn g.o g' z18))/\Tt)/\A ((co1 g).meas g'<(co1 g).meas g_1)))/\(∀h:Unit,(coJ g g_1 z17).pre h->Tt/\A z36/\Tt/\K (kn g.o g_1 (z9+(↑z17:Int).toNat*z11)) z8 (Tt/\A z36/\Tt/\A z4/\Tt/\∃(g':Nat),A ((co1 g).pre g')/\((z0/\A z25/\z3/\z7/\(A z2/\A (z21+z24=(↑g':Int)))/\Tt)/\((((((((Tt/\A (kn g.o g_1 z9=kn g.o g' z9))/\A (kn g.o g_1 z11=kn g.o g' z11))/\A (kn g.o g_1 z13=kn g.o g' z13))/\A (kn g.o g_1 z14=kn g.o g' z14))/\A (kn g.o g_1 z15=kn g.o g' z15))/\A (kn g.o g_1 z16=kn g.o g' z16))/\A (true=kn g.o g' z17))/\A (kn g.o g_1 z18=kn g.o g' z18))/\Tt)/\A ((co1 g).meas g'<(co1 g).meas g_1)))/\(∀h:Unit,(coJ g g_1 z18).pre h->Tt/\A z37/\Tt/\K (kn g.o g_1 (z9+(↑z18:Int).toNat*z11)) z8 (Tt/\A z37/\Tt/\A z4/\Tt/\∃(g':Nat),A ((co1 g).pre g')/\((z0/\A z25/\z3/\z7/\(A z2/\A (z21+z24=(↑g':Int)))/\Tt)/\((((((((Tt/\A (kn g.o g_1 z9=kn g.o g' z9))/\A (kn g.o g_1 z11=kn g.o g' z11))/\A (kn g.o g_1 z13=kn g.o g' z13))/\A (kn g.o g_1 z14=kn g.o g' z14))/\A (kn g.o g_1 z15=kn g.o g' z15))/\A (kn g.o g_1 z16=kn g.o g' z16))/\A (kn g.o g_1 z17=kn g.o g' z17))/\A (true=kn g.o g' z18))/\Tt)/\A ((co1 g).meas g'<(co1 g).meas g_1)))/\Tt)) (Tt/\Tt/\Tt/\(∃g_2:Nat,A ((coK g).pre g_2)/\(A z25/\z0/\z12/\(A z2/\A (z20=(↑g_2:Int)))/\Tt)/\((((((((Tt/\A (kn g.o g_1 z9=kn g.o g.m z9))/\A (kn g.o g_1 z11=kn g.o g.m z11))/\A (kn g.o g_1 z13=kn g.o g.m z13))/\A (kn g.o g_1 z14=kn g.o g.m z14))/\A (kn g.o g_1 z15=kn g.o g.m z15))/\A (kn g.o g_1 z16=kn g.o g.m z16))/\A (kn g.o g_1 z17=kn g.o g.m z17))/\A (kn g.o g_1 z18=kn g.o g.m z18))/\Tt)/\∀g_2:Nat,let z27:=(coC g g_2);let z19:=(↑g_2:Int);let z26:=(q2 z19);let z5:=(chp True (λj:Nat=>q6 (g.P.ink g_2 j)) 8);(coK g).pre g_2->Tt/\K (decide (z19<(↑g.P.n:Int))) (A (z20<=z19/\z19<(↑g.P.n:Int))/\Tt/\Tt/\Tt/\Tt/\Tt/\Tt/\(∃g_3:Nat,A (z27.pre g_3)/\(A z25/\z0/\z12/\z26/\((((((((Tt/\A z6/\A (g.P.ink z19.toNat z9=g.P.ink g_2 z9))/\A z6/\A (g.P.ink z19.toNat z11=g.P.ink g_2 z11))/\A z6/\A (g.P.ink z19.toNat z13=g.P.ink g_2 z13))/\A z6/\A (g.P.ink z19.toNat z14=g.P.ink g_2 z14))/\A z6/\A (g.P.ink z19.toNat z15=g.P.ink g_2 z15))/\A z6/\A (g.P.ink z19.toNat z16=g.P.ink g_2 z16))/\A z6/\A (g.P.ink z19.toNat z17=g.P.ink g_2 z17))/\A z6/\A (g.P.ink z19.toNat z18=g.P.ink g_2 z18))/\(A z2/\A (z20=(↑g_3:Int)))/\Tt)/\z1/\Tt)/\∀g_3:Nat,let z23:=(↑g_3:Int);let z22:=(z28<=z23+z24/\z23+z24<=z29);z27.pre g_3->Tt/\K (decide (z23<(8:Int))) (Tt/\A (z20<=z23/\z23<z10)/\Tt/\Tt/\Tt/\Tt/\Tt/\K (decide (g.P.ink g_2 z23.toNat≠z20)) (Tt/\A (z20<=z23/\z23<z10)/\K (decide (z9+z23.toNat*z11+z11<=(8:Nat))) True False/\Tt/\Tt/\K (!kn g.o g.m (z9+z23.toNat*z11)) (Tt/\Tt/\A z2/\A ((8:Int)=z20)) (A z22/\Tt/\∃(g':Nat),A (z27.pre g')/\((A z25/\z0/\z12/\z26/\z5/\(A z2/\A (z23+z24=(↑g':Int)))/\Tt)/\z1/\Tt)/\A (z27.meas g'<z27.meas g_3))) (Tt/\A z22/\Tt/\∃(g':Nat),A (z27.pre g')/\((A z25/\z0/\z12/\z26/\z5/\(A z2/\A (z23+z24=(↑g':Int)))/\Tt)/\z1/\Tt)/\A (z27.meas g'<z27.meas g_3))) (A (z28<=z19+z24/\z19+z24<=z29)/\Tt/\∃(g':Nat),A ((coK g).pre g')/\((A z25/\z0/\z12/\(A z2/\A (z19+z24=(↑g':Int)))/\Tt)/\z1/\Tt)/\A ((coK g).meas g'<(coK g).meas g_2))) (Tt/\Tt/\q2 z20)))) ?_;simp only[chp];simp only[cln,ly,lO];have hm:=hg.m;have hn:=hg.n;refine⟨λh=>by omega,λ_=>⟨⟨0,lB _,rfl,⟨⟨⟨⟨⟨⟨⟨rfl,rfl⟩,rfl⟩,rfl⟩,rfl⟩,rfl⟩,rfl⟩,rfl⟩⟩,λk hk=>⟨λhlt=>?_,λhge=>?_⟩⟩⟩
 ·have hkm:k<g.m:=by omega
  have ho:=hg.o k hkm;have nk:∀j,g.o k=j->¬ kn g.o k j=true:=λj hj h=>by
   obtain⟨i,h1,h2⟩:=bO7.1 h;exact hg.d i k h1 hkm (h2.trans hj.symm)
  have hms:(co1 g).meas (k+1)<(co1 g).meas k:=by show g.m-(k+1)<g.m-k;omega
  refine⟨by omega,λh=>by omega,λ_=>⟨cg2 g k,⟨(),hkm,ho⟩,?_,?_,?_,?_,?_,?_,?_,?_⟩⟩;all_goals
   intro _ hj;have hj':=hj.2;refine⟨by omega,λh=>absurd h (nk _ hj'),λ_=>⟨by omega,by omega,k+1,hkm,⟨rfl,?_⟩,hms⟩⟩;simp[kn,hj']
 ·have hk:k<=g.m:=hk;obtain rfl:k=g.m:=by omega
  refine⟨⟨0,lB _,rfl,⟨⟨⟨⟨⟨⟨⟨rfl,rfl⟩,rfl⟩,rfl⟩,rfl⟩,rfl⟩,rfl⟩,rfl⟩⟩,λa ha hlt=>⟨by omega,⟨0,⟨by omega,lB _⟩,rfl⟩,λj hj=>⟨λhj8=>?_,λhj8=>?_⟩⟩⟩
  ·obtain⟨ha',hj'⟩:=hj;have hms:(coC g a).meas (j+1)<(coC g a).meas j:=by show 8-(j+1)<8-j;omega
   have hj1:j+1<=8:=by omega
   have go:(-9223372036854775808<=(j:Int)+1/\(j:Int)+1<=9223372036854775807)/\∃g':Nat,(coC g a).pre g'/\(j:Int)+1=(g':Int)/\(coC g a).meas g'<(coC g a).meas j:=⟨by omega,j+1,⟨ha',hj1⟩,rfl,hms⟩
   refine⟨by omega,λhc=>⟨by omega,λh=>h hj1,λh=>?_,λ_=>go⟩,λ_=>go⟩;have:=bO7.2 (hg.c a j ha' hj1 hc)
   rw[this]at h;cases h
  ·exact⟨by omega,a+1,by show a+1<=g.P.n;omega,rfl,by show g.P.n-(a+1)<g.P.n-a;omega⟩
structure CkG where
 w:Nat
 h:Nat
 c:CoG
 r:Nat
structure CkG.Ok(g:CkG):Prop where
 P:ChG.Ok ⟨g.w,g.h,g.c.P⟩
 c:g.c.Ok
 r:g.r<=64
def spCk:FSpec:=aa9 36 (γ:=CkG) (λ| [.int _ w,.int _ h,s,.sl m _ o,.int _ r]=>some ⟨w.toNat,h.toNat,⟨pcD s,m,λk=>(Sx.intOf (o k 0)).toNat⟩,r.toNat⟩|_=>none) (λg=>[.int .i64 g.w,.int .i64 g.h,pcS g.c.P,orS g.c.m g.c.o,.int .i64 g.r]) CkG.Ok (λ_=> .int .i64 0)
theorem ok_ck:aa5 Tw.prog spCk:=by
 refine ssW (specs:=[aB6,spCo]) (⟨aC3,ok_co,trivial⟩) Tw.func36 (λg=>A0) ?_;rintro g hg;refine ac7 (B:=let A:=Aq;let z2:=(IntKind.u8=IntKind.u8);let q2:=λp:Int=>A z2/\A (p=p);let z1:=(IntKind.i64=IntKind.i64);let q1:=λp:Int=>A z1/\A (p=p);let z0:=(A (g.c.P.n=g.c.P.n)/\∀i:Nat,i<g.c.P.n->(chp (Tt/\A (g.c.P.m i=g.c.P.m i)/\∀i_1:Nat,let z3:=(g.c.P.p i i_1);i_1<g.c.P.m i->((Tt/\q1 z3.y)/\q1 z3.x0)/\q1 z3.x1) (λj:Nat=>q2 (g.c.P.ink i j)) 7)/\q2 (g.c.P.ink i (7:Nat)));Tt/\Tt/\Tt/\Tt/\(((A z1/\A ((↑g.w:Int)=(↑(↑g.w:Int).toNat:Int)))/\(A z1/\A ((↑g.h:Int)=(↑(↑g.h:Int).toNat:Int)))/\z0/\Tt)/\A (ChG.mk (↑g.w:Int).toNat (↑g.h:Int).toNat g.c.P).Ok)/\Tt/\Tt/\Tt/\Tt/\Tt/\((z0/\(A (g.c.m=g.c.m)/\∀i:Nat,i<g.c.m->Tt/\q1 ((↑(g.c.o i):Int)))/\Tt)/\A g.c.Ok)/\Tt/\Tt/\Tt/\Tt/\Tt/\Tt/\Tt/\Tt/\Tt/\Br (decide ((64:Int)<(↑g.r:Int))) (Tt/\Tt/\A z1/\A ((3:Int)=(0:Int))) (Tt/\Tt/\q1 ((0:Int)))) ?_;simp only[chp];simp only[cln,ly,lO];have hr:=hg.r;exact⟨hg.P,hg.c,λh=>by omega⟩
end Tco
namespace Ttr
open Go.RowKit Sx Num Aff Con Rga Rgl Rgm Rgn Rgc Gat Gar Ows Apl Apt Cel Wid Trp Tsp Tpn Tco
structure TrG where
 w:Nat
 h:Nat
 P:Pcs
 m:Nat
 o:Nat->Nat
 r:Nat
def TrG.ce(g:TrG):CeG:=⟨g.w,g.h,g.P⟩
def TrG.N(g:TrG):Nat:=256*g.w*g.h
def TrG.c(g:TrG):Nat->Vec:=ceB g.ce
def TrG.pl(g:TrG):PlG:=⟨16*g.w,16*g.h,g.c,g.m,g.o,g.r⟩
def dk(v:Vec)(m:Nat)(o:Nat->Nat):Nat->Bool
 |0=>false
 |s+1=>dk v m o s||decide (v (o (m-1-s))≠0)
def tcF(v:Vec)(W:Nat->Int)(m:Nat)(o:Nat->Nat):Nat->Vec
 |0=>v
 |s+1=>λj=>bif (bif decide (v (o (m-1-s))=0)then dk v m o s else false)&&decide (j=o (m-1-s))then W (m-1-s)else tcF v W m o s j
def TrG.W(g:TrG)(i k:Nat):Int:=spr (g.pl.sp k) i
def TrG.t(g:TrG)(i:Nat):Vec:=tcF (g.c i) (g.W i) g.m g.o g.m
def TrG.d(g:TrG)(a i:Nat):Vec:=λj=>bif decide (i<a)then g.t i j else g.c i j
def TrG.of(g:TrG):OfG:=⟨g.w,g.h,g.N,g.d g.N⟩
structure TrG.Ok(g:TrG):Prop where
 w:1<=g.w/\g.w<=256
 h:1<=g.h/\g.h<=256
 ce:g.ce.Ok
 pl:g.pl.Ok
def trR(g:TrG)(f:Nat->Vec):SO:= .row 0 (256*g.w*g.h) 8 (λi j=> .int .u8 (f i j)) 45
def trT(g:TrG)(a:Nat):List (Nat×SV):=[(0,.int .i64 g.w),(1,.int .i64 g.h),(3,orS g.m g.o),(14,.osl 0 0),(15,wiS g.pl),(34,.osl 0 0),(35,.int .i64 (256*g.w*g.h)),(36,.int .i64 a)]
def tr1(g:TrG):Inv:=⟨Nat,λa=>a<=g.N,λa=>⟨trT g a,[trR g (g.d a)]⟩,λa=>g.N-a⟩
def TrG.e(g:TrG)(a s i:Nat):Vec:=λj=>bif decide (i=a)then tcF (g.c i) (g.W i) g.m g.o s j else g.d a i j
def trO(g:TrG)(a s:Nat):List SO:=[trR g (g.e a s),.cells 8 (λj=> .int .u8 (g.c a j)) 45]
def tr2(g:TrG)(a:Nat):Inv:=⟨Nat,λs=>a<g.N/\s<=g.m,λs=>⟨trT g a++[(16,.int .i64 a),(17,.own 1 0),(18,.bool (dk (g.c a) g.m g.o s)),(19,.int .i64 (g.m-1-s))],trO g a s⟩,λs=>g.m-s⟩
def tr3(g:TrG)(a s:Nat):Inv:=⟨Unit,λ_=>a<g.N/\s<g.m,λ_=>⟨trT g a++[(16,.int .i64 a),(17,.own 1 0),(18,.bool (dk (g.c a) g.m g.o s)),(19,.int .i64 (g.m-1-s)),(20,.int .i64 (g.o (g.m-1-s)))],trO g a (s+1)⟩,λ_=>0⟩
theorem aN7(v:Vec)(W:Nat->Int)(m:Nat)(o:Nat->Nat)(s j:Nat):tcF v W m o (s+1) j=if(v (o (m-1-s))=0/\dk v m o s=true)/\j=o (m-1-s)then W (m-1-s)else tcF v W m o s j:=by
 show(bif (bif decide (v (o (m-1-s))=0)then dk v m o s else false)&&decide (j=o (m-1-s))then W (m-1-s)else tcF v W m o s j)=_;by_cases h1:v (o (m-1-s))=0
 ·rw[lg h1,ur];cases h2:dk v m o s with
  |false=>rw[lu λh=>by cases h.1.2];rfl
  |true=>
   by_cases h3:j=o (m-1-s)
   ·rw[ll ⟨⟨h1,rfl⟩,h3⟩,lg h3];rfl
   ·rw[lu λh=>h3 h.2,lf h3];rfl
 ·rw[lf h1,lu λh=>h1 h.1.1];rfl
theorem b75{g:TrG}{a s i j:Nat}(h:¬ (g.c a (g.o (g.m-1-s))=0/\dk (g.c a) g.m g.o s=true)):g.e a s i j=g.e a (s+1) i j:=by
 unfold TrG.e;by_cases hi:i=a
 ·subst hi;rw[lg rfl,ur,ur,aN7,lu λhc=>h hc.1]
 ·rw[lf hi];rfl
theorem e_set{g:TrG}{a s i j k:Nat}(hk:g.m-1-s=k)(h1:g.c a (g.o k)=0)(h2:dk (g.c a) g.m g.o s=true){p:Prop}{inst:Decidable p}(hp:p<->i=a/\g.o k<=j/\j<g.o k+1):(bif @decide p inst then spr (g.pl.sp k) a else g.e a s i j)=g.e a (s+1) i j:=by
 subst hk;refine b82 (λh=>?_) (λh=>?_)
 ·obtain⟨rfl,h3,h4⟩:=hp.1 h;unfold TrG.e;rw[lg rfl,ur,aN7,ll ⟨⟨h1,h2⟩,by omega⟩];rfl
 ·unfold TrG.e;by_cases hi:i=a
  ·subst hi;rw[lg rfl,ur,ur,aN7,lu λhc=>h (hp.2 ⟨rfl,by omega,by omega⟩)]
  ·rw[lf hi];rfl
theorem bp5{v:Vec}{m:Nat}{o:Nat->Nat}{s:Nat}:dk v m o (s+1)=(dk v m o s||decide (v (o (m-1-s))≠0)):=rfl
def spTr:FSpec:=aa9 37 (γ:=TrG) (λ| [.int _ w,.int _ h,s,.sl m _ o,.int _ r,_]=>some ⟨w.toNat,h.toNat,pcD s,m,λk=>(Sx.intOf (o k 0)).toNat,r.toNat⟩|_=>none)
 (λg=>[.int .i64 g.w,.int .i64 g.h,pcS g.P,orS g.m g.o,.int .i64 g.r,.int .i64 1]) TrG.Ok (λg=>pcA (ofA g.of))
theorem ok_tr:aa5 Tw.prog spTr:=by
 refine ssW (specs:=[bl8,spPl,giv spOf]) (⟨bu7,ok_pl,aC8 ce6,trivial⟩) Tw.func37 (λg=>(⟨[(4,.nest (tr1 g) (λa=>[(8,.nest (tr2 g a) (λs=>[(13,.cut (tr3 g a s))]))]))],[]⟩:Ann)) ?_;rintro g hg;refine ac7 (B:=let T5:=λp:Prop=>Tt/\Tt/\Tt/\Tt/\Tt/\p;let K:=Br;let A:=Aq;let z52:=(16:Nat);let z42:=(ofA g.of);let z41:=(0:Int);let z40:=(z52*g.h);let z39:=(9223372036854775807:Int);let z37:=(-9223372036854775808:Int);let z34:=(16:Int);let z32:=(7:Nat);let z31:=(6:Nat);let z30:=(5:Nat);let z29:=(4:Nat);let z28:=(3:Nat);let z27:=(2:Nat);let z23:=(256:Nat);let z22:=(1:Int);let z21:=(↑g.m:Int);let z18:=(Gar.Gt.P z42);let z17:=(z23*g.w*g.h=z23*g.w*g.h);let z16:=(↑g.h:Int);let z50:=(z34*z16);let z15:=(↑g.w:Int);let z49:=(z34*z15);let z14:=(0:Nat);let z10:=(1:Nat);let z6:=(IntKind.i64=IntKind.i64);let q6:=λp:Int=>A z6/\A (p=p);let z47:=(A z6/\A (z16=(↑z16.toNat:Int)));let z46:=(A z6/\A (z15=(↑z15.toNat:Int)));let z25:=(q6 z16);let z24:=(q6 z15);let z11:=(q6 ((256:Int)*z15*z16));let z9:=(A (g.m=g.m)/\∀i:Nat,i<g.m->Tt/\q6 ((↑(g.o i):Int)));let z4:=(CeG.mk z15.toNat z16.toNat g.P);let z26:=(PlG.mk z49.toNat z50.toNat (ceB z4) g.m (λ(k:Nat)=>(↑(g.o k):Int).toNat) (↑g.r:Int).toNat);let z0:=(IntKind.u8=IntKind.u8);let q0:=λp:Int=>A z0/\A (p=p);let z7:=(A (g.m=g.m)/\∀i:Nat,i<g.m->Tt/\A (z52*g.w*z40=z52*g.w*z40)/\∀i_1:Nat,i_1<z52*g.w*z40->Tt/\q0 (spr (g.pl.sp i) i_1));T5 (((z46/\z47/\(A (g.P.n=g.P.n)/\∀i:Nat,i<g.P.n->(chp (Tt/\A (g.P.m i=g.P.m i)/\∀i_1:Nat,let z44:=(g.P.p i i_1);i_1<g.P.m i->((Tt/\q6 z44.y)/\q6 z44.x0)/\q6 z44.x1) (λj:Nat=>q0 (g.P.ink i j)) 7)/\q0 (g.P.ink i z32))/\Tt)/\A z4.Ok)/\Tt/\Tt/\Tt/\A (z37<=z34*z15/\z34*z15<=z39)/\Tt/\A (z37<=z34*z16/\z34*z16<=z39)/\Tt/\Tt/\Tt/\((Tt/\(Tt/\(A z6/\A (z34*z15=(↑z49.toNat:Int)))/\(A z6/\A (z34*z16=(↑z50.toNat:Int)))/\(A (g.m=g.m)/\∀i:Nat,i<g.m->Tt/\A z6/\A ((↑(g.o i):Int)=(↑(↑(g.o i):Int).toNat:Int)))/\(A z6/\A ((↑g.r:Int)=(↑(↑g.r:Int).toNat:Int)))/\(q6 z22)/\Tt)/\(A (z23*z15.toNat*z16.toNat=z49.toNat*z50.toNat)/\∀i:Nat,i<z49.toNat*z50.toNat->(chp True (λj:Nat=>q0 (ceB z4 i j)) 7)/\q0 (ceB z4 i z32))/\Tt)/\A z26.Ok)/\Tt/\Tt/\Tt/\Tt/\(∃g_1:Nat,A ((tr1 g).pre g_1)/\(z24/\z25/\z9/\Tt/\(A (g.m=g.m)/\∀i:Nat,i<g.m->Tt/\A (z49.toNat*z50.toNat=z52*g.w*z40)/\∀i_1:Nat,i_1<z52*g.w*z40->Tt/\A z0/\A (spr (z26.sp i) i_1=spr (g.pl.sp i) i_1))/\Tt/\(A z6/\A ((↑(z49.toNat*z50.toNat):Int)=(256:Int)*z15*z16))/\(A z6/\A (z41=(↑g_1:Int)))/\Tt)/\(A (z49.toNat*z50.toNat=z23*g.w*g.h)/\∀i:Nat,i<z23*g.w*g.h->(((((((Tt/\A z0/\A (ceB z4 i z14=g.d g_1 i z14))/\A z0/\A (ceB z4 i z10=g.d g_1 i z10))/\A z0/\A (ceB z4 i z27=g.d g_1 i z27))/\A z0/\A (ceB z4 i z28=g.d g_1 i z28))/\A z0/\A (ceB z4 i z29=g.d g_1 i z29))/\A z0/\A (ceB z4 i z30=g.d g_1 i z30))/\A z0/\A (ceB z4 i z31=g.d g_1 i z31))/\A z0/\A (ceB z4 i z32=g.d g_1 i z32))/\Tt)/\∀g_1:Nat,let z43:=(tr2 g g_1);let z12:=(↑g_1:Int);let z51:=(z41<=z12/\z12<(↑(z23*g.w*g.h):Int));let z20:=(q6 z12);let z5:=(ofA (OfG.mk z15.toNat z16.toNat (z23*g.w*g.h) (g.d g_1)));let z36:=(Gar.Gt.P z5);let z2:=(chp True (λj:Nat=>q0 (g.c g_1 j)) 8);(tr1 g).pre g_1->Tt/\K (decide (z12<(256:Int)*z15*z16)) (Tt/\A z51/\A (z12.toNat<z23*g.w*g.h)/\T5 (Tt/\A (z37<=z21-z22/\z21-z22<=z39)/\Tt/\(∃g_2:Nat,A (z43.pre g_2)/\(z24/\z25/\z9/\Tt/\z7/\Tt/\z11/\z20/\z20/\A (z14=z14)/\A (false=dk (g.c g_1) g.m g.o g_2)/\(A z6/\A (z21-z22=z21-z22-(↑g_2:Int)))/\Tt)/\(A z17/\∀i:Nat,i<z23*g.w*g.h->(((((((Tt/\A z0/\A (g.d g_1 i z14=g.e g_1 g_2 i z14))/\A z0/\A (g.d g_1 i z10=g.e g_1 g_2 i z10))/\A z0/\A (g.d g_1 i z27=g.e g_1 g_2 i z27))/\A z0/\A (g.d g_1 i z28=g.e g_1 g_2 i z28))/\A z0/\A (g.d g_1 i z29=g.e g_1 g_2 i z29))/\A z0/\A (g.d g_1 i z30=g.e g_1 g_2 i z30))/\A z0/\A (g.d g_1 i z31=g.e g_1 g_2 i z31))/\A z0/\A (g.d g_1 i z32=g.e g_1 g_2 i z32))/\((((((((Tt/\A z0/\A (g.d g_1 z12.toNat (z14+z14)=g.c g_1 z14))/\A z0/\A (g.d g_1 z12.toNat (z14+z10)=g.c g_1 z10))/\A z0/\A (g.d g_1 z12.toNat (z14+z27)=g.c g_1 z27))/\A z0/\A (g.d g_1 z12.toNat (z14+z28)=g.c g_1 z28))/\A z0/\A (g.d g_1 z12.toNat (z14+z29)=g.c g_1 z29))/\A z0/\A (g.d g_1 z12.toNat (z14+z30)=g.c g_1 z30))/\A z0/\A (g.d g_1 z12.toNat (z14+z31)=g.c g_1 z31))/\A z0/\A (g.d g_1 z12.toNat (z14+z32)=g.c g_1 z32))/\Tt)/\∀g_2:Nat,let z53:=(tr3 g g_1 g_2);let z38:=(↑g_2:Int);let z48:=(z41<=z21-z22-z38/\z21-z22-z38<z21);let z35:=(↑(g.o (g.m-z10-g_2)):Int);let z33:=(z37<=z21-z22-z38-z22/\z21-z22-z38-z22<=z39);let z19:=(g_2+z10);let z13:=(g.pl.sp (z21-z22-z38).toNat);let z8:=(A z17/\∀i:Nat,i<z23*g.w*g.h->(((((((Tt/\A z0/\A (g.e g_1 g_2 i z14=g.e g_1 z19 i z14))/\A z0/\A (g.e g_1 g_2 i z10=g.e g_1 z19 i z10))/\A z0/\A (g.e g_1 g_2 i z27=g.e g_1 z19 i z27))/\A z0/\A (g.e g_1 g_2 i z28=g.e g_1 z19 i z28))/\A z0/\A (g.e g_1 g_2 i z29=g.e g_1 z19 i z29))/\A z0/\A (g.e g_1 g_2 i z30=g.e g_1 z19 i z30))/\A z0/\A (g.e g_1 g_2 i z31=g.e g_1 z19 i z31))/\A z0/\A (g.e g_1 g_2 i z32=g.e g_1 z19 i z32));let z3:=(↑(g.o (z21-z22-z38).toNat):Int);let z54:=(z41<=z3/\z3<(↑(8:Nat):Int));let z45:=(decide (z14+z3.toNat*z10+z10<=(8:Nat)));let z1:=(z24/\z25/\z9/\Tt/\z7/\Tt/\z11/\z20/\z20/\A (z14=z14)/\A (dk (g.c g_1) g.m g.o g_2=dk (g.c g_1) g.m g.o g_2)/\(q6 (z21-z22-z38))/\(A z6/\A (z3=z35))/\Tt);z43.pre g_2->Tt/\Tt/\K (decide (z41<=z21-z22-z38)) (Tt/\Tt/\A z48/\Tt/\Tt/\(Tt/\A z54/\K z45 True False/\Tt/\Tt/\K (decide (g.c g_1 (z14+z3.toNat*z10)=z41)) (Tt/\Tt/\K (dk (g.c g_1) g.m g.o g_2) (T5 (A z48/\Tt/\Tt/\A (z41<=z12/\z12<(↑(z52*g.w*z40):Int))/\Tt/\A z51/\A z54/\K z45 (A (z12.toNat<z23*g.w*g.h)) False/\∃g_3:Unit,A (z53.pre g_3)/\z1/\(A z17/\∀i:Nat,i<z23*g.w*g.h->(((((((Tt/\A z0/\A ((bif decide (i=z12.toNat/\z14+z3.toNat*z10<=z14/\z14<z14+z3.toNat*z10+z10)then spr z13 z12.toNat else g.e g_1 g_2 i z14)=g.e g_1 z19 i z14))/\A z0/\A ((bif decide (i=z12.toNat/\z14+z3.toNat*z10<=z10/\z10<z14+z3.toNat*z10+z10)then spr z13 z12.toNat else g.e g_1 g_2 i z10)=g.e g_1 z19 i z10))/\A z0/\A ((bif decide (i=z12.toNat/\z14+z3.toNat*z10<=z27/\z27<z14+z3.toNat*z10+z10)then spr z13 z12.toNat else g.e g_1 g_2 i z27)=g.e g_1 z19 i z27))/\A z0/\A ((bif decide (i=z12.toNat/\z14+z3.toNat*z10<=z28/\z28<z14+z3.toNat*z10+z10)then spr z13 z12.toNat else g.e g_1 g_2 i z28)=g.e g_1 z19 i z28))/\A z0/\A ((bif decide (i=z12.toNat/\z14+z3.toNat*z10<=z29/\z29<z14+z3.toNat*z10+z10)then spr z13 z12.toNat else g.e g_1 g_2 i z29)=g.e g_1 z19 i z29))/\A z0/\A ((bif decide (i=z12.toNat/\z14+z3.toNat*z10<=z30/\z30<z14+z3.toNat*z10+z10)then spr z13 z12.toNat else g.e g_1 g_2 i z30)=g.e g_1 z19 i z30))/\A z0/\A ((bif decide (i=z12.toNat/\z14+z3.toNat*z10<=z31/\z31<z14+z3.toNat*z10+z10)then spr z13 z12.toNat else g.e g_1 g_2 i z31)=g.e g_1 z19 i z31))/\A z0/\A ((bif decide (i=z12.toNat/\z14+z3.toNat*z10<=z32/\z32<z14+z3.toNat*z10+z10)then spr z13 z12.toNat else g.e g_1 g_2 i z32)=g.e g_1 z19 i z32))/\z2/\Tt)) (∃g_3:Unit,A (z53.pre g_3)/\z1/\z8/\z2/\Tt)) (Tt/\∃g_3:Unit,A (z53.pre g_3)/\z1/\z8/\z2/\Tt))/\∀g_3:Unit,z53.pre g_3->Tt/\Tt/\K (dk (g.c g_1) g.m g.o g_2) (Tt/\Tt/\Tt/\A z33/\Tt/\∃(g':Nat),A (z43.pre g')/\((z24/\z25/\z9/\Tt/\z7/\Tt/\z11/\z20/\z20/\A (z14=z14)/\A (true=dk (g.c g_1) g.m g.o g')/\(A z6/\A (z21-z22-z38-z22=z21-z22-(↑g':Int)))/\Tt)/\(A z17/\∀i:Nat,i<z23*g.w*g.h->(((((((Tt/\A z0/\A (g.e g_1 z19 i z14=g.e g_1 g' i z14))/\A z0/\A (g.e g_1 z19 i z10=g.e g_1 g' i z10))/\A z0/\A (g.e g_1 z19 i z27=g.e g_1 g' i z27))/\A z0/\A (g.e g_1 z19 i z28=g.e g_1 g' i z28))/\A z0/\A (g.e g_1 z19 i z29=g.e g_1 g' i z29))/\A z0/\A (g.e g_1 z19 i z30=g.e g_1 g' i z30))/\A z0/\A (g.e g_1 z19 i z31=g.e g_1 g' i z31))/\A z0/\A (g.e g_1 z19 i z32=g.e g_1 g' i z32))/\z2/\Tt)/\A (z43.meas g'<z43.meas g_2)) (Tt/\A (z41<=z35/\z35<(↑(8:Nat):Int))/\K (decide (z14+z35.toNat*z10+z10<=(8:Nat))) True False/\Tt/\Tt/\Tt/\Tt/\A z33/\Tt/\∃(g':Nat),A (z43.pre g')/\((z24/\z25/\z9/\Tt/\z7/\Tt/\z11/\z20/\z20/\A (z14=z14)/\A (decide (g.c g_1 (z14+z35.toNat*z10)≠z41)=dk (g.c g_1) g.m g.o g')/\(A z6/\A (z21-z22-z38-z22=z21-z22-(↑g':Int)))/\Tt)/\(A z17/\∀i:Nat,i<z23*g.w*g.h->(((((((Tt/\A z0/\A (g.e g_1 z19 i z14=g.e g_1 g' i z14))/\A z0/\A (g.e g_1 z19 i z10=g.e g_1 g' i z10))/\A z0/\A (g.e g_1 z19 i z27=g.e g_1 g' i z27))/\A z0/\A (g.e g_1 z19 i z28=g.e g_1 g' i z28))/\A z0/\A (g.e g_1 z19 i z29=g.e g_1 g' i z29))/\A z0/\A (g.e g_1 z19 i z30=g.e g_1 g' i z30))/\A z0/\A (g.e g_1 z19 i z31=g.e g_1 g' i z31))/\A z0/\A (g.e g_1 z19 i z32=g.e g_1 g' i z32))/\z2/\Tt)/\A (z43.meas g'<z43.meas g_2))) (A (z37<=z12+z22/\z12+z22<=z39)/\Tt/\∃(g':Nat),A ((tr1 g).pre g')/\((z24/\z25/\z9/\Tt/\z7/\Tt/\z11/\(A z6/\A (z12+z22=(↑g':Int)))/\Tt)/\(A z17/\∀i:Nat,i<z23*g.w*g.h->(((((((Tt/\A z0/\A (g.e g_1 g_2 i z14=g.d g' i z14))/\A z0/\A (g.e g_1 g_2 i z10=g.d g' i z10))/\A z0/\A (g.e g_1 g_2 i z27=g.d g' i z27))/\A z0/\A (g.e g_1 g_2 i z28=g.d g' i z28))/\A z0/\A (g.e g_1 g_2 i z29=g.d g' i z29))/\A z0/\A (g.e g_1 g_2 i z30=g.d g' i z30))/\A z0/\A (g.e g_1 g_2 i z31=g.d g' i z31))/\A z0/\A (g.e g_1 g_2 i z32=g.d g' i z32))/\Tt)/\A ((tr1 g).meas g'<(tr1 g).meas g_1)))) (Tt/\Tt/\Tt/\((z46/\z47/\(A z17/\∀i:Nat,i<z23*g.w*g.h->(chp True (λj:Nat=>q0 (g.d g_1 i j)) 7)/\q0 (g.d g_1 i z32))/\Tt)/\A ((z10<=z15.toNat/\z15.toNat<=z23)/\(z10<=z16.toNat/\z16.toNat<=z23)/\z23*g.w*g.h=z23*z15.toNat*z16.toNat))/\T5 ((Tt/\A ((bif z5.full then z14 else z5.n)=bif z42.full then z14 else z42.n)/\∀i:Nat,(i<bif z42.full then z14 else z42.n)->((((((((Tt/\A (z36.m i=z18.m i)/\∀i_1:Nat,i_1<z18.m i->((Tt/\A z6/\A ((z36.p i i_1).y=(z18.p i i_1).y))/\A z6/\A ((z36.p i i_1).x0=(z18.p i i_1).x0))/\A z6/\A ((z36.p i i_1).x1=(z18.p i i_1).x1))/\A z0/\A (z36.ink i z14=z18.ink i z14))/\A z0/\A (z36.ink i z10=z18.ink i z10))/\A z0/\A (z36.ink i z27=z18.ink i z27))/\A z0/\A (z36.ink i z28=z18.ink i z28))/\A z0/\A (z36.ink i z29=z18.ink i z29))/\A z0/\A (z36.ink i z30=z18.ink i z30))/\A z0/\A (z36.ink i z31=z18.ink i z31))/\A z0/\A (z36.ink i z32=z18.ink i z32))/\A z6/\A ((bif z5.full then(2:Int)else z41)=bif z42.full then(2:Int)else z41))))) ?_;simp only[chp];simp only[cln,ly,lO,xA];have hw:=hg.w;have hh:=hg.h;have hm:=hg.pl.m;have hm:g.m<=8:=hm;have ew:(16*(g.w:Int)).toNat=16*g.w:=by omega
 have eh:(16*(g.h:Int)).toNat=16*g.h:=by omega
 have eN:16*g.w*(16*g.h)=256*g.w*g.h:=by grind
 have eI:256*(g.w:Int)*(g.h:Int)=((256*g.w*g.h:Nat):Int):=by simp
 have hN:256*g.w*g.h<=256*256*256:=ue (uS _ hw.2) hh.2;have hNd:g.N=256*g.w*g.h:=rfl;rw[ew,eh,eI];refine⟨hg.ce,by omega,by omega,⟨⟨⟨by omega,by omega⟩,eN.symm⟩,hg.pl⟩,⟨0,lB _,⟨λi _=>⟨rfl,λ_ _=>rfl⟩,by rw[eN],rfl⟩,eN,λi _=>eight (a:=ceB ⟨g.w,g.h,g.P⟩ i) (λj _=>?_)⟩,λa ha=>⟨λhlt=>?_,λhge=>?_⟩⟩
 ·show _=bif decide (i<0)then _ else _
  rw[lf (ln _)];rfl
 ·have han:a<g.N:=by omega
  refine⟨by omega,by omega,by omega,⟨0,⟨han,lB _⟩,⟨rfl,by omega⟩,λi _=>eight (λj _=>?_),eight (a:=g.d a a) (λj _=>?_)⟩,λs hs=>⟨λhs1=>?_,λhs1=>?_⟩⟩
  ·unfold TrG.e;by_cases hi:i=a
   ·subst hi;rw[lg rfl,ur];show(bif decide (i<i)then _ else _)=_;rw[lf (xt _)];rfl
   ·rw[lf hi];rfl
  ·show(bif decide (a<a)then _ else _)=_;rw[lf (xt _)];rfl
  ·obtain⟨_,hsm⟩:=hs;have hsm:s<g.m:=by omega
   have ek:((g.m:Int)-1-(s:Int)).toNat=g.m-1-s:=by omega
   rw[ek];generalize hk:g.m-1-s=k;have hkm:k<g.m:=by omega
   have ho:g.o k<8:=hg.pl.o k hkm;have han':a<256*g.w*g.h:=han;have hpre:(tr3 g a s).pre ():=⟨han,hsm⟩
   have hms:(tr2 g a).meas (s+1)<(tr2 g a).meas s:=by show g.m-(s+1)<g.m-s;omega
   have hpre2:(tr2 g a).pre (s+1):=⟨han,hsm⟩
   have fin:∀i<256*g.w*g.h,_:=λi _=>eight (a:=g.e a (s+1) i) (b:=g.e a (s+1) i) (λ_ _=>rfl)
   refine⟨by omega,⟨by omega,λh=>h (by omega),λhz=>⟨λhd=>⟨by omega,by omega,by omega,by omega,⟨λ_=>han',λh=>h (by omega)⟩,(),hpre,rfl,λi _=>?_⟩,λhd=>⟨(),hpre,rfl,λi _=>eight λj _=>b75 λhc=>by rw[hd]at hc;cases hc.2⟩⟩,λhz=>⟨(),hpre,rfl,λi _=>eight λj _=>b75 λhc=>hz (by rw[<-hk];exact hc.1)⟩⟩,λ_ _=>⟨λhd=>⟨by omega,s+1,hpre2,⟨⟨by rw[bp5,hd];rfl,by omega⟩,fin⟩,hms⟩,λhd=>⟨by omega,λh=>h (by omega),by omega,s+1,hpre2,⟨⟨by rw[bp5,hd,hk];rfl,by omega⟩,fin⟩,hms⟩⟩⟩;have es:=λj (p:Prop) (inst:Decidable p) (hp:p<->i=a/\g.o k<=j/\j<g.o k+1)=>e_set (inst:=inst) hk hz hd (i:=i) (j:=j) hp
   exact⟨⟨⟨⟨⟨⟨⟨es 0 _ _ uU,es 1 _ _ uU⟩,es 2 _ _ uU⟩,es 3 _ _ uU⟩,es 4 _ _ uU⟩,es 5 _ _ uU⟩,es 6 _ _ uU⟩,es 7 _ _ uU⟩
  ·obtain⟨_,hsm⟩:=hs;obtain rfl:s=g.m:=by omega
   refine⟨by omega,a+1,han,⟨rfl,λi _=>eight (λj _=>?_)⟩,by show g.N-(a+1)<g.N-a;omega⟩;unfold TrG.e TrG.d;by_cases hi:i=a
   ·subst hi;rw[lg rfl,lg (xD _)];rfl
   ·rw[lf hi,show decide (i<a+1)=decide (i<a)from xP.2 (by omega)];rfl
 ·have ha:a<=g.N:=ha;obtain rfl:a=g.N:=by omega
  refine⟨⟨hw,hh⟩,⟨rfl,λi _=>?_⟩,rfl⟩;exact⟨⟨⟨⟨⟨⟨⟨⟨⟨rfl,λ_ _=>⟨⟨rfl,rfl⟩,rfl⟩⟩,rfl⟩,rfl⟩,rfl⟩,rfl⟩,rfl⟩,rfl⟩,rfl⟩,rfl⟩
def TrG.ck(g:TrG):CkG:=⟨g.w,g.h,⟨g.P,g.m,g.o⟩,g.r⟩
def ck5(dec:List SV->Option TrG):FSpec:=aa9 17 (γ:=TrG) dec
 (λg=>[.int .i64 g.w,.int .i64 g.h,pcS g.P,orS g.m g.o,.int .i64 g.r]) (λg=>g.Ok/\g.ck.Ok) (λg=>pcA (ofA g.of))
theorem bX7(dec:List SV->Option TrG):aa5 Tw.prog (ck5 dec):=by
 refine ssW (specs:=[spCk,spTr]) (⟨ok_ck,ok_tr,trivial⟩) Tw.func17 (λg=>A0) ?_;rintro g ⟨hg,hc⟩;refine ac7 (B:=let A:=Aq;let z11:=(ofA g.of);let z6:=(TrG.mk (↑g.w:Int).toNat (↑g.h:Int).toNat g.P g.m (λ(k:Nat)=>(↑(g.o k):Int).toNat) (↑g.r:Int).toNat);let z4:=(Gar.Gt.P z11);let z3:=(IntKind.u8=IntKind.u8);let q3:=λp:Int=>A z3/\A (p=p);let z2:=(IntKind.i64=IntKind.i64);let q2:=λp:Int=>A z2/\A (p=p);let z10:=(A z2/\A ((↑g.r:Int)=(↑(↑g.r:Int).toNat:Int)));let z9:=(A z2/\A ((↑g.h:Int)=(↑(↑g.h:Int).toNat:Int)));let z8:=(A z2/\A ((↑g.w:Int)=(↑(↑g.w:Int).toNat:Int)));let z5:=(A (g.m=g.m)/\∀i:Nat,i<g.m->Tt/\A z2/\A ((↑(g.o i):Int)=(↑(↑(g.o i):Int).toNat:Int)));let z1:=(A (g.P.n=g.P.n)/\∀i:Nat,i<g.P.n->(chp (Tt/\A (g.P.m i=g.P.m i)/\∀i_1:Nat,let z12:=(g.P.p i i_1);i_1<g.P.m i->((Tt/\q2 z12.y)/\q2 z12.x0)/\q2 z12.x1) (λj:Nat=>q3 (g.P.ink i j)) 7)/\q3 (g.P.ink i (7:Nat)));let z0:=(ofA z6.of);let z7:=(Gar.Gt.P z0);Tt/\Tt/\Tt/\Tt/\Tt/\Tt/\Tt/\((z8/\z9/\z1/\z5/\z10/\Tt)/\A (CkG.mk (↑g.w:Int).toNat (↑g.h:Int).toNat (CoG.mk g.P g.m λ(k:Nat)=>(↑(g.o k):Int).toNat) (↑g.r:Int).toNat).Ok)/\Tt/\Tt/\Tt/\Tt/\Tt/\Tt/\Tt/\Tt/\((z8/\z9/\z1/\z5/\z10/\(q2 ((1:Int)))/\Tt)/\A z6.Ok)/\Tt/\Tt/\Tt/\Tt/\Tt/\(Tt/\A ((bif z0.full then(0:Nat)else z0.n)=bif z11.full then(0:Nat)else z11.n)/\∀i:Nat,(i<bif z11.full then(0:Nat)else z11.n)->((((((((Tt/\A (z7.m i=z4.m i)/\∀i_1:Nat,i_1<z4.m i->((Tt/\A z2/\A ((z7.p i i_1).y=(z4.p i i_1).y))/\A z2/\A ((z7.p i i_1).x0=(z4.p i i_1).x0))/\A z2/\A ((z7.p i i_1).x1=(z4.p i i_1).x1))/\A z3/\A (z7.ink i (0:Nat)=z4.ink i (0:Nat)))/\A z3/\A (z7.ink i (1:Nat)=z4.ink i (1:Nat)))/\A z3/\A (z7.ink i (2:Nat)=z4.ink i (2:Nat)))/\A z3/\A (z7.ink i (3:Nat)=z4.ink i (3:Nat)))/\A z3/\A (z7.ink i (4:Nat)=z4.ink i (4:Nat)))/\A z3/\A (z7.ink i (5:Nat)=z4.ink i (5:Nat)))/\A z3/\A (z7.ink i (6:Nat)=z4.ink i (6:Nat)))/\A z3/\A (z7.ink i (7:Nat)=z4.ink i (7:Nat)))/\A z2/\A ((bif z0.full then(2:Int)else(0:Int))=bif z11.full then(2:Int)else(0:Int))) ?_;simp only[chp];simp only[cln,ly,lO,xA];exact⟨hc,hg⟩
end Ttr
namespace Ofl
open Go.RowKit Go.Lib Go.Sort Sx Num Aff Con Rga Rgl Rgm Rgn Rgf Gat Gar Ows Apl Apt
theorem bT8{L:List Rn}(h:L≠[])(r:Rn):(rI (addR L r) 0).y=(rI L 0).y/\(rI (addR L r) 0).x0=(rI L 0).x0:=by
 rcases aj8 L with rfl|⟨P,s,rfl⟩
 ·exact absurd rfl h
 rw[ax2];cases P with
 |nil=>
  split
  ·split<;>exact⟨rfl,rfl⟩
  ·exact⟨rfl,rfl⟩
 |cons q P=>
  split
  ·split<;>exact⟨rfl,rfl⟩
  ·exact⟨rfl,rfl⟩
theorem cu2{L:List Rn}{r:Rn}(h:r.x0<r.x1):0<(addR L r).length:=by
 rcases aj8 L with rfl|⟨P,s,rfl⟩
 ·rw[add_nil,ll h];exact uw
 ·rw[ax2,ll h];split<;>simp
theorem aE4{L:List Rn}{y x y' x':Int}(h:aftE L y x)(hh:y<y'\/(y=y'/\x<=x')):aftE L y' x':=λs hs=>by
 have:=h s hs
 omega
def Gt.Q(G:Gt):Pcs:=⟨G.n,G.m,G.p,G.ink⟩
theorem ax3(G:Gt)(k:Nat)(L:List Rn):Pcs.L (Gt.Q (putP G k L)) k=L:=by
 show Lf (λj=>bif decide (k=k)then rI L j else G.p k j) (updN G.m k L.length k)=L;rw[ah5];have:(λj=>bif decide (k=k)then rI L j else G.p k j)=rI L:=by funext j;rw[lg rfl];rfl
 rw[this,b22]
theorem aN2(G:Gt){k j:Nat}(L:List Rn)(h:j≠k):Pcs.L (Gt.Q (putP G k L)) j=Pcs.L (Gt.Q G) j:=by
 show Lf (λi=>bif decide (j=k)then rI L i else G.p j i) (updN G.m k L.length j)=_;rw[aq9 (xG h)];have:(λi=>bif decide (j=k)then rI L i else G.p j i)=G.p j:=by funext i;rw[lf h];rfl
 rw[this];rfl
def ck(f:Nat->Vec)(W:Nat)(y x:Int):List Int:=kOf (f (y.toNat*W+x.toNat))
def Dn(W:Nat)(y x:Nat)(y' x':Int):Prop:=0<=y'/\(0<=x'/\x'<W)/\(y'<y\/(y'=y/\x'<x))
structure GJ(f:Nat->Vec)(W y x:Nat)(G:Gt):Prop where
 has:∀l,G.has l=true<->∃k,k<G.n/\kOf (G.ink k)=l
 val:∀k<G.n,G.val (kOf (G.ink k))=k
 nz:∀k<G.n,kOf (G.ink k)≠nul
 from':∀k<G.n,∃i,G.ink k=f i
 v:∀k<G.n,vld (Pcs.L (Gt.Q G) k)
 ne:∀k<G.n,0<G.m k
 e:∀k<G.n,aftE (Pcs.L (Gt.Q G) k) y x
 m:∀k<G.n,∀y' x',mem (Pcs.L (Gt.Q G) k) y' x'=true<->Dn W y x y' x'/\ck f W y' x'=kOf (G.ink k)
 cov:∀y' x',Dn W y x y' x'->ck f W y' x'≠nul->∃k,k<G.n/\kOf (G.ink k)=ck f W y' x'
 ord:∀k,k+1<G.n->(G.p k 0).y<(G.p (k+1) 0).y\/((G.p k 0).y=(G.p (k+1) 0).y/\(G.p k 0).x0<=(G.p (k+1) 0).x0)
structure GI(f:Nat->Vec)(W y x cnt:Nat)(G:Gt):Prop where
 nf:G.full=true->4096<cnt
 nc:G.n<=cnt
 n4:G.n<=4096
 tot:(al (Gt.Q G) G.n).length<=cnt
 j:G.full=false->GJ f W y x G
theorem GI.mono{f W y x c d G}(h:GI f W y x c G)(hc:c<=d):GI f W y x d G:=⟨λhf=>lQ (h.nf hf) hc,lU h.nc hc,h.n4,lU h.tot hc,h.j⟩
theorem av4{P Q:Pcs}:∀n,(∀k<n,P.m k=Q.m k)->(al P n).length=(al Q n).length
 |0,_=>rfl
 |n+1,h=>by
  show(al P n++alr P n (P.m n)).length=(al Q n++alr Q n (Q.m n)).length;rw[lx,lx,an3,an3,av4 n (λk hk=>h k (by omega)),h n (by omega)]
theorem aZ0{P Q:Pcs}{c:Nat}:∀n,c<n->(∀k<n,k≠c->P.m k=Q.m k)->P.m c<=Q.m c+1->(al P n).length<=(al Q n).length+1
 |n+1,hc,h,h1=>by
  show(al P n++alr P n (P.m n)).length<=(al Q n++alr Q n (Q.m n)).length+1;rw[lx,lx,an3,an3];by_cases hcn:c=n
  ·subst hcn;rw[av4 (Q:=Q) c (λk hk=>h k (by omega) (by omega))];omega
  ·have:=aZ0 (P:=P) (Q:=Q) n (by omega) (λk hk hne=>h k (by omega) hne) h1
   rw[h n (by omega) (xG hcn)];omega
section
variable {f:Nat->Vec}{W y x to cnt:Nat}{G:Gt}
theorem aH3(hto:x<to)(hW:to<=W)(y' x':Int):Dn W y to y' x'<->(Dn W y x y' x'\/(y'=y/\(x:Int)<=x'/\x'<to)):=by
 unfold Dn;omega
theorem aI8(hs:∀k,x<=k->k<to->kOf (f (y*W+k))=kOf (f (y*W+x))){y' x':Int}(h:y'=y/\(x:Int)<=x'/\x'<to):ck f W y' x'=kOf (f (y*W+x)):=by
 obtain⟨rfl,h1,h2⟩:=h;unfold ck;rw[ly];exact hs x'.toNat (by omega) (by omega)
theorem bW4(J:GJ f W y x G)(hy:y<8192)(hW:W<=8192)(hto:x<to)(htW:to<=W)(hs:∀k,x<=k->k<to->kOf (f (y*W+k))=kOf (f (y*W+x))){k:Nat}(hk:k<G.n)(hv:kOf (G.ink k)=kOf (f (y*W+x))):
  GJ f W y to (putP G k (grw G k ⟨y,x,to⟩)):=by
 have hr:okR ⟨(y:Int),x,to⟩:=⟨⟨⟨by show -8192<=(y:Int);omega,by show(y:Int)<8192;omega⟩,⟨by show -8192<=(x:Int);omega,by show(x:Int)<=8192;omega⟩,by show -8192<=(to:Int);omega,by show(to:Int)<=8192;omega⟩,by show(x:Int)<to;omega⟩
 have hL:grw G k ⟨y,x,to⟩=addR (Pcs.L (Gt.Q G) k) ⟨y,x,to⟩:=rfl;have hadd:=bT7 (J.v k hk) (r:=⟨y,x,to⟩) (λ_=>hr) (b83 (J.v k hk) (J.e k hk));have hnd:∀j<G.n,kOf (G.ink j)=kOf (f (y*W+x))->j=k:=λj hj he=>by
  have h1:=J.val j hj;have h2:=J.val k hk;rw[he]at h1;rw[hv,h1]at h2;omega
 have hne0:Pcs.L (Gt.Q G) k≠[]:=λhc=>by
  have:=J.ne k hk
  have e:(Pcs.L (Gt.Q G) k).length=G.m k:=aq7 _ _;rw[hc]at e;simp at e;omega
 have first:∀j<G.n,((putP G k (grw G k ⟨y,x,to⟩)).p j 0).y=(G.p j 0).y/\((putP G k (grw G k ⟨y,x,to⟩)).p j 0).x0=(G.p j 0).x0:=λj hj=>by
  show(bif decide (j=k)then rI (grw G k ⟨y,x,to⟩) 0 else G.p j 0:Rn).y=_/\(bif decide (j=k)then rI (grw G k ⟨y,x,to⟩) 0 else G.p j 0:Rn).x0=_;by_cases hjk:j=k
  ·subst hjk;rw[lg rfl,hL];simp only[ur];have h1:=bT8 hne0 ⟨y,x,to⟩;have h2:rI (Pcs.L (Gt.Q G) j) 0=G.p j 0:=aK4 _ (J.ne j hj);rw[h2]at h1;exact h1
  ·rw[lf hjk];exact⟨rfl,rfl⟩
 refine⟨J.has,J.val,J.nz,J.from',λj hj=>?_,λj hj=>?_,λj hj=>?_,λj hj y' x'=>?_,λy' x' hd hz=>?_,λj hj=>?_⟩
 ·by_cases hjk:j=k
  ·subst hjk;rw[ax3,hL];exact hadd.1
  ·rw[aN2 _ _ hjk];exact J.v j hj
 ·show 0<updN G.m k _ j;by_cases hjk:j=k
  ·subst hjk;rw[ah5,hL];exact cu2 (by show(x:Int)<to;omega)
  ·rw[aq9 (xG hjk)];exact J.ne j hj
 ·by_cases hjk:j=k
  ·subst hjk;rw[ax3,hL];exact bT9 (J.e j hj) (by show(x:Int)<=to;omega)
  ·rw[aN2 _ _ hjk];exact aE4 (J.e j hj) (by omega)
 ·show _<->_/\ck f W y' x'=kOf (G.ink j);rw[aH3 hto htW];by_cases hjk:j=k
  ·subst hjk;rw[ax3,hL,hadd.2.1,xg,J.m j hj,af7];constructor
   ·rintro(⟨h1,h2⟩|⟨h1,h2,h3⟩)
    ·exact⟨.inl h1,h2⟩
    ·exact⟨.inr ⟨h1.symm,h2,h3⟩,by rw[aI8 hs ⟨h1.symm,h2,h3⟩,hv]⟩
   ·rintro⟨h1|h1,h2⟩
    ·exact .inl ⟨h1,h2⟩
    ·exact .inr ⟨h1.1.symm,h1.2⟩
  ·rw[aN2 _ _ hjk,J.m j hj];constructor
   ·rintro⟨h1,h2⟩;exact⟨.inl h1,h2⟩
   ·rintro⟨h1|h1,h2⟩
    ·exact⟨h1,h2⟩
    ·rw[aI8 hs h1]at h2;exact absurd (hnd j hj h2.symm) hjk
 ·rcases(aH3 hto htW y' x').1 hd with h1|h1
  ·exact J.cov y' x' h1 hz
  ·exact⟨k,hk,by show kOf (G.ink k)=_;rw[hv,aI8 hs h1]⟩
 ·have hj:j+1<G.n:=hj;have f1:=first j (by omega)
  have f2:=first (j+1) hj
  rw[f1.1,f1.2,f2.1,f2.2];exact J.ord j hj
theorem bD9(G:Gt)(v:Vec){j:Nat}(h:j≠G.n):Pcs.L (Gt.Q (fresh G v)) j=Pcs.L (Gt.Q G) j:=by
 show Lf (G.p j) (updN G.m G.n 0 j)=_;rw[aq9 (xG h)];rfl
theorem cj8(G:Gt)(v:Vec):Pcs.L (Gt.Q (fresh G v)) G.n=[]:=by
 show Lf (G.p G.n) (updN G.m G.n 0 G.n)=_;rw[ah5];rfl
theorem bg2(G:Gt)(v:Vec){j:Nat}(h:j<G.n):(fresh G v).ink j=G.ink j:=by
 show(λi=>bif decide (j<G.n)then G.ink j i else v i)=_;rw[lg h];rfl
theorem bP1(G:Gt)(v:Vec):(fresh G v).ink G.n=v:=by
 show(λi=>bif decide (G.n<G.n)then G.ink G.n i else v i)=_;rw[lf (xt _)];rfl
theorem bY6(J:GJ f W y x G)(hy:y<8192)(hW:W<=8192)(hto:x<to)(htW:to<=W)(hs:∀k,x<=k->k<to->kOf (f (y*W+k))=kOf (f (y*W+x)))(hz:kOf (f (y*W+x))≠nul)(hh:G.has (kOf (f (y*W+x)))=false):
  GJ f W y to (putP (fresh G (f (y*W+x))) G.n (grw (fresh G (f (y*W+x))) G.n ⟨y,x,to⟩)):=by
 generalize hvv:f (y*W+x)=v at *
 have hr:okR ⟨(y:Int),x,to⟩:=⟨⟨⟨by show -8192<=(y:Int);omega,by show(y:Int)<8192;omega⟩,⟨by show -8192<=(x:Int);omega,by show(x:Int)<=8192;omega⟩,by show -8192<=(to:Int);omega,by show(to:Int)<=8192;omega⟩,by show(x:Int)<to;omega⟩
 have hL:grw (fresh G v) G.n ⟨y,x,to⟩=[⟨y,x,to⟩]:=by
  show addR (Pcs.L (Gt.Q (fresh G v)) G.n) ⟨y,x,to⟩=_;rw[cj8,add_nil,ll (by show(x:Int)<to;omega)]
 have hno:∀j<G.n,kOf (G.ink j)≠kOf v:=λj hj he=>by
  have:=(J.has (kOf v)).2 ⟨j,hj,he⟩
  rw[hh]at this;cases this
 have inkL:∀j<G.n,(putP (fresh G v) G.n (grw (fresh G v) G.n ⟨y,x,to⟩)).ink j=G.ink j:=λj hj=>bg2 G v hj
 have inkN:(putP (fresh G v) G.n (grw (fresh G v) G.n ⟨y,x,to⟩)).ink G.n=v:=bP1 G v;have LL:∀j<G.n,Pcs.L (Gt.Q (putP (fresh G v) G.n (grw (fresh G v) G.n ⟨y,x,to⟩))) j=Pcs.L (Gt.Q G) j:=λj hj=>by
  rw[aN2 _ _ (by omega:j≠G.n),bD9 G v (by omega)]
 have LN:Pcs.L (Gt.Q (putP (fresh G v) G.n (grw (fresh G v) G.n ⟨y,x,to⟩))) G.n=[⟨y,x,to⟩]:=by rw[ax3,hL]
 have valE:∀l,(putP (fresh G v) G.n (grw (fresh G v) G.n ⟨y,x,to⟩)).val l=bif decide (l=kOf v)then(G.n:Int)else G.val l:=λl=>rfl
 have hasE:∀l,(putP (fresh G v) G.n (grw (fresh G v) G.n ⟨y,x,to⟩)).has l=(decide (l=kOf v)||G.has l):=λl=>rfl
 have split:∀{j},j<G.n+1->j<G.n\/j=G.n:=λh=>by omega
 refine⟨λl=>?_,λj hj=>?_,λj hj=>?_,λj hj=>?_,λj hj=>?_,λj hj=>?_,λj hj=>?_,λj hj y' x'=>?_,λy' x' hd hz'=>?_,λj hj=>?_⟩
 ·rw[hasE,xg,lE,J.has];constructor
  ·rintro(h|⟨j,h1,h2⟩)
   ·exact⟨G.n,xD _,by rw[inkN];exact h.symm⟩
   ·exact⟨j,Nat.lt_succ_of_lt h1,by rw[inkL j h1];exact h2⟩
  ·rintro⟨j,h1,h2⟩;rcases split h1 with h|rfl
   ·exact .inr ⟨j,h,by rw[inkL j h]at h2;exact h2⟩
   ·exact .inl (by rw[inkN]at h2;exact h2.symm)
 ·rw[valE];rcases split hj with h|rfl
  ·rw[inkL j h,lf (hno j h)];exact J.val j h
  ·rw[inkN,lg rfl];rfl
 ·rcases split hj with h|rfl
  ·rw[inkL j h];exact J.nz j h
  ·rw[inkN];exact hz
 ·rcases split hj with h|rfl
  ·rw[inkL j h];exact J.from' j h
  ·rw[inkN];exact⟨_,hvv.symm⟩
 ·rcases split hj with h|rfl
  ·rw[LL j h];exact J.v j h
  ·rw[LN];exact ae2.2 ⟨hr,λ_ h=>(xi h).elim,am3⟩
 ·rcases split hj with h|rfl
  ·show 0<updN (updN G.m G.n 0) G.n _ j;rw[aq9 (by omega),aq9 (by omega)];exact J.ne j h
  ·show 0<updN _ G.n _ G.n;rw[ah5,hL];exact uw
 ·rcases split hj with h|rfl
  ·rw[LL j h];exact aE4 (J.e j h) (by omega)
  ·rw[LN];exact(aq6 (P:=[])).2 (.inr ⟨rfl,xp _⟩)
 ·rw[aH3 hto htW];rcases split hj with h|rfl
  ·rw[LL j h,inkL j h,J.m j h];constructor
   ·rintro⟨h1,h2⟩;exact⟨.inl h1,h2⟩
   ·rintro⟨h1|h1,h2⟩
    ·exact⟨h1,h2⟩
    ·rw[aI8 (by rw[hvv];exact hs) h1,hvv]at h2;exact absurd h2.symm (hno j h)
  ·rw[LN,inkN,ar8,af7];constructor
   ·rintro⟨h1,h2,h3⟩;exact⟨.inr ⟨h1.symm,h2,h3⟩,by rw[aI8 (by rw[hvv];exact hs) ⟨h1.symm,h2,h3⟩,hvv]⟩
   ·rintro⟨h1|h1,h2⟩
    ·obtain⟨j,h3,h4⟩:=J.cov y' x' h1 (by rw[h2];exact hz);exact absurd (h4.trans h2) (hno j h3)
    ·exact⟨h1.1.symm,h1.2⟩
 ·rcases(aH3 hto htW y' x').1 hd with h1|h1
  ·obtain⟨j,h2,h3⟩:=J.cov y' x' h1 hz';exact⟨j,Nat.lt_succ_of_lt h2,by rw[inkL j h2];exact h3⟩
  ·exact⟨G.n,xD _,by rw[inkN,aI8 (by rw[hvv];exact hs) h1,hvv]⟩
 ·have hj:j+1<G.n+1:=hj;have pE:∀i<G.n,(putP (fresh G v) G.n (grw (fresh G v) G.n ⟨y,x,to⟩)).p i 0=G.p i 0:=λi hi=>by
   show(bif decide (i=G.n)then _ else G.p i 0:Rn)=_;rw[lf (by omega)];rfl
  rcases split hj with h|h
  ·rw[pE j (by omega),pE (j+1) h];exact J.ord j h
  ·have pN:(putP (fresh G v) G.n (grw (fresh G v) G.n ⟨y,x,to⟩)).p G.n 0=⟨y,x,to⟩:=by
    show(bif decide (G.n=G.n)then rI (grw (fresh G v) G.n ⟨y,x,to⟩) 0 else G.p G.n 0:Rn)=_;rw[lg rfl,hL];rfl
   rw[h,pN,pE j (by omega)];have hne:=J.ne j (by omega);have okj:=(J.v j (by omega)).1 _ (ax7 (P:=Gt.Q G) hne);have hm:mem (Pcs.L (Gt.Q G) j) (G.p j 0).y (G.p j 0).x0=true:=(mem_iff _ _ _).2 ⟨_,ax7 (P:=Gt.Q G) hne,rfl,xp _,okj.2⟩;have hd:=((J.m j (by omega) _ _).1 hm).1;unfold Dn at hd;show(G.p j 0).y<(y:Int)\/((G.p j 0).y=y/\(G.p j 0).x0<=x);omega
theorem cg3(h:GI f W y x cnt G)(hy:y<8192)(hW:W<=8192)(hto:x<to)(htW:to<=W)(hs:∀k,x<=k->k<to->kOf (f (y*W+k))=kOf (f (y*W+x))):GI f W y to (cnt+1) (nxt G (f (y*W+x)) ⟨y,x,to⟩):=by
 rw[bM9];have keep:G.full=true\/kOf (f (y*W+x))=nul->GI f W y to (cnt+1) G:=λhc=>by
  refine⟨λhf=>Nat.lt_succ_of_lt (h.nf hf),ud h.nc,h.n4,ud h.tot,λhf=>?_⟩;have J:=h.j hf;have hz:kOf (f (y*W+x))=nul:=hc.resolve_left (by rw[hf];decide);refine⟨J.has,J.val,J.nz,J.from',J.v,J.ne,λk hk=>aE4 (J.e k hk) (by omega),λk hk y' x'=>?_,λy' x' hd hz'=>?_,J.ord⟩
  ·rw[J.m k hk,aH3 hto htW];constructor
   ·rintro⟨h1,h2⟩;exact⟨.inl h1,h2⟩
   ·rintro⟨h1|h1,h2⟩
    ·exact⟨h1,h2⟩
    ·rw[aI8 hs h1,hz]at h2;exact absurd h2.symm (J.nz k hk)
  ·rcases(aH3 hto htW y' x').1 hd with h1|h1
   ·exact J.cov y' x' h1 hz'
   ·exact absurd (by rw[aI8 hs h1,hz]) hz'
 unfold nxtB;by_cases hc:kOf (f (y*W+x))=nul\/G.full=true
 ·rw[ll hc];exact keep hc.symm
 rw[lu hc];have hz:kOf (f (y*W+x))≠nul:=λe=>hc (.inl e)
 have hf:G.full=false:=by
  cases hh:G.full with
  |false=>rfl
  |true=>exact absurd (.inr hh) hc
 have J:=h.j hf;by_cases hh:G.has (kOf (f (y*W+x)))=true
 ·rw[ll hh];obtain⟨k,hk,he⟩:=(J.has _).1 hh;have ek:(G.val (kOf (f (y*W+x)))).toNat=k:=by rw[<-he,J.val k hk];rfl
  rw[ek];refine⟨λhf'=>?_,ud h.nc,h.n4,?_,λ_=>bW4 J hy hW hto htW hs hk he⟩
  ·have hf':G.full=true:=hf';rw[hf]at hf';cases hf'
  ·refine lU (aZ0 (P:=Gt.Q (putP G k (grw G k ⟨y,x,to⟩))) (Q:=Gt.Q G) (c:=k) G.n hk (λj hj hne=>?_) ?_) (Nat.succ_le_succ h.tot)
   ·show updN G.m k _ j=G.m j;rw[aq9 (xG hne)]
   ·show updN G.m k _ k<=G.m k+1;rw[ah5];have:=aE5 (Rg.L ⟨G.m k,G.p k⟩) ⟨y,x,to⟩
    rwa[Rg.len]at this
 ·rw[lu hh];by_cases h4:G.n=4096
  ·rw[ll h4];exact⟨λ_=>by have:=h.nc;omega,ud h.nc,h.n4,ud h.tot,λhf'=>by cases hf'⟩
  ·rw[lu h4];have hn4:=h.n4;have hnc:=h.nc;refine⟨λhf'=>?_,by show G.n+1<=cnt+1;omega,by show G.n+1<=4096;omega,?_,λ_=>bY6 J hy hW hto htW hs hz (by simpa using hh)⟩
   ·have hf':G.full=true:=hf';rw[hf]at hf';cases hf'
   ·show(al _ G.n++alr _ G.n _).length<=cnt+1;rw[lx,an3];have e1:(al (Gt.Q (putP (fresh G (f (y*W+x))) G.n (grw (fresh G (f (y*W+x))) G.n ⟨y,x,to⟩))) G.n).length=(al (Gt.Q G) G.n).length:=av4 _ (λj hj=>by
     show updN (updN G.m G.n 0) G.n _ j=G.m j;rw[aq9 (by omega),aq9 (by omega)])
    have e2:(Gt.Q (putP (fresh G (f (y*W+x))) G.n (grw (fresh G (f (y*W+x))) G.n ⟨y,x,to⟩))).m G.n<=1:=by
     show updN _ G.n _ G.n<=1;rw[ah5];have h1:=aE5 (Rg.L ⟨updN G.m G.n 0 G.n,G.p G.n⟩) ⟨y,x,to⟩;rw[Rg.len]at h1;have h2:(grw (fresh G (f (y*W+x))) G.n ⟨y,x,to⟩).length<=updN G.m G.n 0 G.n+1:=h1;rw[ah5]at h2;exact h2
    have:=h.tot
    omega
end
theorem b73{f:Nat->Vec}{W y:Nat}(hy:y<8192)(hW:W<=8192):∀n x cnt G,x<=W->W<=x+n->GI f W y x cnt G->GI f W y W (cnt+(W-x)) (rowG (λi=>f (y*W+i)) y W n x G)
 |0,x,cnt,G,h1,h2,h=>by
  obtain rfl:x=W:=by omega
  rw[uE];exact h
 |n+1,x,cnt,G,h1,h2,h=>by
  rw[aP0];by_cases hx:x<W
  ·rw[ll hx];have hb:=bw5 (f:=λi=>f (y*W+i)) hx;have hg:=cg3 h hy hW hb.1.1 hb.1.2 (λk hk1 hk2=>hb.2.1 k hk1 hk2);have:=b73 hy hW n _ _ _ hb.1.2 (by omega) hg
   exact this.mono (by omega)
  ·rw[lu hx];obtain rfl:x=W:=by omega
   rw[uE];exact h
theorem cg4{f:Nat->Vec}{W y cnt:Nat}{G:Gt}(h:GI f W y W cnt G):GI f W (y+1) 0 cnt G:=by
 have hd:∀y' x',Dn W (y+1) 0 y' x'<->Dn W y W y' x':=λy' x'=>by unfold Dn;omega
 refine⟨h.nf,h.nc,h.n4,h.tot,λhf=>?_⟩;have J:=h.j hf;exact⟨J.has,J.val,J.nz,J.from',J.v,J.ne,λk hk=>aE4 (J.e k hk) (by omega),λk hk y' x'=>by rw[hd];exact J.m k hk y' x',λy' x' hdd=>J.cov y' x' ((hd _ _).1 hdd),J.ord⟩
theorem cs7(f:Nat->Vec){W:Nat}(hW:W<=8192):∀y,y<=8192->GI f W y 0 (y*W) (ofR f W y)
 |0,_=>by
  refine⟨λh=>(by cases h),lB _,lB _,lB _,λ_=>?_⟩;refine⟨λl=>⟨λh=>(by cases h),λ⟨k,h,_⟩=>absurd h (ln _)⟩,λk h=>absurd h (ln _),λk h=>absurd h (ln _),λk h=>absurd h (ln _),λk h=>absurd h (ln _),λk h=>absurd h (ln _),λk h=>absurd h (ln _),λk h=>absurd h (ln _),λy' x' h=>?_,λk h=>absurd h (ln _)⟩;unfold Dn at h;omega
 |y+1,hy=>by
  have h:=b73 (f:=f) (y:=y) (by omega) hW W 0 _ _ (lB _) (by omega) (cs7 f hW y (by omega));have e:ofR f W (y+1)=rowG (λi=>f (y*W+i)) y W W 0 (ofR f W y):=by
   show rowA _ _ _ _=_;rw[bK0];rfl
  rw[e];refine cg4 (h.mono ?_);rw[lL,uD,lah];exact lh _
structure OfOK(g:OfG)(P:Pcs):Prop where
 n:(ofA g).full=false
 c:ChG.Ok ⟨g.w,g.h,P⟩
 from':∀k<P.n,∃i,P.ink k=g.f i
 m:∀k<P.n,∀y x,mem (Pcs.L P k) y x=true<->((0<=y/\y<16*g.h)/\0<=x/\x<16*g.w)/\ck g.f (16*g.w) y x=kOf (P.ink k)
 cov:∀y x,((0<=y/\y<16*(g.h:Int))/\0<=x/\x<16*(g.w:Int))->ck g.f (16*g.w) y x≠nul->∃k,k<P.n/\kOf (P.ink k)=ck g.f (16*g.w) y x
theorem bY5{g:OfG}(hw:1<=g.w/\g.w<=256)(hh:1<=g.h/\g.h<=256)(hc:256*g.w*g.h<=4096):OfOK g (Gt.P (ofA g)):=by
 have e:ofA g=ofR g.f (16*g.w) (16*g.h):=by rw[of_eq];rfl
 have h:=cs7 g.f (W:=16*g.w) (by omega) (16*g.h) (by omega);rw[<-e]at h;have hcnt:16*g.h*(16*g.w)=256*g.w*g.h:=by grind
 rw[hcnt]at h;have hf:(ofA g).full=false:=by
  cases hff:(ofA g).full with
  |false=>rfl
  |true=>have:=h.nf hff;omega
 have J:=h.j hf;have hP:Gt.P (ofA g)=Gt.Q (ofA g):=by
  show(⟨bif (ofA g).full then 0 else(ofA g).n,_,_,_⟩:Pcs)=_;rw[hf];rfl
 have hd:∀y x:Int,Dn (16*g.w) (16*g.h) 0 y x<->((0<=y/\y<16*(g.h:Int))/\0<=x/\x<16*(g.w:Int)):=λy x=>by unfold Dn;omega
 have hm:∀k<(ofA g).n,∀y x:Int,mem (Pcs.L (Gt.Q (ofA g)) k) y x=true<->((0<=y/\y<16*(g.h:Int))/\0<=x/\x<16*(g.w:Int))/\ck g.f (16*g.w) y x=kOf ((ofA g).ink k):=λk hk y x=>by rw[J.m k hk,hd]
 have dist:∀i j,i<j->j<(ofA g).n->kOf ((ofA g).ink i)≠kOf ((ofA g).ink j):=λi j hij hj he=>by
  have h1:=J.val i (by omega);have h2:=J.val j hj;rw[he,h2]at h1;omega
 refine⟨hf,?_,?_,?_,?_⟩
 ·rw[hP];refine⟨hw,hh,⟨h.n4,lU h.tot (by omega),J.v,J.ne,dist,λi j hij hj y x h1 h2=>?_,J.ord⟩,J.nz,λk r hk hr=>?_⟩
  ·have a:=((hm i (by have:j<(ofA g).n:=hj;omega) y x).1 h1).2;have b:=((hm j hj y x).1 h2).2;exact dist i j hij hj (a.symm.trans b)
  ·have okr:=((J.v k hk).1 _ (ax7 (P:=Gt.Q (ofA g)) hr)).2;have a:=((hm k hk _ _).1 ((mem_iff _ _ _).2 ⟨_,ax7 (P:=Gt.Q (ofA g)) hr,rfl,xp _,okr⟩)).1;have b:=((hm k hk _ (((Gt.Q (ofA g)).p k r).x1-1)).1 ((mem_iff _ _ _).2 ⟨_,ax7 (P:=Gt.Q (ofA g)) hr,rfl,by omega,by omega⟩)).1;exact⟨a.1,a.2.1,by have:=b.2.2;show((Gt.Q (ofA g)).p k r).x1<=16*(g.w:Int);omega⟩
 ·rw[hP];exact J.from'
 ·rw[hP];exact hm
 ·rw[hP];exactλy x hin hz=>J.cov y x ((hd y x).2 hin) hz
end Ofl
namespace Ftp
open Go.RowKit Sx Num Aff Con Rga Gat Gar
end Ftp
namespace Cof
open Go.RowKit Sx Num Aff Con Rga Rgl Rgm Rgn Gat Gar Ows Apl Apt Cel Ofl Ftp
theorem ci6{g:ChG}(h:g.Ok):(⟨g.w,g.h,g.P⟩:CeG).Ok where
 w:=h.w
 h:=h.h
 n:=h.P.n
 m k hk:=by
  have hl:=ao3 (h.P.v k hk);have e:(Pcs.L g.P k).length=g.P.m k:=aq7 _ _;rw[e]at hl;show g.P.m k<=_;omega
 r k r hk hr:=by
  have h1:=h.r k r hk hr;have h2:=((h.P.v k hk).1 _ (ax7 hr)).2;exact⟨h1.1,⟨h1.2.1,h2⟩,h1.2.2⟩
theorem a63{W y R x a b:Nat}(hx:x<W)(hb:b<=W):(R*W+a<=y*W+x/\y*W+x<R*W+b)<->(R=y/\a<=x/\x<b):=by
 constructor
 ·rintro⟨h1,h2⟩;rcases xL R y with h|h|h
  ·have:=lk W h
   rw[uq]at this;omega
  ·subst h;omega
  ·have:=lk W h
   rw[uq]at this;omega
 ·rintro⟨rfl,h1,h2⟩;omega
def ix(w:Nat)(y x:Int):Nat:=y.toNat*(16*w)+x.toNat
theorem bm4{w:Nat}{c:Nat->Vec}{r:Rn}{v:Vec}{y x:Int}(hy:0<=y)(hx:0<=x/\x<16*w)(hr:0<=r.y/\0<=r.x0/\r.x1<=16*w):putR w c r v (ix w y x)=if inR r y x=true then v else c (ix w y x):=by
 unfold putR put rwAt ix;have h:=a63 (W:=16*w) (y:=y.toNat) (R:=r.y.toNat) (x:=x.toNat) (a:=r.x0.toNat) (b:=r.x1.toNat) (by omega) (by omega);by_cases hin:inR r y x=true
 ·rw[ll hin,lg (h.2 (by rw[af7]at hin;omega))];rfl
 ·rw[lu hin,lf (λhc=>hin (by rw[af7];have:=h.1 hc;omega))];rfl
theorem bi8{g:ChG}(hg:g.Ok){c:Nat->Vec}{k:Nat}(hk:k<g.P.n){y x:Int}(hy:0<=y)(hx:0<=x/\x<16*g.w):∀j,j<=g.P.m k->ceR ⟨g.w,g.h,g.P⟩ c k j (ix g.w y x)=if mem (Lf (g.P.p k) j) y x=true then g.P.ink k else c (ix g.w y x)
 |0,_=>rfl
 |j+1,hj=>by
  have hr:=hg.r k j hk hj;show putR g.w (ceR ⟨g.w,g.h,g.P⟩ c k j) (g.P.p k j) (g.P.ink k) (ix g.w y x)=_;rw[bm4 hy hx ⟨hr.1.1,hr.2.1,hr.2.2⟩,bi8 hg hk hy hx j (by omega),av5,az4,ar8];cases hm:mem (Lf (g.P.p k) j) y x<;>cases hi:inR (g.P.p k j) y x<;>rfl
theorem bi9{g:ChG}(hg:g.Ok){y x:Int}(hy:0<=y)(hx:0<=x/\x<16*g.w):∀n,n<=g.P.n->(∀k<n,mem (Pcs.L g.P k) y x=true->ceP ⟨g.w,g.h,g.P⟩ n (ix g.w y x)=g.P.ink k)/\((∀k<n,¬ mem (Pcs.L g.P k) y x=true)->ceP ⟨g.w,g.h,g.P⟩ n (ix g.w y x)=λ_=>0)
 |0,_=>⟨λk hk=>absurd hk (ln _),λ_=>rfl⟩
 |n+1,hn=>by
  obtain⟨h1,h2⟩:=bi9 hg hy hx n (by omega);have e:ceP ⟨g.w,g.h,g.P⟩ (n+1) (ix g.w y x)=if mem (Pcs.L g.P n) y x=true then g.P.ink n else ceP ⟨g.w,g.h,g.P⟩ n (ix g.w y x):=bi8 hg (by omega) hy hx (g.P.m n) (lh _)
  rw[e];refine⟨λk hk hm=>?_,λhno=>?_⟩
  ·by_cases hkn:k=n
   ·subst hkn;rw[ll hm]
   ·rw[lu (λhc=>hg.P.disj k n (by omega) (by omega) y x hm hc)];exact h1 k (by omega) hm
  ·rw[lu (hno n (by omega))];exact h2 λk hk=>hno k (by omega)
theorem ci7{g:OfG}{P:Pcs}(h:OfOK g P){y x:Int}(hin:(0<=y/\y<16*(g.h:Int))/\0<=x/\x<16*(g.w:Int)):kOf (ceB ⟨g.w,g.h,P⟩ (ix g.w y x))=kOf (g.f (ix g.w y x)):=by
 obtain⟨h1,h2⟩:=bi9 h.c hin.1.1 hin.2 P.n (lh _);show kOf (ceP ⟨g.w,g.h,P⟩ P.n (ix g.w y x))=ck g.f (16*g.w) y x;by_cases hz:ck g.f (16*g.w) y x=nul
 ·rw[h2 λk hk hm=>?_,hz]
  ·rfl
  ·have:=((h.m k hk y x).1 hm).2
   exact h.c.nz k hk (this.symm.trans hz)
 ·obtain⟨k,hk,he⟩:=h.cov y x hin hz;rw[h1 k hk ((h.m k hk y x).2 ⟨hin,he.symm⟩),he]
def byt(v:Vec):Prop:=∀j,0<=v j/\v j<=255
def hi0(v:Vec):Prop:=∀j,8<=j->v j=0
theorem bn5{u v:Vec}(h:kOf u=kOf v){j:Nat}(hj:j<8):u j=v j:=by
 unfold kOf at h;simp only[List.cons.injEq,laf]at h;obtain⟨e0,e1,e2,e3,e4,e5,e6,e7⟩:=h;match j,hj with
 |0,_=>exact e0
 |1,_=>exact e1
 |2,_=>exact e2
 |3,_=>exact e3
 |4,_=>exact e4
 |5,_=>exact e5
 |6,_=>exact e6
 |7,_=>exact e7
end Cof
namespace Trq
open Go.RowKit Sx Num Aff Con Rga Rgl Rgm Rgn Gat Gar Ows Apl Apt Cel Ofl Ftp Cof Wid Trp Tsp Tpn Tco Ttr
structure Tk(og:OfG)(m:Nat)(o:Nat->Nat)(r:Nat):Prop where
 wB:1<=og.w/\og.w<=2
 hB:1<=og.h/\og.h<=2
 fB:∀i j,j<8->0<=og.f i j
 mL:m<=8
 oL:∀k<m,o k<8
 dO:∀i j,i<j->j<m->o i≠o j
 cO:∀i j,j<8->og.f i j≠0->∃k,k<m/\o k=j
 rL:r<=64
def tk(og:OfG)(P:Pcs)(m:Nat)(o:Nat->Nat)(r:Nat):TrG:=⟨og.w,og.h,P,m,o,r⟩
theorem b61{g:CeG}{c:Nat->Vec}{k j:Nat}(hk:0<=g.P.ink k j)(hc:∀i,0<=c i j):∀a i,0<=ceR g c k a i j
 |0,i=>hc i
 |a+1,i=>by
  show 0<=putR g.w (ceR g c k a) (g.P.p k a) (g.P.ink k) i j;unfold putR put;cases decide (rwAt g.w (g.P.p k a)+(g.P.p k a).x0.toNat<=i/\i<rwAt g.w (g.P.p k a)+(g.P.p k a).x1.toNat)
  ·exact b61 hk hc a i
  ·exact hk
theorem b62{g:CeG}{j:Nat}(hP:∀k<g.P.n,0<=g.P.ink k j):∀n,n<=g.P.n->∀i,0<=ceP g n i j
 |0,_,_=>xp _
 |n+1,hn,i=>b61 (hP n (by omega)) (b62 hP n (by omega)) _ i
section
variable {og:OfG}{P:Pcs}{m:Nat}{o:Nat->Nat}{r:Nat}
theorem small(h:Tk og m o r):256*og.w*og.h<=1024:=ue (show 256*og.w<=512 by have:=h.wB;omega) h.hB.2
theorem tk_nn(h:Tk og m o r)(ho:OfOK og P)(i:Nat){j:Nat}(hj:j<8):0<=(tk og P m o r).c i j:=b62 (g:=⟨og.w,og.h,P⟩) (λk hk=>by
 obtain⟨a,e⟩:=ho.from' k hk;rw[show P.ink k j=og.f a j from congrFun e j];exact h.fB a j hj) _ (lh _) i
theorem b98(h:Tk og m o r)(ho:OfOK og P):(tk og P m o r).Ok:=by
 have hw:=h.wB;have hh:=h.hB;refine⟨⟨hw.1,?_⟩,⟨hh.1,?_⟩,ci6 ho.c,h.mL,⟨?_,?_⟩,⟨?_,?_⟩,h.oL,?_,λi j _ hj=>tk_nn h ho i hj⟩
 ·show og.w<=256;omega
 ·show og.h<=256;omega
 ·show 1<=16*og.w;omega
 ·show 16*og.w<=4096;omega
 ·show 1<=16*og.h;omega
 ·show 16*og.h<=4096;omega
 ·show r<=_;have:=h.rL;omega
theorem tk_ck(h:Tk og m o r)(ho:OfOK og P):(tk og P m o r).ck.Ok:=by
 refine⟨ho.c,⟨ho.c.P.n,h.mL,h.oL,h.dO,λk j hk hj hne=>?_⟩,h.rL⟩;obtain⟨i,e⟩:=ho.from' k hk;rw[show(tk og P m o r).ck.c.P.ink k j=og.f i j from congrFun e j]at hne;exact h.cO i j hj hne
theorem b99{i:Nat}(hi:i<(tk og P m o r).N):(tk og P m o r).of.f i=tcF ((tk og P m o r).c i) ((tk og P m o r).W i) m o m:=by
 funext j;show(bif decide (i<(tk og P m o r).N)then(tk og P m o r).t i j else _)=_;rw[lg hi];rfl
theorem bF8(h:Tk og m o r)(ho:OfOK og P):OfOK (tk og P m o r).of (Gt.P (ofA (tk og P m o r).of)):=bY5 (b98 h ho).w (b98 h ho).h (by have:=small h;show 256*og.w*og.h<=_;omega)
end
theorem pEq{P Q:Pcs}(h:P=Q):P.n=Q.n/\∀i<Q.n,((((((((P.m i=Q.m i/\∀a<Q.m i,((P.p i a).y=(Q.p i a).y/\(P.p i a).x0=(Q.p i a).x0)/\(P.p i a).x1=(Q.p i a).x1)/\P.ink i 0=Q.ink i 0)/\P.ink i 1=Q.ink i 1)/\P.ink i 2=Q.ink i 2)/\P.ink i 3=Q.ink i 3)/\P.ink i 4=Q.ink i 4)/\P.ink i 5=Q.ink i 5)/\P.ink i 6=Q.ink i 6)/\P.ink i 7=Q.ink i 7:=by
 subst h;exact⟨rfl,λ_ _=>⟨⟨⟨⟨⟨⟨⟨⟨⟨rfl,λ_ _=>⟨⟨rfl,rfl⟩,rfl⟩⟩,rfl⟩,rfl⟩,rfl⟩,rfl⟩,rfl⟩,rfl⟩,rfl⟩,rfl⟩⟩
end Trq
namespace Trt
open Go.RowKit Sx Num Aff Con Rga Rgl Rgm Rgn Rgd Gat Gar Ows Apl Apt Cel Ofl Ftp Cof Wid Trp Tsp Tpn Tco Ttr Trq
theorem aM1(g:ReG)(y x:Int):mem (Lf g.f g.n) y x=decide ((g.y0<=y/\y<g.y1)/\g.x0<=x/\x<g.x1):=by
 rw[uo,mem_iff,lE];constructor
 ·rintro⟨r,hr,h1,h2,h3⟩;obtain⟨k,hk,rfl⟩:=lX.1 hr;have hk:=lG.1 hk;have hk:k<(g.y1-g.y0).toNat:=hk;have h1:g.y0+k=y:=h1;have h2:g.x0<=x:=h2;have h3:x<g.x1:=h3;omega
 ·rintro⟨⟨h1,h2⟩,h3,h4⟩;refine⟨g.f (y-g.y0).toNat,lX.2 ⟨_,lG.2 (show(y-g.y0).toNat<(g.y1-g.y0).toNat by omega),rfl⟩,show g.y0+((y-g.y0).toNat:Int)=y by omega,h3,h4⟩
theorem aM0{g:ReG}(h:g.ok)(h2:g.y1<=8192):vld (Lf g.f g.n):=by
 obtain⟨⟨a1,a2⟩,⟨b1,b2⟩,⟨c1,c2⟩,⟨d1,d2⟩,hx,hy⟩:=h;have go:∀m,m<=g.n->vld (Lf g.f m):=by
  intro m;induction m with
  |zero=>intro _;exact am3
  |succ m ih=>
   intro hm;have hm:m+1<=(g.y1-g.y0).toNat:=hm;rw[av5,av7];refine⟨ih (by show m<=(g.y1-g.y0).toNat;omega),⟨⟨⟨by show -8192<=g.y0+m;omega,by show g.y0+(m:Int)<8192;omega⟩,⟨a1,a2⟩,c1,c2⟩,hx⟩,λs hs=>?_⟩;obtain⟨k,hk,rfl⟩:=lX.1 hs;have hk:=lG.1 hk;exact .inl (by show g.y0+(k:Int)<g.y0+m;omega)
 exact go _ (lh _)
def v8(a b c d e f g h:Int)(j:Nat):Int:=match j with
 |0=>a
 |1=>b
 |2=>c
 |3=>d
 |4=>e
 |5=>f
 |6=>g
 |7=>h
 |_=>0
def lrc:ReG:=⟨0,0,8,16⟩
def rrc:ReG:=⟨8,0,16,16⟩
theorem b65:lrc.ok:=⟨by decide,by decide,by decide,by decide,by decide,by decide⟩
theorem b45:rrc.ok:=⟨by decide,by decide,by decide,by decide,by decide,by decide⟩
def vL:Vec:=v8 255 0 0 0 0 0 0 0
def vR:Vec:=v8 0 200 0 0 0 0 0 0
def o01(k:Nat):Nat:=(bif decide (k=1)then(1:Int)else 0).toNat
structure Two(P:Pcs):Prop where
 n:P.n=2
 m0:P.m 0=16
 m1:P.m 1=16
 p0:∀r<16,P.p 0 r=lrc.f r
 p1:∀r<16,P.p 1 r=rrc.f r
 k0:P.ink 0=vL
 k1:P.ink 1=vR
def og2:OfG:=⟨1,1,256,λi=>if i%16<8 then vL else vR⟩
theorem Two.L0{P:Pcs}(h:Two P):Pcs.L P 0=Lf lrc.f lrc.n:=by
 show Lf (P.p 0) (P.m 0)=_;rw[h.m0];exact bx7 h.p0
theorem Two.L1{P:Pcs}(h:Two P):Pcs.L P 1=Lf rrc.f rrc.n:=by
 show Lf (P.p 1) (P.m 1)=_;rw[h.m1];exact bx7 h.p1
theorem Two.mem0{P:Pcs}(h:Two P)(y x:Int):mem (Pcs.L P 0) y x=true<->(0<=y/\y<16)/\0<=x/\x<8:=by
 rw[h.L0,aM1,lE];exact uU
theorem Two.mem1{P:Pcs}(h:Two P)(y x:Int):mem (Pcs.L P 1) y x=true<->(0<=y/\y<16)/\8<=x/\x<16:=by
 rw[h.L1,aM1,lE];exact uU
theorem bA8{y x:Int}(hy:0<=y)(hx:0<=x/\x<16):og2.f (ix 1 y x)=if x<8 then vL else vR:=by
 have e:ix 1 y x%16=x.toNat:=by unfold ix;omega
 show(if ix 1 y x%16<8 then vL else vR)=_;rw[e];by_cases hc:x<8
 ·rw[ll (by omega),ll hc]
 ·rw[lu (by omega),lu hc]
theorem Two.of{P:Pcs}(h:Two P):OfOK og2 P:=by
 have h0:=bY5 (g:=og2) ⟨lh _,by show 1<=256;decide⟩ ⟨lh _,by show 1<=256;decide⟩ (by show 256*1*1<=4096;decide);have hn:=h.n;have k01:∀k<P.n,k=0\/k=1:=λk hk=>by omega
 have hm:∀k<P.n,P.m k=16:=λk hk=>(k01 k hk).elim (λe=>e▸h.m0) λe=>e▸h.m1
 refine⟨h0.n,⟨⟨lh _,by show 1<=256;decide⟩,⟨lh _,by show 1<=256;decide⟩,⟨by rw[hn];decide,?_,λk hk=>?_,λk hk=>?_,λi j hij hj=>?_,λi j hij hj y x hi' hj'=>?_,λk hk=>?_⟩,λk hk=>?_,λk r hk hr=>?_⟩,λk hk=>?_,λk hk y x=>?_,λy x hin hz=>?_⟩
 ·rw[hn];show(([]++alr P 0 (P.m 0))++alr P 1 (P.m 1)).length<=_;rw[uW,lx,an3,an3,h.m0,h.m1];decide
 ·rcases k01 k hk with rfl|rfl
  ·rw[h.L0];exact aM0 b65 (by decide)
  ·rw[h.L1];exact aM0 b45 (by decide)
 ·rw[hm k hk];decide
 ·have hj:j<P.n:=hj;obtain⟨rfl,rfl⟩:i=0/\j=1:=by omega
  rw[h.k0,h.k1];decide
 ·have hj:j<P.n:=hj;obtain⟨rfl,rfl⟩:i=0/\j=1:=by omega
  have h1:=(h.mem0 y x).1 hi';have h2:=(h.mem1 y x).1 hj';omega
 ·have hk:k+1<P.n:=hk;obtain rfl:k=0:=by omega
  show(P.p 0 0).y<(P.p 1 0).y\/((P.p 0 0).y=(P.p 1 0).y/\(P.p 0 0).x0<=(P.p 1 0).x0);rw[h.p0 0 (by decide),h.p1 0 (by decide)];exact .inr ⟨rfl,by decide⟩
 ·rcases k01 k hk with rfl|rfl
  ·show kOf (P.ink 0)≠nul;rw[h.k0];decide
  ·show kOf (P.ink 1)≠nul;rw[h.k1];decide
 ·have hk:k<P.n:=hk;have hr:r<P.m k:=hr;have hr16:r<16:=by rw[hm k hk]at hr;exact hr
  show(0<=(P.p k r).y/\(P.p k r).y<16*((1:Nat):Int))/\0<=(P.p k r).x0/\(P.p k r).x1<=16*((1:Nat):Int);rcases k01 k hk with rfl|rfl
  ·rw[h.p0 r hr16];show(0<=(0:Int)+r/\(0:Int)+r<16*((1:Nat):Int))/\0<=(0:Int)/\(8:Int)<=16*((1:Nat):Int);omega
  ·rw[h.p1 r hr16];show(0<=(0:Int)+r/\(0:Int)+r<16*((1:Nat):Int))/\0<=(8:Int)/\(16:Int)<=16*((1:Nat):Int);omega
 ·rcases k01 k hk with rfl|rfl
  ·exact⟨0,h.k0⟩
  ·exact⟨8,h.k1⟩
 ·show _<->((0<=y/\y<16*((1:Nat):Int))/\0<=x/\x<16*((1:Nat):Int))/\kOf (og2.f (ix 1 y x))=_;rcases k01 k hk with rfl|rfl
  ·rw[h.mem0,h.k0];constructor
   ·intro hc;exact⟨by omega,by rw[bA8 (by omega) (by omega),ll (by omega)]⟩
   ·rintro⟨hin,he⟩;rw[bA8 (by omega) (by omega)]at he;by_cases hc:x<8
    ·omega
    ·rw[lu hc]at he;exact absurd he (by decide)
  ·rw[h.mem1,h.k1];constructor
   ·intro hc;exact⟨by omega,by rw[bA8 (by omega) (by omega),lu (by omega)]⟩
   ·rintro⟨hin,he⟩;rw[bA8 (by omega) (by omega)]at he;by_cases hc:x<8
    ·rw[ll hc]at he;exact absurd he (by decide)
    ·omega
 ·have hin:(0<=y/\y<16*((1:Nat):Int))/\0<=x/\x<16*((1:Nat):Int):=hin;have e:ck og2.f (16*og2.w) y x=kOf (if x<8 then vL else vR):=congrArg kOf (bA8 (by omega) (by omega));rw[e];by_cases hc:x<8
  ·rw[ll hc];exact⟨0,by omega,by rw[h.k0]⟩
  ·rw[lu hc];exact⟨1,by omega,by rw[h.k1]⟩
theorem bu8:Tk og2 2 o01 2:=by
 refine⟨⟨lh 1,lab 1⟩,⟨lh 1,lab 1⟩,λi j hj=>?_,by decide,λk hk=>?_,λi j hij hj=>?_,λi j hj hne=>?_,by decide⟩
 ·show 0<=(if i%16<8 then vL else vR) j;split
  ·match j,hj with
   |0,_|1,_|2,_|3,_|4,_|5,_|6,_|7,_=>decide
  ·match j,hj with
   |0,_|1,_|2,_|3,_|4,_|5,_|6,_|7,_=>decide
 ·match k,hk with
  |0,_|1,_=>decide
 ·obtain⟨rfl,rfl⟩:i=0/\j=1:=by omega
  decide
 ·have hne:(if i%16<8 then vL else vR) j≠0:=hne;match j,hj with
  |0,_=>exact⟨0,by decide,rfl⟩
  |1,_=>exact⟨1,by decide,rfl⟩
  |2,_|3,_|4,_|5,_|6,_|7,_=>split at hne<;>exact absurd rfl hne
theorem tc2(v:Vec)(W:Nat->Int)(j:Nat):tcF v W 2 o01 2 j=if(v 0=0/\v 1≠0)/\j=0 then W 0 else v j:=by
 have e0:o01 (2-1-1)=0:=rfl;have e1:o01 (2-1-0)=1:=rfl;rw[aN7,aN7,e0,e1,bp5,e1];show(if(v 0=0/\(false||decide (v 1≠0))=true)/\j=0 then W 0 else if(v 1=0/\false=true)/\j=1 then W 1 else v j)=_;rw[lu (λhc:(v 1=0/\false=true)/\j=1=>by cases hc.1.2)];simp only[laq,lE]
theorem bE3{f:Nat->Int}{n r i:Nat}{K:Int}(hK:0<=K)(hi:i<n)(h:∀j<n,f j=K):wid f n r i=K:=
 uX (bb2 hK λj _ _ hj=>Int.le_of_eq (h j hj)) (by rw[<-h i hi];exact bq7 (by omega) (by omega) hi)
section
variable {P:Pcs}(h:Two P)
include h
theorem Two.c{y x:Nat}(hy:y<16)(hx:x<16):kOf ((tk og2 P 2 o01 2).c (y*16+x))=kOf (if x<8 then vL else vR):=by
 have h1:=ci7 h.of (y:=y) (x:=x) (by show((0:Int)<=y/\(y:Int)<16*((1:Nat):Int))/\(0:Int)<=x/\(x:Int)<16*((1:Nat):Int);omega);have e:ix og2.w y x=y*16+x:=rfl;have e2:=bA8 (y:=y) (x:=x) (by omega) (by omega);have e3:ix 1 (y:Int) (x:Int)=y*16+x:=rfl;rw[e3]at e2;rw[e,e2]at h1;refine h1.trans ?_;by_cases hc:x<8
 ·rw[ll (by omega),ll hc]
 ·rw[lu (by omega),lu hc]
theorem Two.row{y x:Nat}(hy:y<16)(hx:8<=x/\x<16):Tsp.am6 ((tk og2 P 2 o01 2).pl.sp 0) y x=if x<10 then 255 else 0:=by
 have hc:∀j<16,(tk og2 P 2 o01 2).c (y*16+j) 0=if j<8 then 255 else 0:=λj hj=>by
  rw[bn5 (h.c hy hj) (show 0<8 by decide)];by_cases hc:j<8
  ·rw[ll hc,ll hc];rfl
  ·rw[lu hc,lu hc];rfl
 show wid (λj=>(tk og2 P 2 o01 2).c (y*16+j) 0) 16 2 x=_;by_cases h10:x<10
 ·rw[ll h10];refine uX (b90 (by decide) λj hj=>?_) ?_
  ·show(tk og2 P 2 o01 2).c (y*16+j) 0<=255;rw[hc j hj];split<;>decide
  ·have:=bq7 (f:=λj=>(tk og2 P 2 o01 2).c (y*16+j) 0) (n:=16) (r:=2) (i:=x) (j:=7) (by omega) (by omega) (by omega)
   refine Int.le_trans ?_ this;show 255<=(tk og2 P 2 o01 2).c (y*16+7) 0;rw[hc 7 (by decide)];decide
 ·rw[lu h10];refine uX (bb2 (by decide) λj h1 h2 hj=>?_) (bE2 _ _ _ _);show(tk og2 P 2 o01 2).c (y*16+j) 0<=0;rw[hc j hj,lu (by omega)];decide
theorem Two.W{y x:Nat}(hy:y<16)(hx:8<=x/\x<16):(tk og2 P 2 o01 2).W (y*16+x) 0=if x<10 then 255 else 0:=by
 show spr ((tk og2 P 2 o01 2).pl.sp 0) (y*16+x)=_;unfold spr;have ew:((tk og2 P 2 o01 2).pl.sp 0).w=16:=rfl;rw[ew,aK0 (by omega),aS6 (by omega)];exact bE3 (by split<;>decide) hy λa ha=>h.row ha hx
theorem Two.f{y x:Nat}(hy:y<16)(hx:x<16):kOf ((tk og2 P 2 o01 2).of.f (y*16+x))=if x<8 then [255,0,0,0,0,0,0,0]else if x<10 then [255,200,0,0,0,0,0,0]else [0,200,0,0,0,0,0,0]:=by
 have hN:y*16+x<(tk og2 P 2 o01 2).N:=by show y*16+x<256*1*1;omega
 rw[b99 hN];have hc:=h.c hy hx;have hv:=λj (hj:j<8)=>bn5 hc hj
 have et:∀j,tcF ((tk og2 P 2 o01 2).c (y*16+x)) ((tk og2 P 2 o01 2).W (y*16+x)) 2 o01 2 j=_:=λj=>tc2 _ _ j
 have v0:=hv 0 (by decide);have v1:=hv 1 (by decide);by_cases h8:x<8
 ·rw[ll h8]at hc v0 v1⊢;have:kOf (tcF ((tk og2 P 2 o01 2).c (y*16+x)) ((tk og2 P 2 o01 2).W (y*16+x)) 2 o01 2)=kOf ((tk og2 P 2 o01 2).c (y*16+x)):=congrArg kOf (funext λj=>by
   rw[et,lu λhc=>by rw[v0]at hc;exact absurd hc.1.1 (by decide)])
  rw[this,hc];rfl
 ·rw[lu h8]at hc v0 v1⊢;have hW:=h.W hy (show 8<=x/\x<16 by omega);have e0:∀j,j≠0->tcF ((tk og2 P 2 o01 2).c (y*16+x)) ((tk og2 P 2 o01 2).W (y*16+x)) 2 o01 2 j=(tk og2 P 2 o01 2).c (y*16+x) j:=λj hj=>by rw[et,lu λhc=>hj hc.2]
  have e1:tcF ((tk og2 P 2 o01 2).c (y*16+x)) ((tk og2 P 2 o01 2).W (y*16+x)) 2 o01 2 0=if x<10 then 255 else 0:=by rw[et,ll ⟨⟨v0,by rw[v1];decide⟩,rfl⟩,hW]
  have e2:kOf (tcF ((tk og2 P 2 o01 2).c (y*16+x)) ((tk og2 P 2 o01 2).W (y*16+x)) 2 o01 2)=[if x<10 then 255 else 0,200,0,0,0,0,0,0]:=by
   unfold kOf;rw[e1,e0 1 (by decide),e0 2 (by decide),e0 3 (by decide),e0 4 (by decide),e0 5 (by decide),e0 6 (by decide),e0 7 (by decide),hv 1 (by decide),hv 2 (by decide),hv 3 (by decide),hv 4 (by decide),hv 5 (by decide),hv 6 (by decide),hv 7 (by decide),lu h8];rfl
  rw[e2];split<;>rfl
theorem Two.three:(Gt.P (ofA (tk og2 P 2 o01 2).of)).n=3/\kOf ((Gt.P (ofA (tk og2 P 2 o01 2).of)).ink 1)=[255,200,0,0,0,0,0,0]:=by
 have H:=bF8 bu8 h.of;generalize Gt.P (ofA (tk og2 P 2 o01 2).of)=Q at H;have fE:∀y x:Int,((0<=y/\y<16)/\0<=x/\x<16)->ck (tk og2 P 2 o01 2).of.f (16*(tk og2 P 2 o01 2).of.w) y x=if x<8 then [255,0,0,0,0,0,0,0]else if x<10 then [255,200,0,0,0,0,0,0]else [0,200,0,0,0,0,0,0]:=λy x hin=>by
  have e:=h.f (y:=y.toNat) (x:=x.toNat) (by omega) (by omega);show kOf ((tk og2 P 2 o01 2).of.f (y.toNat*16+x.toNat))=_;rw[e];by_cases h8:x<8
  ·rw[ll h8,ll (by omega)]
  ·rw[lu h8,lu (by omega)];by_cases h10:x<10
   ·rw[ll h10,ll (by omega)]
   ·rw[lu h10,lu (by omega)]
 have inE:∀y x:Int,((0<=y/\y<16*(((tk og2 P 2 o01 2).of.h:Nat):Int))/\0<=x/\x<16*(((tk og2 P 2 o01 2).of.w:Nat):Int))<->((0<=y/\y<16)/\0<=x/\x<16):=λy x=>by
  show((0<=y/\y<16*((1:Nat):Int))/\0<=x/\x<16*((1:Nat):Int))<->_;omega
 obtain⟨a,ha,ea⟩:=H.cov 0 0 ((inE 0 0).2 (by omega)) (by rw[fE 0 0 (by omega)];decide);obtain⟨b,hb,eb⟩:=H.cov 0 8 ((inE 0 8).2 (by omega)) (by rw[fE 0 8 (by omega)];decide);obtain⟨c,hc,ec⟩:=H.cov 0 10 ((inE 0 10).2 (by omega)) (by rw[fE 0 10 (by omega)];decide);have ma:=(H.m a ha 0 0).2 ⟨(inE 0 0).2 (by omega),ea.symm⟩;have mb:=(H.m b hb 0 8).2 ⟨(inE 0 8).2 (by omega),eb.symm⟩;have mc:=(H.m c hc 0 10).2 ⟨(inE 0 10).2 (by omega),ec.symm⟩;rw[fE 0 0 (by omega),ll (by decide)]at ea;rw[fE 0 8 (by omega),lu (by decide),ll (by decide)]at eb;rw[fE 0 10 (by omega),lu (by decide),lu (by decide)]at ec;have inj:∀i j,i<Q.n->j<Q.n->kOf (Q.ink i)=kOf (Q.ink j)->i=j:=λi j hi hj he=>by
  rcases xL i j with hl|hl|hl
  ·exact absurd he (H.c.P.dist i j hl hj)
  ·exact hl
  ·exact absurd he.symm (H.c.P.dist j i hl hi)
 have first:∀k<Q.n,∀x0:Int,mem (Pcs.L Q k) 0 x0=true->(∀y x,mem (Pcs.L Q k) y x=true->x0<=x)->(Q.p k 0).y=0/\(Q.p k 0).x0=x0:=λk hk x0 hm hall=>by
  have ne:=H.c.P.ne k hk;have hv:=H.c.P.v k hk;have hr:=(H.c.r k 0 hk ne).1.1;have ne:0<Q.m k:=ne;have e:Pcs.L Q k=Q.p k 0::Lf (λi=>Q.p k (i+1)) (Q.m k-1):=by
   show(List.range (Q.m k)).map (Q.p k)=_::(List.range (Q.m k-1)).map _;obtain⟨m,hm⟩:∃m,Q.m k=m+1:=⟨Q.m k-1,by omega⟩
   rw[hm,List.range_succ_eq_map,xQ,List.map_map];rfl
  rw[e]at hv hm hall;have h1:=aC9 hv;have h2:=aG5 hv hm;have h3:=hall _ _ h1;have hr:0<=(Q.p k 0).y:=hr;omega
 have fa:=first a ha 0 ma λy x hm=>by have:=(inE y x).1 ((H.m a ha y x).1 hm).1;omega
 have fb:=first b hb 8 mb λy x hm=>by
  obtain⟨h1,h2⟩:=(H.m b hb y x).1 hm;have h1:=(inE y x).1 h1;rw[fE y x h1,eb]at h2;by_cases h8:x<8
  ·rw[ll h8]at h2;exact absurd h2 (by decide)
  ·omega
 have fc:=first c hc 10 mc λy x hm=>by
  obtain⟨h1,h2⟩:=(H.m c hc y x).1 hm;have h1:=(inE y x).1 h1;rw[fE y x h1,ec]at h2;by_cases h8:x<8
  ·rw[ll h8]at h2;exact absurd h2 (by decide)
  ·rw[lu h8]at h2;by_cases h10:x<10
   ·rw[ll h10]at h2;exact absurd h2 (by decide)
   ·omega
 have all:∀k<Q.n,k=a\/k=b\/k=c:=λk hk=>by
  have ne:=H.c.P.ne k hk;have hr:=ax7 (P:=Q) ne;have okr:=((H.c.P.v k hk).1 _ hr).2;obtain⟨h1,h2⟩:=(H.m k hk _ _).1 ((mem_iff _ _ _).2 ⟨_,hr,rfl,xp _,okr⟩);have h1:=(inE _ _).1 h1;rw[fE _ _ h1]at h2;split at h2
  ·exact .inl (inj k a hk ha (h2.symm.trans ea.symm))
  ·split at h2
   ·exact .inr (.inl (inj k b hk hb (h2.symm.trans eb.symm)))
   ·exact .inr (.inr (inj k c hk hc (h2.symm.trans ec.symm)))
 have key:∀i j,i<j->j<Q.n->(Q.p i 0).y<(Q.p j 0).y\/((Q.p i 0).y=(Q.p j 0).y/\(Q.p i 0).x0<=(Q.p j 0).x0):=λi j hij hj=>by
  induction j with
  |zero=>omega
  |succ j ih=>
   have h1:=H.c.P.ord j hj;by_cases hji:i=j
   ·subst hji;exact h1
   ·have h2:=ih (by omega) (by have hj:j+1<Q.n:=hj;show j<Q.n;omega);have h1:(Q.p j 0).y<(Q.p (j+1) 0).y\/((Q.p j 0).y=(Q.p (j+1) 0).y/\(Q.p j 0).x0<=(Q.p (j+1) 0).x0):=h1;omega
 have ab:a<b:=by
  rcases xL a b with hl|hl|hl
  ·exact hl
  ·subst hl;omega
  ·have:=key b a hl ha;omega
 have bc:b<c:=by
  rcases xL b c with hl|hl|hl
  ·exact hl
  ·subst hl;omega
  ·have:=key c b hl hb;omega
 have h0:=all 0 (by omega);have h1:=all 1 (by omega);have h2:=all 2 (by omega);obtain⟨rfl,rfl,rfl⟩:a=0/\b=1/\c=2:=by omega
 refine⟨?_,eb⟩;rcases uk 3 Q.n with hlt|hge
 ·have:=all 3 hlt;omega
 ·omega
end
end Trt
namespace Fra
open Go.RowKit Sx Num Aff Con Rga Rgl Rgm Rgn Rgc Rgd Gat Gar Ows Apl Apt Cel Ofl Ftp Cof Wid Trp Tsp Tpn Tco Ttr Trq Trt
def bJ1:FSpec:=aa9 5 (γ:=Int×Int×Int) (λ| [.int _ x,.int _ l,.int _ h]=>some (x,l,h)|_=>none) (λg=>[.int .i64 g.1,.int .i64 g.2.1,.int .i64 g.2.2])
 (λg=>(-1000000<=g.2.1/\g.2.1<=g.2.2)/\g.2.2<=1000000) (λg=> .int .i64 (cutI g.1 g.2.1 g.2.2))
theorem bM6:aa5 Tw.prog bJ1:=by
 refine ssW (specs:=[]) trivial Tw.func5 (λg=>A0) ?_;rintro⟨x,low,high⟩ ⟨⟨h1,h2⟩,h3⟩;simp only at h1 h2 h3
 obtain⟨e1,e2,e3⟩:=bR2 x (high-low+1) (by omega);have h5:=Int.emod_nonneg (x.tmod (high-low+1)) (b:=high-low+1) (by omega);have h6:=Int.emod_lt_of_pos (x.tmod (high-low+1)) (b:=high-low+1) (by omega);have e4:(x.tmod (high-low+1)+(high-low+1)).tmod (high-low+1)=x%(high-low+1):=by
  rw[Int.tmod_eq_emod_of_nonneg (by omega),Int.add_emod_right,e1]
 refine ac7 (B:=let A:=Aq;let z3:=(high-low+(1:Int)≠(0:Int));let z2:=(9223372036854775807:Int);let z1:=(-9223372036854775808:Int);let z0:=(high-low+(1:Int));Tt/\Tt/\Tt/\A (z1<=high-low/\high-low<=z2)/\A (z1<=high-low+(1:Int)/\high-low+(1:Int)<=z2)/\Tt/\Tt/\Tt/\Tt/\A z3/\Tt/\A (z1<=x.tmod z0+z0/\x.tmod z0+z0<=z2)/\Tt/\A z3/\A (z1<=low+(x.tmod z0+z0).tmod z0/\low+(x.tmod z0+z0).tmod z0<=z2)/\Tt/\Tt/\A (IntKind.i64=IntKind.i64)/\A (low+(x.tmod z0+z0).tmod z0=cutI x low high)) ?_;simp only[e4];rw[e1]at h5 h6;simp[bS7,b79,cutI];omega
def cm3:FSpec:=aa9 4 (γ:=Unit) (λ| []=>some ()|_=>none) (λ_=>[]) (λ_=>True) (λ_=> .bool true)
structure PA where
 n:Nat
 p:Nat->Rn
 m:Nat
 q:Nat->Rn
def pc8D(s:SV):Pcs:=match s with
 |.sl n _ f=>⟨n,λi=>aj1 (f i 0),λi=>rgD (f i 0),λi=>v8 (Sx.intOf (f i 1)) (Sx.intOf (f i 2)) (Sx.intOf (f i 3)) (Sx.intOf (f i 4)) (Sx.intOf (f i 5)) (Sx.intOf (f i 6)) (Sx.intOf (f i 7)) (Sx.intOf (f i 8))⟩
 |_=>⟨0,λ_=>0,λ_ _=>⟨0,0,0⟩,λ_ _=>0⟩
def bI6:FSpec:=ck5 (λ| [.int _ w,.int _ h,s,.sl m _ o,.int _ r]=>some ⟨w.toNat,h.toNat,pc8D s,m,λk=>(Sx.intOf (o k 0)).toNat,r.toNat⟩|_=>none)
theorem bX8:aa5 Tw.prog bI6:=bX7 _
def td3:Inv:=⟨PA,λs=>(s.n=(Lf lrc.f lrc.n).length/\s.p=rI (Lf lrc.f lrc.n))/\s.m=(Lf rrc.f rrc.n).length/\s.q=rI (Lf rrc.f rrc.n),λs=>⟨[(1,rgS ⟨s.n,s.p⟩),(3,rgS ⟨s.m,s.q⟩)],[]⟩,λ_=>0⟩
def td4:Inv:=⟨Pcs,λQ=>Q.n=3/\kOf (Q.ink 1)=[255,200,0,0,0,0,0,0],λQ=>⟨[(5,pcS Q),(6,.int .i64 0)],[]⟩,λ_=>0⟩
def twoP(s:PA):Gar.Pcs:=Gar.Pcs.mk 2 (λi=>bif decide (i=1)then s.m else s.n) (λi j=>Rn.mk (bif decide (i=1)then(s.q j).y else(s.p j).y) (bif decide (i=1)then(s.q j).x0 else(s.p j).x0) (bif decide (i=1)then(s.q j).x1 else(s.p j).x1))
 (λi=>v8 (bif decide (i=1)then 0 else 255) (bif decide (i=1)then 200 else 0) (bif decide (i=1)then 0 else 0) (bif decide (i=1)then 0 else 0) (bif decide (i=1)then 0 else 0) (bif decide (i=1)then 0 else 0) (bif decide (i=1)then 0 else 0) (bif decide (i=1)then 0 else 0))
theorem ck3{s:PA}(h:td3.pre s):Two (twoP s):=by
 obtain⟨⟨h1,h2⟩,h3,h4⟩:(s.n=(Lf lrc.f lrc.n).length/\s.p=rI (Lf lrc.f lrc.n))/\s.m=(Lf rrc.f rrc.n).length/\s.q=rI (Lf rrc.f rrc.n):=h;refine⟨rfl,?_,?_,λr hr=>?_,λr hr=>?_,rfl,rfl⟩
 ·show s.n=16;rw[h1,aq7];rfl
 ·show s.m=16;rw[h3,aq7];rfl
 ·show s.p r=_;rw[h2];exact aK4 lrc.f (show r<lrc.n from hr)
 ·show s.q r=_;rw[h4];exact aK4 rrc.f (show r<rrc.n from hr)
theorem cq6:aa5 Tw.prog cm3:=by
 refine seW (specs:=[bc9,bI6]) ⟨a36,bX8,trivial⟩ (eqs:=eqI) bw0 Tw.func4 (λg=>(⟨[(3,.cut td3),(4,.cut td4)],[]⟩:Ann)) ?_;rintro _ _;refine ac7 (B:=let T5:=λp:Prop=>Tt/\Tt/\Tt/\Tt/\Tt/\p;let T8:=λp:Prop=>Tt/\Tt/\Tt/\Tt/\Tt/\Tt/\Tt/\Tt/\p;let A:=Aq;let z26:=(Int.toNat (2:Int));let z17:=(2:Nat);let z11:=(1:Nat);let z10:=(Int.toNat (1:Int));let z8:=(IntKind.u8=IntKind.u8);let z4:=(0:Int);let z16:=(λ(k:Nat)=>(bif decide (k=z11)then(1:Int)else z4).toNat);let z9:=(ReG.mk z4 z4 (8:Int) (16:Int));let z7:=(ReG.mk (8:Int) z4 (16:Int) (16:Int));let z3:=(IntKind.i64=IntKind.i64);let q3:=λp:Int=>A z3/\A (p=p);let z25:=(q3 ((8:Int)));let z23:=(A z3/\A ((1:Int)=(↑z10:Int)));let z20:=(q3 z4);let z15:=(q3 ((16:Int)));Tt/\((z20/\z20/\z25/\z15/\Tt)/\A z9.ok)/\T5 ((((z25/\z20/\z15/\z15/\Tt)/\A z7.ok)/\T5 (∃g:PA,A (td3.pre g)/\((A ((Lf z9.f z9.n).length=g.n)/\∀i:Nat,let z21:=(rI (Lf z9.f z9.n) i);i<g.n->((Tt/\A z3/\A (z21.y=(g.p i).y))/\A z3/\A (z21.x0=(g.p i).x0))/\A z3/\A (z21.x1=(g.p i).x1))/\(A ((Lf z7.f z7.n).length=g.m)/\∀i:Nat,let z22:=(rI (Lf z7.f z7.n) i);i<g.m->((Tt/\A z3/\A (z22.y=(g.q i).y))/\A z3/\A (z22.x0=(g.q i).x0))/\A z3/\A (z22.x1=(g.q i).x1))/\Tt)/\Tt))/\∀g:PA,let z19:=(λ(i:Nat)=>bif decide (i=z11)then g.m else g.n);let z0:=(TrG.mk z10 z10 (Gar.Pcs.mk z17 z19 (λ(i i_1:Nat)=>Rn.mk (bif decide (i=z11)then(g.q i_1).y else(g.p i_1).y) (bif decide (i=z11)then(g.q i_1).x0 else(g.p i_1).x0) (bif decide (i=z11)then(g.q i_1).x1 else(g.p i_1).x1)) λ(i:Nat)=>let z13:=(bif decide (i=z11)then z4 else z4);Trt.v8 (bif decide (i=z11)then z4 else(255:Int)) (bif decide (i=z11)then(200:Int)else z4) z13 z13 z13 z13 z13 z13) z17 z16 z26);let z27:=(ofA z0.of);let z12:=(Gar.Gt.P z27);td3.pre g->(T8 (((z23/\z23/\(A (z17=z17)/\∀i:Nat,let z18:=(i=z11);let z6:=(bif decide z18 then(200:Int)else z4);let z5:=(bif decide z18 then z4 else(255:Int));let z1:=(bif decide z18 then z4 else z4);i<z17->((((((((Tt/\A ((bif decide z18 then g.m else g.n)=bif decide z18 then g.m else g.n)/\∀i_1:Nat,(i_1<bif decide z18 then g.m else g.n)->((Tt/\A z3/\A ((bif decide z18 then(g.q i_1).y else(g.p i_1).y)=bif decide z18 then(g.q i_1).y else(g.p i_1).y))/\A z3/\A ((bif decide z18 then(g.q i_1).x0 else(g.p i_1).x0)=bif decide z18 then(g.q i_1).x0 else(g.p i_1).x0))/\A z3/\A ((bif decide z18 then(g.q i_1).x1 else(g.p i_1).x1)=bif decide z18 then(g.q i_1).x1 else(g.p i_1).x1))/\A z8/\A (z5=Trt.v8 z5 z6 z1 z1 z1 z1 z1 z1 (0:Nat)))/\A z8/\A (z6=Trt.v8 z5 z6 z1 z1 z1 z1 z1 z1 z11))/\A z8/\A (z1=Trt.v8 z5 z6 z1 z1 z1 z1 z1 z1 z17))/\A z8/\A (z1=Trt.v8 z5 z6 z1 z1 z1 z1 z1 z1 (3:Nat)))/\A z8/\A (z1=Trt.v8 z5 z6 z1 z1 z1 z1 z1 z1 (4:Nat)))/\A z8/\A (z1=Trt.v8 z5 z6 z1 z1 z1 z1 z1 z1 (5:Nat)))/\A z8/\A (z1=Trt.v8 z5 z6 z1 z1 z1 z1 z1 z1 (6:Nat)))/\A z8/\A (z1=Trt.v8 z5 z6 z1 z1 z1 z1 z1 z1 (7:Nat)))/\(A (z17=z17)/\∀i:Nat,let z24:=(bif decide (i=z11)then(1:Int)else z4);i<z17->Tt/\A z3/\A (z24=(↑z24.toNat:Int)))/\(A z3/\A ((2:Int)=(↑z26:Int)))/\Tt)/\A (z0.Ok/\z0.ck.Ok))/\T5 (∃g_1:Gar.Pcs,A (td4.pre g_1)/\((A ((bif z27.full then(0:Nat)else z27.n)=g_1.n)/\∀i:Nat,i<g_1.n->((((((((Tt/\A (z12.m i=g_1.m i)/\∀i_1:Nat,let z2:=((Gar.Gt.P (ofA (TrG.mk z10 z10 (Gar.Pcs.mk z17 z19 (λ(i i_2:Nat)=>Rn.mk (bif decide (i=z11)then(g.q i_2).y else(g.p i_2).y) (bif decide (i=z11)then(g.q i_2).x0 else(g.p i_2).x0) (bif decide (i=z11)then(g.q i_2).x1 else(g.p i_2).x1)) λ(i:Nat)=>let z14:=(bif decide (i=z11)then z4 else z4);Trt.v8 (bif decide (i=z11)then z4 else(255:Int)) (bif decide (i=z11)then(200:Int)else z4) z14 z14 z14 z14 z14 z14) z17 z16 z26).of)).p i i_1);i_1<g_1.m i->((Tt/\A z3/\A (z2.y=(g_1.p i i_1).y))/\A z3/\A (z2.x0=(g_1.p i i_1).x0))/\A z3/\A (z2.x1=(g_1.p i i_1).x1))/\A z8/\A (z12.ink i (0:Nat)=g_1.ink i (0:Nat)))/\A z8/\A (z12.ink i z11=g_1.ink i z11))/\A z8/\A (z12.ink i z17=g_1.ink i z17))/\A z8/\A (z12.ink i (3:Nat)=g_1.ink i (3:Nat)))/\A z8/\A (z12.ink i (4:Nat)=g_1.ink i (4:Nat)))/\A z8/\A (z12.ink i (5:Nat)=g_1.ink i (5:Nat)))/\A z8/\A (z12.ink i (6:Nat)=g_1.ink i (6:Nat)))/\A z8/\A (z12.ink i (7:Nat)=g_1.ink i (7:Nat)))/\(A z3/\A ((bif z27.full then(2:Int)else z4)=z4))/\Tt)/\Tt)))/\∀g:Gar.Pcs,td4.pre g->T8 (Br (decide ((↑g.n:Int)=(3:Int))) (Tt/\A (z4<=(1:Int)/\(1:Int)<(↑g.n:Int))/\T5 (Tt/\Tt/\A ((decide (g.ink z10 (0:Nat)=(255:Int))&&(decide (g.ink z10 z11=(200:Int))&&(decide (g.ink z10 z17=z4)&&(decide (g.ink z10 (3:Nat)=z4)&&(decide (g.ink z10 (4:Nat)=z4)&&(decide (g.ink z10 (5:Nat)=z4)&&(decide (g.ink z10 (6:Nat)=z4)&&(decide (g.ink z10 (7:Nat)=z4)&&true))))))))=true))) (Tt/\Tt/\Tt/\A (false=true))))) ?_;simp only[cln,ly,lO,xA];refine⟨b65,⟨b45,⟨⟨_,rI (Lf lrc.f lrc.n),_,rI (Lf rrc.f rrc.n)⟩,⟨⟨rfl,rfl⟩,rfl,rfl⟩,⟨rfl,λ_ _=>⟨⟨rfl,rfl⟩,rfl⟩⟩,rfl,λ_ _=>⟨⟨rfl,rfl⟩,rfl⟩⟩⟩,λs hs=>?_⟩;have h2:=ck3 hs;have h3:=h2.three;have hT:=bF8 bu8 h2.of;refine⟨⟨⟨⟨rfl,rfl,λi _=>⟨⟨⟨⟨⟨⟨⟨rfl,rfl⟩,rfl⟩,rfl⟩,rfl⟩,rfl⟩,rfl⟩,rfl⟩,λi hi=>?_,rfl⟩,b98 bu8 h2.of,tk_ck bu8 h2.of⟩,Gt.P (ofA (tk og2 (twoP s) 2 o01 2).of),h3,pEq (P:=Gt.P (ofA (tk og2 (twoP s) 2 o01 2).of)) rfl,?_⟩,λQ hQ=>⟨λhn=>⟨by omega,?_⟩,λhn=>?_⟩⟩
 ·match i,hi with
  |0,_=>rfl
  |1,_=>rfl
 ·show(bif (ofA (tk og2 (twoP s) 2 o01 2).of).full then(2:Int)else 0)=0;rw[hT.n];rfl
 ·obtain⟨_,hk⟩:Q.n=3/\kOf (Q.ink 1)=[255,200,0,0,0,0,0,0]:=hQ;unfold kOf at hk;simp only[List.cons.injEq,laf]at hk;obtain⟨e0,e1,e2,e3,e4,e5,e6,e7⟩:=hk;show(decide (Q.ink 1 0=255)&&(decide (Q.ink 1 1=200)&&(decide (Q.ink 1 2=0)&&(decide (Q.ink 1 3=0)&&(decide (Q.ink 1 4=0)&&(decide (Q.ink 1 5=0)&&(decide (Q.ink 1 6=0)&&(decide (Q.ink 1 7=0)&&true))))))))=true;rw[e0,e1,e2,e3,e4,e5,e6,e7];rfl
 ·obtain⟨h,_⟩:Q.n=3/\kOf (Q.ink 1)=[255,200,0,0,0,0,0,0]:=hQ;omega
end Fra
namespace Frb
open Go.RowKit Sx Num Aff Con Rga Gat Gar Cel Fra
theorem _root_.Go.Proofs.YtnhecfkpiojmhaaGreat.Tw.func6:Tw.prog.funcs[6]?=some Tryz.f6:=by kernel_rfl
structure PhG where
 w:Nat
 h:Nat
 n:Nat
 f:Nat->Vec
 k:Int
def four(v:Vec):Vec:=λj=>if j<4 then v j else 0
def PhG.at'(g:PhG)(i:Nat):Nat:=(i%(16*g.w)/(cutI g.k 1 40).toNat+i/(16*g.w)/3)%g.n
def PhG.cel(g:PhG)(i:Nat):Vec:=if 0<g.n then four (g.f (g.at' i)) elseλ_=>0
def PhG.of(g:PhG):OfG:=⟨g.w,g.h,256*g.w*g.h,λi j=>if i<256*g.w*g.h then g.cel i j else 0⟩
structure PhG.Ok(g:PhG):Prop where
 w:1<=g.w/\g.w<=2
 h:1<=g.h/\g.h<=2
 n:g.n<=17592186044416
def piI(g:PhG):Inv:=⟨Nat,λi=>i<=256*g.w*g.h,λi=>⟨[(0,.int .i64 g.w),(1,.int .i64 g.h),(2,bi7 g.n g.f),(3,.int .i64 (cutI g.k 1 40)),(9,.osl 0 0),(22,.int .i64 (256*g.w*g.h)),(23,.int .i64 i)],
 [.row 0 (256*g.w*g.h) 8 (λa j=> .int .u8 (if a<i then g.cel a j else 0)) 45]⟩,λi=>256*g.w*g.h-i⟩
def spPh:FSpec:=aa9 6 (γ:=PhG) (λ| [.int _ w,.int _ h,s,.int _ k]=>some ⟨w.toNat,h.toNat,aj1 s,b12 s,k⟩|_=>none) (λg=>[.int .i64 g.w,.int .i64 g.h,bi7 g.n g.f,.int .i64 g.k]) PhG.Ok (λg=>pcS (Gt.P (ofA g.of)))
theorem ok_ph:aa5 Tw.prog spPh:=by
 refine ssW (specs:=[bJ1,giv spOf]) (⟨bM6,aC8 ce6,trivial⟩) Tw.func6 (λg=>(⟨[(4,.inv (piI g))],[]⟩:Ann)) ?_;rintro g hg;refine ac7 (B:=let K:=Int.toNat;let A:=Aq;let z36:=(3:Int);let z35:=(ofA g.of);let z33:=(40:Int);let z29:=(↑(8:Nat):Int);let z28:=(7:Nat);let z27:=(6:Nat);let z26:=(5:Nat);let z25:=(4:Nat);let z24:=(3:Nat);let z23:=(2:Nat);let z21:=(↑g.n:Int);let z20:=(1:Int);let z19:=(1:Nat);let z17:=(cutI g.k z20 z33);let z16:=(256:Int);let z15:=(256:Nat);let z22:=(z15*g.w*g.h=z15*g.w*g.h);let z12:=(0:Nat);let z11:=(↑g.h:Int);let z10:=(-9223372036854775808:Int);let z9:=(9223372036854775807:Int);let z7:=(Gar.Gt.P z35);let z6:=(↑g.w:Int);let z34:=(z10<=(16:Int)*z6/\(16:Int)*z6<=z9);let z14:=((16:Int)*z6);let z5:=(IntKind.i64=IntKind.i64);let q5:=λp:Int=>A z5/\A (p=p);let z32:=(q5 (z16*z6*z11));let z31:=(q5 z6);let z30:=(q5 z11);let z13:=(q5 (cutI g.k z20 z33));let z3:=(0:Int);let z2:=(IntKind.u8=IntKind.u8);let q2:=λp:Int=>A z2/\A (p=p);let z1:=(A (g.n=g.n)/\∀i:Nat,i<g.n->(chp True (λj:Nat=>q2 (g.f i j)) 7)/\q2 (g.f i z28));Tt/\Tt/\A (z10<=z16*z6/\z16*z6<=z9)/\Tt/\A (z10<=z16*z6*z11/\z16*z6*z11<=z9)/\A (z3<=z16*z6*z11/\z16*z6*z11<=z16*z6*z11/\z29*(z16*z6*z11)<=(140737488355328:Int)/\z16*z6*z11<=z9)/\Tt/\Tt/\(((q5 g.k)/\(q5 z20)/\(q5 z33)/\Tt)/\A (((-1000000:Int)<=z20/\z20<=z33)/\z33<=(1000000:Int)))/\Tt/\Tt/\Tt/\Tt/\(∃g_1:Nat,A ((piI g).pre g_1)/\(z31/\z30/\z1/\z13/\Tt/\(A z5/\A ((↑(z16*z6*z11).toNat:Int)=z16*z6*z11))/\(A z5/\A (z3=(↑g_1:Int)))/\Tt)/\(A ((z16*z6*z11).toNat=z15*g.w*g.h)/\∀i:Nat,i<z15*g.w*g.h->(chp True (λj:Nat=>A z2/\A (z3=if i<g_1 then g.cel i j else z3)) 7)/\A z2/\A (z3=if i<g_1 then g.cel i z28 else z3))/\Tt)/\∀g_1:Nat,let z8:=(↑g_1:Int);let z38:=(z8.tdiv z14);let z37:=(z8.tmod z14);let z4:=(z37.tdiv z17+z38.tdiv z36);let z0:=(ofA (OfG.mk z6.toNat z11.toNat (z15*g.w*g.h) λ(i j:Nat)=>if i<g_1 then g.cel i j else z3));let z18:=(Gar.Gt.P z0);(piI g).pre g_1->Tt/\Br (decide (z8<z16*z6*z11)) (Tt/\Tt/\Tt/\Tt/\Tt/\Br (decide (z3<z21)) (Tt/\Tt/\Tt/\A z34/\A ((16:Int)*z6≠z3)/\Tt/\A (cutI g.k z20 z33≠z3/\z10<=z37.tdiv z17/\z37.tdiv z17<=z9)/\Tt/\Tt/\A z34/\A ((16:Int)*z6≠z3/\z10<=z8.tdiv z14/\z8.tdiv z14<=z9)/\A (z36≠z3/\z10<=z38.tdiv z36/\z38.tdiv z36<=z9)/\A (z10<=z37.tdiv z17+z38.tdiv z36/\z37.tdiv z17+z38.tdiv z36<=z9)/\Tt/\Tt/\A (z21≠z3)/\A (z3<=z4.tmod z21/\z4.tmod z21<z21)/\Tt/\Tt/\Tt/\Tt/\Tt/\A (z3<=z3/\z3<z29)/\Tt/\A (z3<=z20/\z20<z29)/\Tt/\A (z3<=(2:Int)/\(2:Int)<z29)/\Tt/\A (z3<=z36/\z36<z29)/\Tt/\Tt/\A (z3<=z8/\z8<(↑(z15*g.w*g.h):Int))/\A (z8.toNat<z15*g.w*g.h)/\A (z10<=z8+z20/\z8+z20<=z9)/\Tt/\∃(g':Nat),A ((piI g).pre g')/\((z31/\z30/\z1/\z13/\Tt/\z32/\(A z5/\A (z8+z20=(↑g':Int)))/\Tt)/\(A z22/\∀i:Nat,i<z15*g.w*g.h->(((((((Tt/\A z2/\A ((bif decide (i=z8.toNat/\z12<=z12/\z12<z12+(8:Nat))then g.f (z4.tmod z21).toNat (z12+(z12+K z3*z19))else if i<g_1 then g.cel i z12 else z3)=if i<g' then g.cel i z12 else z3))/\A z2/\A ((bif decide (i=z8.toNat/\z12<=z19/\z19<z12+(8:Nat))then g.f (z4.tmod z21).toNat (z12+(z12+K z20*z19))else if i<g_1 then g.cel i z19 else z3)=if i<g' then g.cel i z19 else z3))/\A z2/\A ((bif decide (i=z8.toNat/\z12<=z23/\z23<z12+(8:Nat))then g.f (z4.tmod z21).toNat (z12+(z12+K (2:Int)*z19))else if i<g_1 then g.cel i z23 else z3)=if i<g' then g.cel i z23 else z3))/\A z2/\A ((bif decide (i=z8.toNat/\z12<=z24/\z24<z12+(8:Nat))then g.f (z4.tmod z21).toNat (z12+(z12+K z36*z19))else if i<g_1 then g.cel i z24 else z3)=if i<g' then g.cel i z24 else z3))/\A z2/\A ((bif decide (i=z8.toNat/\z12<=z25/\z25<z12+(8:Nat))then z3 else if i<g_1 then g.cel i z25 else z3)=if i<g' then g.cel i z25 else z3))/\A z2/\A ((bif decide (i=z8.toNat/\z12<=z26/\z26<z12+(8:Nat))then z3 else if i<g_1 then g.cel i z26 else z3)=if i<g' then g.cel i z26 else z3))/\A z2/\A ((bif decide (i=z8.toNat/\z12<=z27/\z27<z12+(8:Nat))then z3 else if i<g_1 then g.cel i z27 else z3)=if i<g' then g.cel i z27 else z3))/\A z2/\A ((bif decide (i=z8.toNat/\z12<=z28/\z28<z12+(8:Nat))then z3 else if i<g_1 then g.cel i z28 else z3)=if i<g' then g.cel i z28 else z3))/\Tt)/\A ((piI g).meas g'<(piI g).meas g_1)) (A (z10<=z8+z20/\z8+z20<=z9)/\Tt/\∃(g':Nat),A ((piI g).pre g')/\((z31/\z30/\z1/\z13/\Tt/\z32/\(A z5/\A (z8+z20=(↑g':Int)))/\Tt)/\(A z22/\∀i:Nat,i<z15*g.w*g.h->(((((((Tt/\A z2/\A ((if i<g_1 then g.cel i z12 else z3)=if i<g' then g.cel i z12 else z3))/\A z2/\A ((if i<g_1 then g.cel i z19 else z3)=if i<g' then g.cel i z19 else z3))/\A z2/\A ((if i<g_1 then g.cel i z23 else z3)=if i<g' then g.cel i z23 else z3))/\A z2/\A ((if i<g_1 then g.cel i z24 else z3)=if i<g' then g.cel i z24 else z3))/\A z2/\A ((if i<g_1 then g.cel i z25 else z3)=if i<g' then g.cel i z25 else z3))/\A z2/\A ((if i<g_1 then g.cel i z26 else z3)=if i<g' then g.cel i z26 else z3))/\A z2/\A ((if i<g_1 then g.cel i z27 else z3)=if i<g' then g.cel i z27 else z3))/\A z2/\A ((if i<g_1 then g.cel i z28 else z3)=if i<g' then g.cel i z28 else z3))/\Tt)/\A ((piI g).meas g'<(piI g).meas g_1))) (Tt/\Tt/\Tt/\(((A z5/\A (z6=(↑z6.toNat:Int)))/\(A z5/\A (z11=(↑z11.toNat:Int)))/\(A z22/\∀i:Nat,i<z15*g.w*g.h->(((((((Tt/\A z2/\A ((if i<g_1 then g.cel i z12 else z3)=if i<g_1 then g.cel i z12 else z3))/\A z2/\A ((if i<g_1 then g.cel i z19 else z3)=if i<g_1 then g.cel i z19 else z3))/\A z2/\A ((if i<g_1 then g.cel i z23 else z3)=if i<g_1 then g.cel i z23 else z3))/\A z2/\A ((if i<g_1 then g.cel i z24 else z3)=if i<g_1 then g.cel i z24 else z3))/\A z2/\A ((if i<g_1 then g.cel i z25 else z3)=if i<g_1 then g.cel i z25 else z3))/\A z2/\A ((if i<g_1 then g.cel i z26 else z3)=if i<g_1 then g.cel i z26 else z3))/\A z2/\A ((if i<g_1 then g.cel i z27 else z3)=if i<g_1 then g.cel i z27 else z3))/\A z2/\A ((if i<g_1 then g.cel i z28 else z3)=if i<g_1 then g.cel i z28 else z3))/\Tt)/\A ((z19<=z6.toNat/\z6.toNat<=z15)/\(z19<=z11.toNat/\z11.toNat<=z15)/\z15*g.w*g.h=z15*z6.toNat*z11.toNat))/\Tt/\Tt/\Tt/\Tt/\Tt/\Tt/\Tt/\Tt/\A ((bif z0.full then z12 else z0.n)=bif z35.full then z12 else z35.n)/\∀i:Nat,(i<bif z35.full then z12 else z35.n)->((((((((Tt/\A (z18.m i=z7.m i)/\∀i_1:Nat,i_1<z7.m i->((Tt/\A z5/\A ((z18.p i i_1).y=(z7.p i i_1).y))/\A z5/\A ((z18.p i i_1).x0=(z7.p i i_1).x0))/\A z5/\A ((z18.p i i_1).x1=(z7.p i i_1).x1))/\A z2/\A (z18.ink i z12=z7.ink i z12))/\A z2/\A (z18.ink i z19=z7.ink i z19))/\A z2/\A (z18.ink i z23=z7.ink i z23))/\A z2/\A (z18.ink i z24=z7.ink i z24))/\A z2/\A (z18.ink i z25=z7.ink i z25))/\A z2/\A (z18.ink i z26=z7.ink i z26))/\A z2/\A (z18.ink i z27=z7.ink i z27))/\A z2/\A (z18.ink i z28=z7.ink i z28))) ?_;simp only[chp];simp only[cln,ly,lO];obtain⟨hw,hh,hn⟩:=hg;have hN:256*g.w*g.h<=1024:=ue (show 256*g.w<=512 by omega) hh.2;have eN:(256:Int)*(g.w:Int)*(g.h:Int)=((256*g.w*g.h:Nat):Int):=by rw[Int.natCast_mul,Int.natCast_mul];rfl
 simp only[eN,ly,lar];have hc:=ak1 g.k 1 40 (by omega);obtain⟨c,ec,hc1,hc2⟩:∃c:Nat,cutI g.k 1 40=(c:Int)/\1<=c/\c<=40:=⟨(cutI g.k 1 40).toNat,by omega,by omega,by omega⟩
 have hat:∀i,g.at' i=(i%(16*g.w)/c+i/(16*g.w)/3)%g.n:=λi=>by unfold PhG.at';rw[ec];rfl
 have hpi:∀a:Nat,(piI g).pre a->a<=256*g.w*g.h:=λa h=>h
 have hpi':∀a:Nat,a<=256*g.w*g.h->(piI g).pre a:=λa h=>h
 have hms:∀a:Nat,a<256*g.w*g.h->(piI g).meas (a+1)<(piI g).meas a:=λa h=>by show 256*g.w*g.h-(a+1)<256*g.w*g.h-a;omega
 have eof:(⟨g.w,g.h,256*g.w*g.h,λi j=>if i<256*g.w*g.h then g.cel i j else 0⟩:OfG)=g.of:=rfl;generalize hM:256*g.w*g.h=M at *
 refine⟨by omega,by omega,by omega,by omega,⟨0,hpi' 0 (lB _),by omega,λi _=>eight (a:=λ_=>0) (b:=λj=>if i<0 then g.cel i j else 0) (λj _=>rfl)⟩,λa ha=>?_⟩;replace ha:=hpi a ha
 refine⟨λhlt=>⟨λhpos=>?_,λhz=>⟨by omega,a+1,hpi' _ (by omega),⟨by omega,λi _=>?_⟩,hms a (by omega)⟩⟩,λhge=>?_⟩
 ·have e0:(a:Int).tmod (16*(g.w:Int))=((a%(16*g.w):Nat):Int):=by rw[show(16:Int)*(g.w:Int)=((16*g.w:Nat):Int)by omega];exact(Int.ofNat_tmod a _).symm
  have e1:((a%(16*g.w):Nat):Int).tdiv (cutI g.k 1 40)=((a%(16*g.w)/c:Nat):Int):=by rw[ec];exact(Int.ofNat_tdiv _ c).symm
  have e2:(a:Int).tdiv (16*(g.w:Int))=((a/(16*g.w):Nat):Int):=by rw[show(16:Int)*(g.w:Int)=((16*g.w:Nat):Int)by omega];exact(Int.ofNat_tdiv a _).symm
  have e3:((a/(16*g.w):Nat):Int).tdiv 3=((a/(16*g.w)/3:Nat):Int):=(Int.ofNat_tdiv _ 3).symm;have e4:(((a%(16*g.w)/c:Nat):Int)+((a/(16*g.w)/3:Nat):Int)).tmod (g.n:Int)=(((a%(16*g.w)/c+a/(16*g.w)/3)%g.n:Nat):Int):=by rw[<-Int.natCast_add];exact(Int.ofNat_tmod _ _).symm
  have b0:a%(16*g.w)<=a:=Nat.mod_le _ _;have b1:a%(16*g.w)/c<=a%(16*g.w):=Nat.div_le_self _ _;have b2:a/(16*g.w)<=a:=Nat.div_le_self _ _;have b3:a/(16*g.w)/3<=a/(16*g.w):=Nat.div_le_self _ _;have b4:(a%(16*g.w)/c+a/(16*g.w)/3)%g.n<g.n:=xS _ (by omega);have en:=(hat a).symm;rw[e0,e1,e2,e3,e4];generalize a%(16*g.w)/c=q1 at *
  generalize a%(16*g.w)=q0 at *
  generalize a/(16*g.w)=q2 at *
  generalize q2/3=q3 at *
  generalize (q1+q3)%g.n=q4 at *
  refine⟨by omega,by omega,⟨by omega,by omega⟩,by omega,⟨by omega,by omega⟩,⟨by omega,by omega⟩,by omega,by omega,by omega,by omega,by omega,by omega,by omega,by omega,by omega,by omega,a+1,hpi' _ (by omega),⟨by omega,λi _=>?_⟩,hms a (by omega)⟩;rw[ly,en];by_cases hi:i=a
  ·subst hi;have h:=eight (a:=λj=>if j<4 then g.f (g.at' i) j else 0) (b:=λj=>if i<i+1 then g.cel i j else 0) (λj hj=>by
    show(if j<4 then g.f (g.at' i) j else 0)=if i<i+1 then g.cel i j else 0
    rw[ll (xD i)];unfold PhG.cel;rw[ll (show 0<g.n by omega)];rfl)
   simpa using h
  ·have e:∀j,(if i<a then g.cel i j else 0)=if i<a+1 then g.cel i j else 0:=λj=>by
    by_cases h:i<a
    ·rw[ll h,ll (by omega)]
    ·rw[lu h,lu (by omega)]
   have:=eight (a:=λj=>if i<a then g.cel i j else 0) (b:=λj=>if i<a+1 then g.cel i j else 0) (λj _=>e j)
   simpa[hi]using this
 ·refine eight (a:=λj=>if i<a then g.cel i j else 0) (b:=λj=>if i<a+1 then g.cel i j else 0) (λj _=>?_);show(if i<a then g.cel i j else 0)=if i<a+1 then g.cel i j else 0
  unfold PhG.cel;rw[lu (show¬ 0<g.n by omega)];show(if i<a then(0:Int)else 0)=if i<a+1 then(0:Int)else 0
  rw[ite_self,ite_self]
 ·obtain rfl:a=M:=by omega
  rw[eof];refine⟨⟨⟨hw.1,by omega⟩,hh.1,by omega⟩,?_⟩;simp
end Frb
namespace Rgg
open Go.RowKit Sx Num Aff Con Rga Rgl Rgm Rgn Rgb Rgc Rgf
def bs4:FSpec:=a43 57 (γ:=Rg) (λ| [s]=>some ⟨aj1 s,rgD s⟩|_=>none) (λg=>[rgS g]) (λg=>0<g.n/\g.n<=4294967296) (λ_=> .osl 0 0) (λg=>rowS 0 g.n g.f)
theorem bM2:aa5 Tw.prog bs4:=by
 refine aO4 (specs:=[]) (av3 trivial) (eqs:=[]) (λ_ _ h=>(xi h).elim) Aff.mixed Tw.func57 rfl (by kernel_rfl) (λ_ _=>by kernel_rfl) (λg=>(⟨[],[(1,[.nilc 0])]⟩:Ann)) (λ_=>0) (λg=>lN (by kernel_rfl)) ?_;rintro g ⟨h0,hn⟩;refine ac7 (B:=let A:=Aq;let z0:=(IntKind.i64=IntKind.i64);Tt/\(g.n=(0:Nat)->Tt/\Tt/\Tt/\Tt/\False)/\Tt/\Tt/\Tt/\Tt/\A ((0:Nat)+g.n<=(9223372036854775807:Nat)/\((0:Nat)+g.n)*(24:Nat)<=(140737488355328:Nat))/\Tt/\Tt/\(Tt/\Tt)/\(A ((0:Nat)+g.n=g.n)/\∀i:Nat,let z1:=(g.f (i-(0:Nat)));i<g.n->((Tt/\A z0/\A (z1.y=(g.f i).y))/\A z0/\A (z1.x0=(g.f i).x0))/\A z0/\A (z1.x1=(g.f i).x1))/\True) ?_;simp only[cln];refine⟨λh=>by omega,by omega,λi _=>?_⟩;rw[lah];exact⟨⟨rfl,rfl⟩,rfl⟩
def em(f:Nat->Rn):SV:= .sl 0 3 (λi=>lst (rnL (f i)))
def bs5:FSpec:=aa9 57 (γ:=Nat->Rn) (λ| [s]=>some (rgD s)|_=>none) (λf=>[em f]) (λ_=>True) (λf=>em f)
theorem bM3:aa5 Tw.prog bs5:=by
 refine ssW (specs:=[]) trivial Tw.func57 (λg=>(⟨[],[(1,[.nilc 0])]⟩:Ann)) ?_;rintro g hg;refine ac7 (B:=let A:=Aq;let z1:=(IntKind.i64=IntKind.i64);let z0:=(0:Nat);Tt/\(z0=z0->Tt/\Tt/\Tt/\Tt/\A (z0=z0))/\Tt/\Tt/\Tt/\Tt/\A (z0+z0<=(9223372036854775807:Nat)/\(z0+z0)*(24:Nat)<=(140737488355328:Nat))/\Tt/\Tt/\A (z0+z0=z0)/\∀i:Nat,i<z0->((Tt/\A z1/\A ((g (i-z0)).y=(g i).y))/\A z1/\A ((g (i-z0)).x0=(g i).x0))/\A z1/\A ((g (i-z0)).x1=(g i).x1)) ?_;simp only[cln];exact⟨by decide,λi hi=>absurd hi (ln _)⟩
def bI7:FSpec:=aa9 58 (γ:=Nat->Rn) (λ| [s,.fn _ _ _]=>some (rgD s)|_=>none) (λf=>[em f,.fn 59 0 (lst [])]) (λ_=>True) (λ_=> .tup 0 (lst []))
theorem bX9:aa5 Tw.prog bI7:=by
 refine bI4 (enters_of Tw.func58 (by kernel_rfl) rfl) (λf _ vals w X hsz hr hX=>?_);have h0:=hr 0 (by show 0<2;decide);have h1:=hr 1 (by show 1<2;decide);obtain⟨v0,v1,rfl⟩:∃v0 v1,vals = #[v0,v1]:=by
  have hs:vals.size=2:=hsz;exact⟨vals[0],vals[1],by
   apply Array.ext
   ·exact hs
   ·intro i hi1 hi2;have:i=0\/i=1:=by omega
    rcases this with rfl|rfl<;>rfl⟩
 have h0:R w X E0 (em f) v0:=h0;have h1:R w X E0 (.fn 59 0 (lst [])) v1:=h1;have hv1:v1=.func (.func 59) #[] #[]:=by
  cases h1 with
  |fn hs hr=>rw[xZ.1 hs]
 subst hv1;obtain⟨a,cap,rfl⟩:∃a cap,v0=.slice a 0 cap:=by
  unfold em at h0;cases h0 with
  |sl0=>exact⟨_,_,rfl⟩
  |sl=>exact⟨_,_,rfl⟩
 refine(AnyF.slices_SortFunc_none Tw.bm0 a cap (.func (.func 59) #[] #[]) w).mono ?_;rintro e w' ⟨rfl,rfl⟩;exact⟨_,rfl,.tup rfl (λi hi=>absurd hi (ln _)),Below.refl _ _⟩
def joOk(g:Rg):Prop:=(∀i<g.n,okR (g.f i))/\g.n<=100000000
def au6(g:Rg):List Rn:=be8 (mem g.L)
structure JoG where
 i:Nat
 L:List Rn
def bC2(g:Rg):Inv:=⟨JoG,λs=>JoP (rI (srt g)) g.n s.i s.L,λs=>⟨[(3,.own 1 0),(10,.osl 0 0),(11,.int .i64 g.n),(12,.int .i64 s.i)],
  [rowS 0 g.n (rI (srt g)),.cells 1 (lst [.osl 2 0]) 67,.row 0 s.L.length 3 (λi=>lst (rnL (rI s.L i))) 58]⟩,λs=>g.n-s.i⟩
def cb9:FSpec:=aa9 45 (γ:=Rg) (λ| [s]=>some ⟨aj1 s,rgD s⟩|_=>none) (λg=>[rgS g]) (λg=>0<g.n/\joOk g) (λg=>al4 (au6 g))
theorem bY1:aa5 Tw.prog cb9:=by
 refine ssW (specs:=[bs4,bc8,aO6]) (⟨bM2,bm8,aF8,trivial⟩) Tw.func45 (λg=>(⟨[(5,.inv (bC2 g))],[(4,[.ownC 1 0 58 3])]⟩:Ann)) ?_;rintro g hg;refine ac7 (B:=let A:=Aq;let z9:=((0:Nat)=(0:Nat));let z0:=(IntKind.i64=IntKind.i64);let q0:=λp:Int=>A z0/\A (p=p);let z8:=(q0 ((↑g.n:Int)));let z3:=(A (g.n=g.n)/\∀i:Nat,i<g.n->((Tt/\q0 ((g.f i).y))/\q0 ((g.f i).x0))/\q0 ((g.f i).x1));let z2:=(A (g.n=g.n)/\∀i:Nat,let z5:=(rI (Rgf.srt g) i);i<g.n->((Tt/\q0 z5.y)/\q0 z5.x0)/\q0 z5.x1);Tt/\Tt/\((z3/\Tt)/\A ((0:Nat)<g.n/\g.n<=(4294967296:Nat)))/\Tt/\Tt/\((Tt/\(Tt/\(A ((59:Nat)=(59:Go.FuncId))/\Tt)/\Tt)/\z3/\Tt)/\A ((∀i:Nat,i<g.n->okR (g.f i))/\g.n<=(4294967296:Nat)))/\Tt/\Tt/\Tt/\Tt/\(∃g_1:JoG,A ((bC2 g).pre g_1)/\(A z9/\Tt/\z8/\(A z0/\A ((0:Int)=(↑g_1.i:Int)))/\Tt)/\z2/\(Tt/\Tt)/\(A ((0:Nat)=g_1.L.length)/\∀i:Nat,i<g_1.L.length->((Tt/\False)/\False)/\False)/\Tt)/\∀g_1:JoG,let z6:=(↑g_1.i:Int);let z1:=(rI (Rgf.srt g) z6.toNat);let z4:=(AdG.mk g_1.L.length (rI g_1.L) z1);(bC2 g).pre g_1->Tt/\Br (decide (z6<(↑g.n:Int))) (A ((0:Int)<=z6/\z6<(↑g.n:Int))/\A (z6.toNat<g.n)/\Tt/\Tt/\Tt/\Tt/\Tt/\Tt/\Tt/\Tt/\((Tt/\(A z9/\(q0 z1.y)/\(q0 z1.x0)/\(q0 z1.x1)/\Tt)/\(Tt/\Tt)/\(A (g_1.L.length=g_1.L.length)/\∀i:Nat,let z7:=(rI g_1.L i);i<g_1.L.length->((Tt/\q0 z7.y)/\q0 z7.x0)/\q0 z7.x1)/\Tt)/\A (g_1.L.length<=(4294967296:Nat)))/\A ((-9223372036854775808:Int)<=z6+(1:Int)/\z6+(1:Int)<=(9223372036854775807:Int))/\Tt/\∃(g':JoG),A ((bC2 g).pre g')/\((A z9/\Tt/\z8/\(A z0/\A (z6+(1:Int)=(↑g'.i:Int)))/\Tt)/\z2/\(Tt/\Tt)/\(A (z4.L.length=g'.L.length)/\∀i:Nat,i<g'.L.length->((Tt/\A z0/\A ((rI z4.L i).y=(rI g'.L i).y))/\A z0/\A ((rI z4.L i).x0=(rI g'.L i).x0))/\A z0/\A ((rI z4.L i).x1=(rI g'.L i).x1))/\Tt)/\A ((bC2 g).meas g'<(bC2 g).meas g_1)) (Tt/\Tt/\Tt/\Tt/\A (g_1.L.length=(au6 g).length)/\∀i:Nat,let z10:=(rI (au6 g) i);i<(au6 g).length->((Tt/\A z0/\A ((rI g_1.L i).y=z10.y))/\A z0/\A ((rI g_1.L i).x0=z10.x0))/\A z0/\A ((rI g_1.L i).x1=z10.x1))) ?_;simp only[cln];obtain⟨h0,hok,hn⟩:=hg;have hmem:∀k<g.n,rI (srt g) k∈srt g:=λk hk=>by
  unfold rI;rw[la,lw (by rw[ar3];exact hk)];exact xv _
 have oks:∀k<g.n,okR (rI (srt g) k):=λk hk=>by
  obtain⟨j,hj,e⟩:=lX.1 ((al3 g).mem_iff.1 (hmem k hk));rw[<-e];exact hok j (lG.1 hj)
 have srt':∀j k,j<k->k<g.n->le0 (rI (srt g) j) (rI (srt g) k):=λj k hjk hk=>by
  have h:=aw1 g hjk hk;rw[au5]at h;obtain⟨⟨⟨a1,a2⟩,⟨a3,a4⟩,_⟩,_⟩:=oks j (by omega);obtain⟨⟨⟨b1,b2⟩,⟨b3,b4⟩,_⟩,_⟩:=oks k hk;rw[as6 a1 (by omega),as6 a3 a4,as6 b1 (by omega),as6 b3 b4]at h;unfold le0;omega
 refine⟨⟨h0,by omega⟩,⟨hok,by omega⟩,⟨⟨0,[]⟩,a61 _ _,rfl,rfl,λk hk=>absurd hk (ln _)⟩,λs P=>⟨λhlt=>?_,λhge=>?_⟩⟩
 ·have P:JoP (rI (srt g)) g.n s.i s.L:=P;have hlt:s.i<g.n:=by omega
  have hl:=bnd P.hL;have z:((s.i:Int)).toNat=s.i:=rfl;rw[z,addL];refine⟨by omega,hlt,hl,by omega,⟨s.i+1,addR s.L (rI (srt g) s.i)⟩,bn6 oks srt' P hlt,⟨rfl,rfl,λk _=>⟨⟨rfl,rfl⟩,rfl⟩⟩,?_⟩;show g.n-(s.i+1)<g.n-s.i;omega
 ·have P:JoP (rI (srt g)) g.n s.i s.L:=P;have hi:=P.hi;have e:s.i=g.n:=by omega
  have hm:=P.hm;rw[e]at hm;have es:Lf (rI (srt g)) g.n=srt g:=by rw[<-ar3 g];exact b22 _
  have eo:au6 g=s.L:=aM3 P.hL (λy x=>by rw[hm,es];exact mem_congr (λr=>(al3 g).mem_iff) y x);rw[eo];exact⟨rfl,λk _=>⟨⟨rfl,rfl⟩,rfl⟩⟩
def cc0:FSpec:=aa9 45 (γ:=Nat->Rn) (λ| [s]=>some (rgD s)|_=>none) (λf=>[em f]) (λ_=>True) (λ_=>em (λ_=>⟨0,0,0⟩))
theorem bY2:aa5 Tw.prog cc0:=by
 refine ssW (specs:=[bs5,bI7]) (⟨bM3,bX9,trivial⟩) Tw.func45 (λg=>(⟨[(5,.rounds 1)],[(4,[.ownC 0 0 58 3])]⟩:Ann)) ?_;rintro g hg;refine ac7 (B:=let A:=Aq;let z1:=(IntKind.i64=IntKind.i64);let q1:=λp:Int=>A z1/\A (p=p);let z0:=(A ((0:Nat)=(0:Nat))/\∀i:Nat,i<(0:Nat)->((Tt/\q1 ((g i).y))/\q1 ((g i).x0))/\q1 ((g i).x1));Tt/\Tt/\((z0/\Tt)/\A True)/\Tt/\Tt/\((z0/\(A ((59:Nat)=(59:Go.FuncId))/\Tt)/\Tt)/\A True)/\Tt/\Tt/\Tt/\Tt/\Tt/\Tt/\Tt/\Tt/\Tt/\A ((0:Nat)=(0:Nat))/\∀i:Nat,i<(0:Nat)->((Tt/\False)/\False)/\False) ?_;simp only[cln];exactλi hi=>absurd hi (ln _)
theorem bI3{P:Program}{f:FuncId}{γ γ0:Type}{dec:List SV->Option γ}{args:γ->List SV}{pre pre1:γ->Prop}{res:γ->SV}{dec0:List SV->Option γ0}{args0:γ0->List SV}{pre0:γ0->Prop}{res0:γ0->SV}
  (h1:aa5 P (aa9 f dec args pre1 res)) (h0:aa5 P (aa9 f dec0 args0 pre0 res0))
  (hc:∀g,pre g->pre1 g\/∃g0,dec0 (args0 g0)=some g0/\aX5 (args0 g0)/\(args0 g0).all (ac4 6)=true/\pre0 g0/\args g=args0 g0/\res g=res0 g0):aa5 P (aa9 f dec args pre res):=by
 refine⟨h1.1,λargs H HF nm y _ _ h=>h,λl H nm y hrun hp w0 X0 E w hrep hf vals ha=>?_⟩;simp only[aa9]at hrun;split at hrun
 case h_2=>cases hrun
 rename_i hpu;split at hrun
 case h_2=>cases hrun
 rename_i g hdec;cases hrun;obtain⟨hle,⟨hpre⟩⟩:=hp;rcases hc g hpre with h|⟨g0,e1,e2,e3,e4,e5,e6⟩
 ·refine h1.2.2 l H nm ⟨aa9.leArgs l (args g)/\Aq (pre1 g),res g,.keep⟩ ?_ ⟨hle,⟨h⟩⟩ w0 X0 E w hrep hf vals ha;simp only[aa9,hpu,hdec]
 ·obtain⟨hll,hle⟩:=am1 hle;have hr:=aE2 ha hpu;have hsz:=ha.1;have h:=h0.2.2 (args0 g0) H nm ⟨aa9.leArgs (args0 g0) (args0 g0)/\Aq (pre0 g0),res0 g0,.keep⟩ (by simp only[aa9,e3,e1]) ⟨az6 e2,⟨e4⟩⟩ w0 X0 E w hrep hf vals
   ⟨by rw[<-e5];omega,λi hi=>by
    rw[<-e5]at hi⊢;exact up (bA3 (λ_ hb=>hb) (hle i hi) (hr i (by omega)))⟩
  rw[e6];exact h
theorem bM7(f:Nat->Rn):au6 ⟨0,f⟩=[]:=aM3 am3 (λ_ _=>rfl)
def bs1:FSpec:=aa9 45 (γ:=Rg) (λ| [s]=>some ⟨aj1 s,rgD s⟩|_=>none) (λg=>[rgS g]) joOk (λg=>al4 (au6 g))
theorem bn1:aa5 Tw.prog bs1:=by
 refine bI3 bY1 bY2 (λg hg=>?_);rcases xB g.n with h|h
 ·obtain⟨n,f⟩:=g;have h:n=0:=h;subst h;exact .inr ⟨f,rfl,⟨λi j=>aP8 (l:=rnL (f i)) ⟨trivial,trivial,trivial,trivial⟩ j,trivial⟩,rfl,trivial,rfl,by rw[bM7];rfl⟩
 ·exact .inl ⟨h,hg⟩
end Rgg
end Go.Proofs.YtnhecfkpiojmhaaGreat
