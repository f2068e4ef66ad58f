import Derived.Test.YtnhecfkpiojmhaaGreatM6
set_option maxRecDepth 100000
set_option linter.all false
noncomputable section
/- Part 7. -/
namespace Go.Proofs.YtnhecfkpiojmhaaGreat
namespace Cel
open Go.RowKit Sx Num Aff Con Rga Gat Gar
theorem eight{a b:Vec}(h:∀j<8,a j=b j):((((((a 0=b 0/\a 1=b 1)/\a 2=b 2)/\a 3=b 3)/\a 4=b 4)/\a 5=b 5)/\a 6=b 6)/\a 7=b 7:=
 ⟨⟨⟨⟨⟨⟨⟨h 0 (by omega),h 1 (by omega)⟩,h 2 (by omega)⟩,h 3 (by omega)⟩,h 4 (by omega)⟩,h 5 (by omega)⟩,h 6 (by omega)⟩,h 7 (by omega)⟩
structure CeG where
 w:Nat
 h:Nat
 P:Pcs
def put(c:Nat->Vec)(a b:Nat)(v:Vec)(i:Nat):Vec:=bif decide (a<=i/\i<b)then v else c i
def rwAt(w:Nat)(r:Rn):Nat:=r.y.toNat*(16*w)
def putR(w:Nat)(c:Nat->Vec)(r:Rn)(v:Vec):Nat->Vec:=put c (rwAt w r+r.x0.toNat) (rwAt w r+r.x1.toNat) v
def ceR(g:CeG)(c:Nat->Vec)(k:Nat):Nat->Nat->Vec
 |0=>c
 |r+1=>putR g.w (ceR g c k r) (g.P.p k r) (g.P.ink k)
def ceP(g:CeG):Nat->Nat->Vec
 |0=>λ_ _=>0
 |k+1=>ceR g (ceP g k) k (g.P.m k)
def ceB(g:CeG):Nat->Vec:=ceP g g.P.n
structure CeG.Ok(g:CeG):Prop where
 w:1<=g.w/\g.w<=256
 h:1<=g.h/\g.h<=256
 n:g.P.n<=4096
 m:∀k<g.P.n,g.P.m k<=4294967296
 r:∀k r,k<g.P.n->r<g.P.m k->(0<=(g.P.p k r).y/\(g.P.p k r).y<16*g.h)/\(0<=(g.P.p k r).x0/\(g.P.p k r).x0<(g.P.p k r).x1)/\(g.P.p k r).x1<=16*g.w
def ceO(g:CeG)(c:Nat->Vec):SO:= .row 0 (256*g.w*g.h) 8 (λi j=> .int .u8 (c i j)) 45
def ce1(g:CeG):Inv:=⟨Nat,λk=>k<=g.P.n,λk=>⟨[(0,.int .i64 g.w),(7,.osl 0 0),(19,pcS g.P),(20,.int .i64 g.P.n),(21,.int .i64 k)],[ceO g (ceP g k)]⟩,λk=>g.P.n-k⟩
def ce2(g:CeG)(k:Nat):Inv:=⟨Nat,λr=>k<g.P.n/\r<=g.P.m k,λr=>⟨[(0,.int .i64 g.w),(7,.osl 0 0),(19,pcS g.P),(20,.int .i64 g.P.n),(21,.int .i64 k),(9,.own 1 0),(26,rgS ⟨g.P.m k,g.P.p k⟩),(27,.int .i64 (g.P.m k)),(28,.int .i64 r)],
 [ceO g (ceR g (ceP g k) k r),.cells 9 (pcC g.P k) 47]⟩,λr=>g.P.m k-r⟩
def ce3(g:CeG)(k r:Nat):Inv:=⟨Nat,λx=>(k<g.P.n/\r<g.P.m k)/\(g.P.p k r).x0<=x/\x<=(g.P.p k r).x1,
 λx=>⟨[(0,.int .i64 g.w),(7,.osl 0 0),(19,pcS g.P),(20,.int .i64 g.P.n),(21,.int .i64 k),(9,.own 1 0),(26,rgS ⟨g.P.m k,g.P.p k⟩),(27,.int .i64 (g.P.m k)),(28,.int .i64 r),(11,.own 2 0),(12,.win 0 0 8 (rwAt g.w (g.P.p k r)) (256*g.w*g.h-rwAt g.w (g.P.p k r))),(13,.int .i64 x)],
 [ceO g (put (ceR g (ceP g k) k r) (rwAt g.w (g.P.p k r)+(g.P.p k r).x0.toNat) (rwAt g.w (g.P.p k r)+x) (g.P.ink k)),.cells 9 (pcC g.P k) 47,.cells 3 (lst (rnL (g.P.p k r))) 58]⟩,λx=>((g.P.p k r).x1-x).toNat⟩
def bl8:FSpec:=a43 22 (γ:=CeG) (λ| [.int _ w,.int _ h,p]=>some ⟨w.toNat,h.toNat,pcD p⟩|_=>none) (λg=>[.int .i64 g.w,.int .i64 g.h,pcS g.P])
 (λg=>g.Ok) (λ_=> .osl 0 0) (λg=>ceO g (ceB g))
theorem bu7:aa5 Tw.prog bl8:=by
 refine aO4 (specs:=[]) (av3 trivial) (eqs:=[]) (λ_ _ h=>(xi h).elim) Aff.mixed Tw.func22 rfl (by kernel_rfl) (λ_ _=>by kernel_rfl)
  (λg=>(⟨[(3,.nest (ce1 g) (λk=>[(6,.nest (ce2 g k) (λr=>[(10,.inv (ce3 g k r))]))]))],[]⟩:Ann)) (λ_=>0) (λg=>lN (by kernel_rfl)) ?_
 rintro g hg;refine ac7 (B:=let T4:=λp:Prop=>Tt/\Tt/\Tt/\Tt/\p;let K:=Int.ofNat;let A:=Aq;let z45:=(1:Int);let z44:=(8:Nat);let z43:=(16:Int);let z37:=(↑g.h:Int);let z36:=(256:Int);let z34:=(0:Int);let z30:=(7:Nat);let z29:=(6:Nat);let z28:=(5:Nat);let z27:=(4:Nat);let z26:=(3:Nat);let z25:=(2:Nat);let z24:=(1:Nat);let z20:=(↑g.w:Int);let z19:=(256:Nat);let z35:=(z19*g.w*g.h);let z18:=(-9223372036854775808:Int);let z17:=(9223372036854775807:Int);let z14:=(z19*g.w*g.h=z19*g.w*g.h);let z11:=(0:Nat);let z46:=(z11=z11);let z4:=(IntKind.i64=IntKind.i64);let q4:=λp:Int=>A z4/\A (p=p);let z15:=(q4 z20);let z10:=(q4 ((↑g.P.n:Int)));let z2:=(IntKind.u8=IntKind.u8);let q2:=λp:Int=>A z2/\A (p=p);let z0:=(A (g.P.n=g.P.n)/\∀i:Nat,i<g.P.n->(chp (Tt/\A (g.P.m i=g.P.m i)/\∀i_1:Nat,let z39:=(g.P.p i i_1);i_1<g.P.m i->((Tt/\q4 z39.y)/\q4 z39.x0)/\q4 z39.x1) (λj:Nat=>q2 (g.P.ink i j)) 7)/\q2 (g.P.ink i z30));Tt/\Tt/\A (z18<=z36*z20/\z36*z20<=z17)/\Tt/\A (z18<=z36*z20*z37/\z36*z20*z37<=z17)/\A (z34<=z36*z20*z37/\z36*z20*z37<=z36*z20*z37/\(↑z44:Int)*(z36*z20*z37)<=(140737488355328:Int)/\z36*z20*z37<=z17)/\T4 ((∃g_1:Nat,A ((ce1 g).pre g_1)/\(z15/\Tt/\z0/\z10/\(A z4/\A (z34=(↑g_1:Int)))/\Tt)/\(A ((z36*z20*z37).toNat=z19*g.w*g.h)/\∀i:Nat,i<z19*g.w*g.h->(chp True (λj:Nat=>A z2/\A (z34=ceP g g_1 i j)) 7)/\A z2/\A (z34=ceP g g_1 i z30))/\Tt)/\∀g_1:Nat,let z21:=(↑(g.P.m g_1):Int);let z38:=(q4 z21);let z16:=(ceP g g_1);let z12:=(↑g_1:Int);let z32:=(q4 z12);let z9:=(g.P.ink g_1);let z7:=(A (g.P.m g_1=g.P.m g_1)/\∀i:Nat,let z40:=(g.P.p g_1 i);i<g.P.m g_1->((Tt/\q4 z40.y)/\q4 z40.x0)/\q4 z40.x1);let z1:=(chp (Tt/\A (g.P.m g_1=g.P.m g_1)/\∀i:Nat,let z41:=(g.P.p g_1 i);i<g.P.m g_1->((Tt/\q4 z41.y)/\q4 z41.x0)/\q4 z41.x1) (λj:Nat=>q2 (g.P.ink g_1 j)) 8);(ce1 g).pre g_1->Tt/\Br (decide (z12<(↑g.P.n:Int))) (A (z34<=z12/\z12<(↑g.P.n:Int))/\T4 (Tt/\Tt/\Tt/\(∃g_2:Nat,A ((ce2 g g_1).pre g_2)/\(z15/\Tt/\z0/\z10/\z32/\A z46/\(A (g.P.m z12.toNat=g.P.m g_1)/\∀i:Nat,i<g.P.m g_1->((Tt/\A z4/\A ((g.P.p z12.toNat i).y=(g.P.p g_1 i).y))/\A z4/\A ((g.P.p z12.toNat i).x0=(g.P.p g_1 i).x0))/\A z4/\A ((g.P.p z12.toNat i).x1=(g.P.p g_1 i).x1))/\(A z4/\A ((↑(g.P.m z12.toNat):Int)=z21))/\(A z4/\A (z34=(↑g_2:Int)))/\Tt)/\(A z14/\∀i:Nat,i<z19*g.w*g.h->(((((((Tt/\A z2/\A (ceP g g_1 i z11=ceR g z16 g_1 g_2 i z11))/\A z2/\A (ceP g g_1 i z24=ceR g z16 g_1 g_2 i z24))/\A z2/\A (ceP g g_1 i z25=ceR g z16 g_1 g_2 i z25))/\A z2/\A (ceP g g_1 i z26=ceR g z16 g_1 g_2 i z26))/\A z2/\A (ceP g g_1 i z27=ceR g z16 g_1 g_2 i z27))/\A z2/\A (ceP g g_1 i z28=ceR g z16 g_1 g_2 i z28))/\A z2/\A (ceP g g_1 i z29=ceR g z16 g_1 g_2 i z29))/\A z2/\A (ceP g g_1 i z30=ceR g z16 g_1 g_2 i z30))/\(((((((((Tt/\A (g.P.m z12.toNat=g.P.m g_1)/\∀i:Nat,i<g.P.m g_1->((Tt/\A z4/\A ((g.P.p z12.toNat i).y=(g.P.p g_1 i).y))/\A z4/\A ((g.P.p z12.toNat i).x0=(g.P.p g_1 i).x0))/\A z4/\A ((g.P.p z12.toNat i).x1=(g.P.p g_1 i).x1))/\A z2/\A (g.P.ink z12.toNat z11=g.P.ink g_1 z11))/\A z2/\A (g.P.ink z12.toNat z24=g.P.ink g_1 z24))/\A z2/\A (g.P.ink z12.toNat z25=g.P.ink g_1 z25))/\A z2/\A (g.P.ink z12.toNat z26=g.P.ink g_1 z26))/\A z2/\A (g.P.ink z12.toNat z27=g.P.ink g_1 z27))/\A z2/\A (g.P.ink z12.toNat z28=g.P.ink g_1 z28))/\A z2/\A (g.P.ink z12.toNat z29=g.P.ink g_1 z29))/\A z2/\A (g.P.ink z12.toNat z30=g.P.ink g_1 z30))/\Tt)/\∀g_2:Nat,let z42:=(ce3 g g_1 g_2);let z33:=(↑g_2:Int);let z8:=(g.P.p g_1 z33.toNat);let z6:=(g.P.p g_1 g_2);let z5:=(ceR g z16 g_1 g_2);let z3:=(rwAt g.w z6+z6.x0.toNat);(ce2 g g_1).pre g_2->Tt/\Br (decide (z33<z21)) (A (z34<=z33/\z33<z21)/\T4 (Tt/\Tt/\A (z18<=z8.y*z43/\z8.y*z43<=z17)/\Tt/\A (z18<=z8.y*z43*z20/\z8.y*z43*z20<=z17)/\A (z34<=z8.y*z43*z20/\z8.y*z43*z20<=K z35/\K z35<=K z35/\K z35<=(↑z35:Int))/\T4 ((∃g_3:Nat,let z22:=(rwAt g.w z6+g_3);A (z42.pre g_3)/\(z15/\Tt/\z0/\z10/\z32/\A z46/\z7/\z38/\(q4 z33)/\A z46/\(A ((z8.y*z43*z20).toNat=rwAt g.w z6)/\A ((K z35-z8.y*z43*z20).toNat=z19*g.w*g.h-rwAt g.w z6))/\(A z4/\A (z8.x0=(↑g_3:Int)))/\Tt)/\(A z14/\∀i:Nat,i<z19*g.w*g.h->(((((((Tt/\A z2/\A (ceR g z16 g_1 g_2 i z11=put z5 z3 z22 z9 i z11))/\A z2/\A (ceR g z16 g_1 g_2 i z24=put z5 z3 z22 z9 i z24))/\A z2/\A (ceR g z16 g_1 g_2 i z25=put z5 z3 z22 z9 i z25))/\A z2/\A (ceR g z16 g_1 g_2 i z26=put z5 z3 z22 z9 i z26))/\A z2/\A (ceR g z16 g_1 g_2 i z27=put z5 z3 z22 z9 i z27))/\A z2/\A (ceR g z16 g_1 g_2 i z28=put z5 z3 z22 z9 i z28))/\A z2/\A (ceR g z16 g_1 g_2 i z29=put z5 z3 z22 z9 i z29))/\A z2/\A (ceR g z16 g_1 g_2 i z30=put z5 z3 z22 z9 i z30))/\z1/\(((Tt/\A z4/\A (z8.y=z6.y))/\A z4/\A (z8.x0=z6.x0))/\A z4/\A (z8.x1=z6.x1))/\Tt)/\∀g_3:Nat,let z23:=(↑g_3:Int);let z13:=(rwAt g.w z6+g_3);z42.pre g_3->T4 (Br (decide (z23<z6.x1)) (T4 (A (z34<=z23/\z23<(↑(z19*g.w*g.h-rwAt g.w z6):Int))/\A (rwAt g.w z6+z23.toNat<z19*g.w*g.h)/\Tt/\A (z18<=z23+z45/\z23+z45<=z17)/\Tt/\∃(g':Nat),let z31:=(rwAt g.w z6+g');A (z42.pre g')/\((z15/\Tt/\z0/\z10/\z32/\A z46/\z7/\z38/\(q4 z33)/\A z46/\(A (rwAt g.w z6=rwAt g.w z6)/\A (z19*g.w*g.h-rwAt g.w z6=z19*g.w*g.h-rwAt g.w z6))/\(A z4/\A (z23+z45=(↑g':Int)))/\Tt)/\(A z14/\∀i:Nat,i<z19*g.w*g.h->(((((((Tt/\A z2/\A ((bif decide (i=rwAt g.w z6+z23.toNat/\z11<=z11/\z11<z11+z44)then g.P.ink g_1 z11 else put z5 z3 z13 z9 i z11)=put z5 z3 z31 z9 i z11))/\A z2/\A ((bif decide (i=rwAt g.w z6+z23.toNat/\z11<=z24/\z24<z11+z44)then g.P.ink g_1 z24 else put z5 z3 z13 z9 i z24)=put z5 z3 z31 z9 i z24))/\A z2/\A ((bif decide (i=rwAt g.w z6+z23.toNat/\z11<=z25/\z25<z11+z44)then g.P.ink g_1 z25 else put z5 z3 z13 z9 i z25)=put z5 z3 z31 z9 i z25))/\A z2/\A ((bif decide (i=rwAt g.w z6+z23.toNat/\z11<=z26/\z26<z11+z44)then g.P.ink g_1 z26 else put z5 z3 z13 z9 i z26)=put z5 z3 z31 z9 i z26))/\A z2/\A ((bif decide (i=rwAt g.w z6+z23.toNat/\z11<=z27/\z27<z11+z44)then g.P.ink g_1 z27 else put z5 z3 z13 z9 i z27)=put z5 z3 z31 z9 i z27))/\A z2/\A ((bif decide (i=rwAt g.w z6+z23.toNat/\z11<=z28/\z28<z11+z44)then g.P.ink g_1 z28 else put z5 z3 z13 z9 i z28)=put z5 z3 z31 z9 i z28))/\A z2/\A ((bif decide (i=rwAt g.w z6+z23.toNat/\z11<=z29/\z29<z11+z44)then g.P.ink g_1 z29 else put z5 z3 z13 z9 i z29)=put z5 z3 z31 z9 i z29))/\A z2/\A ((bif decide (i=rwAt g.w z6+z23.toNat/\z11<=z30/\z30<z11+z44)then g.P.ink g_1 z30 else put z5 z3 z13 z9 i z30)=put z5 z3 z31 z9 i z30))/\z1/\(((Tt/\q4 z6.y)/\q4 z6.x0)/\q4 z6.x1)/\Tt)/\A (z42.meas g'<z42.meas g_3))) (A (z18<=z33+z45/\z33+z45<=z17)/\Tt/\∃(g':Nat),A ((ce2 g g_1).pre g')/\((z15/\Tt/\z0/\z10/\z32/\A z46/\z7/\z38/\(A z4/\A (z33+z45=(↑g':Int)))/\Tt)/\(A z14/\∀i:Nat,i<z19*g.w*g.h->(((((((Tt/\A z2/\A (put z5 z3 z13 z9 i z11=ceR g z16 g_1 g' i z11))/\A z2/\A (put z5 z3 z13 z9 i z24=ceR g z16 g_1 g' i z24))/\A z2/\A (put z5 z3 z13 z9 i z25=ceR g z16 g_1 g' i z25))/\A z2/\A (put z5 z3 z13 z9 i z26=ceR g z16 g_1 g' i z26))/\A z2/\A (put z5 z3 z13 z9 i z27=ceR g z16 g_1 g' i z27))/\A z2/\A (put z5 z3 z13 z9 i z28=ceR g z16 g_1 g' i z28))/\A z2/\A (put z5 z3 z13 z9 i z29=ceR g z16 g_1 g' i z29))/\A z2/\A (put z5 z3 z13 z9 i z30=ceR g z16 g_1 g' i z30))/\z1/\Tt)/\A ((ce2 g g_1).meas g'<(ce2 g g_1).meas g_2)))))) (A (z18<=z12+z45/\z12+z45<=z17)/\Tt/\∃(g':Nat),A ((ce1 g).pre g')/\((z15/\Tt/\z0/\z10/\(A z4/\A (z12+z45=(↑g':Int)))/\Tt)/\(A z14/\∀i:Nat,i<z19*g.w*g.h->(((((((Tt/\A z2/\A (ceR g z16 g_1 g_2 i z11=ceP g g' i z11))/\A z2/\A (ceR g z16 g_1 g_2 i z24=ceP g g' i z24))/\A z2/\A (ceR g z16 g_1 g_2 i z25=ceP g g' i z25))/\A z2/\A (ceR g z16 g_1 g_2 i z26=ceP g g' i z26))/\A z2/\A (ceR g z16 g_1 g_2 i z27=ceP g g' i z27))/\A z2/\A (ceR g z16 g_1 g_2 i z28=ceP g g' i z28))/\A z2/\A (ceR g z16 g_1 g_2 i z29=ceP g g' i z29))/\A z2/\A (ceR g z16 g_1 g_2 i z30=ceP g g' i z30))/\Tt)/\A ((ce1 g).meas g'<(ce1 g).meas g_1)))) (Tt/\Tt/\Tt/\(Tt/\Tt)/\(A z14/\∀i:Nat,i<z19*g.w*g.h->(((((((Tt/\A z2/\A (ceP g g_1 i z11=ceB g i z11))/\A z2/\A (ceP g g_1 i z24=ceB g i z24))/\A z2/\A (ceP g g_1 i z25=ceB g i z25))/\A z2/\A (ceP g g_1 i z26=ceB g i z26))/\A z2/\A (ceP g g_1 i z27=ceB g i z27))/\A z2/\A (ceP g g_1 i z28=ceB g i z28))/\A z2/\A (ceP g g_1 i z29=ceB g i z29))/\A z2/\A (ceP g g_1 i z30=ceB g i z30))/\Tt))) ?_;simp only[chp];simp only[cln,ly,lO];simp only[xA];have hw:=hg.w;have hh:=hg.h;have hn:=hg.n;have e3:256*g.w*g.h<=256*256*256:=ue (uS _ hw.2) hh.2;have c1:(256*(g.w:Int)*g.h)=((256*g.w*g.h:Nat):Int):=by simp
 rw[c1];refine⟨by omega,by omega,by omega,⟨0,lB _,rfl,ly _,λi _=>eight (a:=λ_=>0) (b:=ceP g 0 i) (λj _=>rfl)⟩,λk hk=>⟨λhlt=>⟨by omega,⟨0,⟨by omega,lB _⟩,rfl,λi _=>eight (λj _=>rfl)⟩,λr hr=>⟨λhlt2=>?_,λhge2=>?_⟩⟩,λhge=>?_⟩⟩
 ·have hkn:k<g.P.n:=by omega
  have hrn:r<g.P.m k:=by omega
  obtain⟨hy,hx,hx1⟩:=hg.r k r hkn hrn;have hm:=hg.m k hkn;generalize hrun:g.P.p k r=R at hy hx hx1;have ey:((R.y.toNat:Nat):Int)=R.y:=Int.toNat_of_nonneg hy.1;have c2:R.y*16*g.w=((rwAt g.w R:Nat):Int):=by
   unfold rwAt;rw[<-ey];simp[Int.mul_assoc]
  have h1:(R.y.toNat+1)*(16*g.w)<=256*g.w*g.h:=by
   refine lU (lk _ (show R.y.toNat+1<=16*g.h by omega)) (Nat.le_of_eq ?_);grind
  have h2:rwAt g.w R+16*g.w<=256*g.w*g.h:=by
   unfold rwAt;rw[lL,uD]at h1;exact h1
  rw[c2];refine⟨by omega,by omega,by omega,by omega,⟨R.x0.toNat,⟨⟨hkn,hrn⟩,by rw[hrun];omega,by rw[hrun];omega⟩,⟨⟨ly _,by omega⟩,by omega⟩,λi _=>eight (λj _=>?_)⟩,λx hx'=>?_⟩
  ·unfold put;rw[lf (by omega)];rfl
  ·obtain⟨_,hxx⟩:=hx';rw[hrun]at hxx;refine⟨λhlt3=>⟨by omega,by omega,by omega,x+1,⟨⟨hkn,hrn⟩,by rw[hrun];omega,by rw[hrun];omega⟩,⟨by omega,λi _=>?_⟩,?_⟩,λhge3=>⟨by omega,r+1,⟨hkn,hrn⟩,⟨by omega,λi _=>eight (λj _=>?_)⟩,by show g.P.m k-(r+1)<g.P.m k-r;omega⟩⟩
   ·refine eight (a:=λj=>bif decide (i=rwAt g.w R+x/\0<=j/\j<8)then g.P.ink k j else put (ceR g (ceP g k) k r) (rwAt g.w R+R.x0.toNat) (rwAt g.w R+x) (g.P.ink k) i j) (λj hj=>?_);simp only[put];by_cases hi:i=rwAt g.w R+x
    ·rw[lg (show i=rwAt g.w R+x/\0<=j/\j<8 from⟨hi,lB _,hj⟩),lg (show rwAt g.w R+R.x0.toNat<=i/\i<rwAt g.w R+(x+1)by omega)];rfl
    ·rw[lf (show¬ (i=rwAt g.w R+x/\0<=j/\j<8) fromλh=>hi h.1)];simp only[cond_false];rw[show decide (rwAt g.w R+R.x0.toNat<=i/\i<rwAt g.w R+x)=decide (rwAt g.w R+R.x0.toNat<=i/\i<rwAt g.w R+(x+1))from xP.2 (by omega)]
   ·show((g.P.p k r).x1-((x+1:Nat):Int)).toNat<((g.P.p k r).x1-(x:Int)).toNat;rw[hrun];omega
   ·show _=put (ceR g (ceP g k) k r) (rwAt g.w (g.P.p k r)+(g.P.p k r).x0.toNat) (rwAt g.w (g.P.p k r)+(g.P.p k r).x1.toNat) (g.P.ink k) i j;rw[hrun,show R.x1.toNat=x by omega]
 ·have hr2:r<=g.P.m k:=hr.2;have hkn:k<g.P.n:=by omega
  refine⟨by omega,k+1,hkn,⟨by omega,λi _=>eight (λj _=>?_)⟩,by show g.P.n-(k+1)<g.P.n-k;omega⟩;show _=ceR g (ceP g k) k (g.P.m k) i j;rw[show g.P.m k=r by omega]
 ·have hk2:k<=g.P.n:=hk;intro i _;refine eight (λj _=>?_);show _=ceP g g.P.n i j;rw[show g.P.n=k by omega]
end Cel
namespace Rgl
open Rga
def inR(r:Rn)(y x:Int):Bool:=decide (r.y=y/\r.x0<=x/\x<r.x1)
def mem(L:List Rn)(y x:Int):Bool:=L.any (λr=>inR r y x)
theorem af7(r:Rn)(y x:Int):inR r y x=true<->r.y=y/\r.x0<=x/\x<r.x1:=decide_eq_true_iff
theorem mem_iff(L:List Rn)(y x:Int):mem L y x=true<->∃r∈L,r.y=y/\r.x0<=x/\x<r.x1:=by
 unfold mem;rw[uO];exact⟨λ⟨r,h,e⟩=>⟨r,h,(af7 _ _ _).1 e⟩,λ⟨r,h,e⟩=>⟨r,h,(af7 _ _ _).2 e⟩⟩
theorem mem_cons(r:Rn)(L:List Rn)(y x:Int):mem (r::L) y x=(inR r y x||mem L y x):=rfl
theorem az4(L M:List Rn)(y x:Int):mem (L++M) y x=(mem L y x||mem M y x):=by
 unfold mem;rw[List.any_append]
theorem ar8(r:Rn)(y x:Int):mem [r] y x=inR r y x:=by
 unfold mem;simp
theorem am3:vld []:=⟨λ_ h=>(xi h).elim,List.Pairwise.nil⟩
theorem ae2{r:Rn}{L:List Rn}:vld (r::L)<->okR r/\(∀s∈L,ltR r s)/\vld L:=by
 unfold vld;rw[uY];constructor
 ·rintro⟨h1,h2,h3⟩;exact⟨h1 r (lP ..),h2,λs hs=>h1 s (lS _ hs),h3⟩
 ·rintro⟨h1,h2,h3,h4⟩;refine⟨λs hs=>?_,h2,h4⟩;rcases xe.1 hs with rfl|hs
  ·exact h1
  ·exact h3 s hs
theorem av7{r:Rn}{L:List Rn}:vld (L++[r])<->vld L/\okR r/\∀s∈L,ltR s r:=by
 unfold vld;rw[List.pairwise_append];constructor
 ·rintro⟨h1,h2,_,h3⟩;exact⟨⟨λs hs=>h1 s (List.mem_append_left _ hs),h2⟩,h1 r (List.mem_append_right _ (xy.2 rfl)),λs hs=>h3 s hs r (xy.2 rfl)⟩
 ·rintro⟨⟨h1,h2⟩,h3,h4⟩;refine⟨λs hs=>?_,h2,List.pairwise_singleton _ _,λs hs t ht=>?_⟩
  ·rcases ug.1 hs with hs|hs
   ·exact h1 s hs
   ·rw[xy.1 hs];exact h3
  ·rw[xy.1 ht];exact h4 s hs
theorem beyond{r:Rn}{L:List Rn}(h:vld (r::L)){y x:Int}(hm:mem L y x=true):r.y<y\/(r.y=y/\r.x1<x):=by
 obtain⟨s,hs,h1,h2,h3⟩:=(mem_iff _ _ _).1 hm;have:=(ae2.1 h).2.1 s hs
 unfold ltR at this;omega
theorem aG5{r:Rn}{L:List Rn}(h:vld (r::L)){y x:Int}(hm:mem (r::L) y x=true):r.y<y\/(r.y=y/\r.x0<=x):=by
 rw[mem_cons,xg]at hm;rcases hm with hm|hm
 ·have:=(af7 _ _ _).1 hm;omega
 ·have:=beyond h hm
  have:=(ae2.1 h).1.2
  omega
theorem aC9{r:Rn}{L:List Rn}(h:vld (r::L)):mem (r::L) r.y r.x0=true:=by
 rw[mem_cons,(af7 _ _ _).2 ⟨rfl,xp _,(ae2.1 h).1.2⟩];rfl
theorem br3{r:Rn}{L:List Rn}(h:vld (r::L))(y x:Int):mem L y x=(mem (r::L) y x&&!inR r y x):=by
 rw[mem_cons];by_cases hr:inR r y x=true
 ·rw[hr];have:mem L y x≠true:=λhm=>by
   have:=beyond h hm
   have:=(af7 _ _ _).1 hr
   omega
  simpa using this
 ·rw[uj]at hr;rw[hr];simp
theorem cr0{r:Rn}{L:List Rn}(h:vld (r::L)):¬ mem (r::L) r.y r.x1=true:=by
 rw[mem_cons,xg];rintro(hm|hm)
 ·have:=(af7 _ _ _).1 hm;omega
 ·have:=beyond h hm;omega
theorem uniq:∀(L M:List Rn),vld L->vld M->(∀y x,mem L y x=mem M y x)->L=M:=by
 intro L;induction L with
 |nil=>
  intro M _ hM h;cases M with
  |nil=>rfl
  |cons s M=>
   have:=aC9 hM
   rw[<-h]at this;cases this
 |cons r L ih=>
  intro M hL hM h;cases M with
  |nil=>
   have:=aC9 hL
   rw[h]at this;cases this
  |cons s M=>
   have h1:=aG5 hM (by rw[<-h];exact aC9 hL);have h2:=aG5 hL (by rw[h];exact aC9 hM);have ey:r.y=s.y:=by omega
   have ex:r.x0=s.x0:=by omega
   have o1:=(ae2.1 hL).1.2;have o2:=(ae2.1 hM).1.2;have e1:r.x1=s.x1:=by
    rcases Int.lt_trichotomy r.x1 s.x1 with hlt|he|hlt
    ·exact absurd (by rw[h,ey,mem_cons,(af7 _ _ _).2 ⟨rfl,by omega,hlt⟩];rfl) (cr0 hL)
    ·exact he
    ·exact absurd (by rw[<-h,<-ey,mem_cons,(af7 _ _ _).2 ⟨rfl,by omega,hlt⟩];rfl) (cr0 hM)
   have e:r=s:=by cases r;cases s;simp only at ey ex e1;subst ey ex e1;rfl
   subst e;rw[ih M (ae2.1 hL).2.2 (ae2.1 hM).2.2 (λy x=>by rw[br3 hL,br3 hM,h])]
def be8(χ:Int->Int->Bool):List Rn:=open Classical in if h:∃L,vld L/\∀y x,mem L y x=χ y x then h.choose else []
theorem aP6(χ:Int->Int->Bool):vld (be8 χ):=by
 unfold be8;split
 ·next h=>exact h.choose_spec.1
 ·exact am3
theorem aM3{χ:Int->Int->Bool}{L:List Rn}(h1:vld L)(h2:∀y x,mem L y x=χ y x):be8 χ=L:=by
 unfold be8;have h:∃L,vld L/\∀y x,mem L y x=χ y x:=⟨L,h1,h2⟩
 rw[dif_pos h];exact uniq _ _ h.choose_spec.1 h1 (λy x=>by rw[h.choose_spec.2,h2])
def key(r:Rn):Int:=r.y*16385+r.x0
theorem bU6:∀(L:List Rn)(r:Rn),vld (r::L)->((r::L).length:Int)<=134226112-key r:=by
 intro L;induction L with
 |nil=>
  intro r h;obtain⟨⟨⟨h1,h2⟩,⟨h3,h4⟩,h5,h6⟩,h7⟩:=(ae2.1 h).1;show(1:Int)<=_;unfold key;omega
 |cons s L ih=>
  intro r h;have h0:=ih s (ae2.1 h).2.2;have hl:=(ae2.1 h).2.1 s (lP ..);obtain⟨⟨⟨h1,h2⟩,⟨h3,h4⟩,h5,h6⟩,h7⟩:=(ae2.1 h).1;obtain⟨⟨⟨k1,k2⟩,⟨k3,k4⟩,k5,k6⟩,k7⟩:=(ae2.1 (ae2.1 h).2.2).1;have e:((r::s::L).length:Int)=((s::L).length:Int)+1:=by simp
  rw[e];unfold key ltR at *
  omega
theorem ao3{L:List Rn}(h:vld L):L.length<=300000000:=by
 cases L with
 |nil=>exact lB _
 |cons r L=>
  have:=bU6 L r h
  obtain⟨⟨⟨h1,h2⟩,⟨h3,h4⟩,h5,h6⟩,h7⟩:=(ae2.1 h).1;unfold key at this;omega
theorem aj8(L:List Rn):L=[]\/∃P s,L=P++[s]:=by
 rcases List.eq_nil_or_concat L with h|⟨P,s,h⟩
 ·exact .inl h
 ·exact .inr ⟨P,s,by rw[h,List.concat_eq_append]⟩
theorem ax2(P:List Rn)(s r:Rn):addR (P++[s]) r=if r.x0<r.x1 then(if s.y=r.y/\r.x0<=s.x1 then P++[⟨s.y,s.x0,if r.x1>s.x1 then r.x1 else s.x1⟩]else P++[s]++[r])else P++[s]:=by
 unfold addR;simp
theorem add_nil(r:Rn):addR [] r=if r.x0<r.x1 then [r]else []:=rfl
def aft(L:List Rn)(y x:Int):Prop:=∀s,L.getLast?=some s->s.y<y\/(s.y=y/\s.x0<=x)
def aftE(L:List Rn)(y x:Int):Prop:=∀s,L.getLast?=some s->s.y<y\/(s.y=y/\s.x1<=x)
theorem aE3{P:List Rn}{s:Rn}{y x:Int}:aft (P++[s]) y x<->s.y<y\/(s.y=y/\s.x0<=x):=by
 unfold aft;simp
theorem aq6{P:List Rn}{s:Rn}{y x:Int}:aftE (P++[s]) y x<->s.y<y\/(s.y=y/\s.x1<=x):=by
 unfold aftE;simp
theorem bT6{y x:Int}:aft [] y x:=λs h=>by cases h
theorem b17{y x:Int}:aftE [] y x:=λs h=>by cases h
theorem b83{L:List Rn}(hL:vld L){y x:Int}(h:aftE L y x):aft L y x:=by
 rcases aj8 L with rfl|⟨P,s,rfl⟩
 ·exact bT6
 ·rw[aq6]at h;rw[aE3];have:=(av7.1 hL).2.1.2
  omega
theorem bT7{L:List Rn}(hL:vld L){r:Rn}(hr:r.x0<r.x1->okR r)(h:aft L r.y r.x0):
  vld (addR L r)/\(∀y x,mem (addR L r) y x=(mem L y x||inR r y x))/\(∀y x,(r.y<y\/(r.y=y/\r.x0<=x))->aft (addR L r) y x):=by
 by_cases hx:r.x0<r.x1
 ·have hr:=hr hx;rcases aj8 L with rfl|⟨P,s,rfl⟩
  ·rw[add_nil,ll hx];refine⟨ae2.2 ⟨hr,λ_ h=>(xi h).elim,am3⟩,λy x=>?_,λy x hy=>?_⟩
   ·rw[ar8];rfl
   ·exact(aE3 (P:=[])).2 hy
  ·rw[ax2,ll hx];obtain⟨hP,hs,hPs⟩:=av7.1 hL;rw[aE3]at h;obtain⟨⟨⟨h1,h2⟩,⟨h3,h4⟩,h5,h6⟩,h7⟩:=hr;obtain⟨⟨⟨k1,k2⟩,⟨k3,k4⟩,k5,k6⟩,k7⟩:=hs;by_cases hm:s.y=r.y/\r.x0<=s.x1
   ·rw[ll hm];refine⟨av7.2 ⟨hP,⟨⟨⟨k1,k2⟩,⟨k3,k4⟩,?_⟩,?_⟩,λp hp=>hPs p hp⟩,λy x=>?_,λy x hy=>?_⟩
    ·show -8192<=(if r.x1>s.x1 then r.x1 else s.x1)/\(if r.x1>s.x1 then r.x1 else s.x1)<=8192;split<;>omega
    ·show s.x0<(if r.x1>s.x1 then r.x1 else s.x1);split<;>omega
    ·rw[az4,az4,ar8,ar8,Bool.or_assoc];congr 1;rw[uo,xg,af7,af7,af7];show s.y=y/\s.x0<=x/\x<(if r.x1>s.x1 then r.x1 else s.x1)<->_;split<;>omega
    ·rw[aE3];show s.y<y\/(s.y=y/\s.x0<=x);omega
   ·rw[lu hm];refine⟨av7.2 ⟨hL,⟨⟨⟨h1,h2⟩,⟨h3,h4⟩,h5,h6⟩,h7⟩,λp hp=>?_⟩,λy x=>?_,λy x hy=>aE3.2 hy⟩
    ·have hsr:ltR s r:=by unfold ltR;omega
     rcases ug.1 hp with hp|hp
     ·have:=hPs p hp
      unfold ltR at *
      omega
     ·rw[xy.1 hp];exact hsr
    ·rw[az4 _ [r],ar8]
 ·have e:addR L r=L:=lu hx;rw[e];refine⟨hL,λy x=>?_,λy x hy s hs=>?_⟩
  ·have:inR r y x=false:=by
    rw[<-uj,af7];omega
   rw[this,lO]
  ·have:=h s hs
   omega
theorem bT9{L:List Rn}{r:Rn}(h:aftE L r.y r.x0)(hx:r.x0<=r.x1):aftE (addR L r) r.y r.x1:=by
 by_cases hx':r.x0<r.x1
 ·rcases aj8 L with rfl|⟨P,s,rfl⟩
  ·rw[add_nil,ll hx'];exact(aq6 (P:=[])).2 (.inr ⟨rfl,xp _⟩)
  ·rw[ax2,ll hx'];rw[aq6]at h;split
   ·next hm=>
    rw[aq6];show s.y<r.y\/(s.y=r.y/\(if r.x1>s.x1 then r.x1 else s.x1)<=r.x1);split<;>omega
   ·exact aq6.2 (.inr ⟨rfl,xp _⟩)
 ·rw[show addR L r=L from lu hx'];intro s hs;have:=h s hs
  omega
end Rgl
namespace Rgm
open Rga Rgl
def eY(f:Nat->Rn)(k:Nat):Int:=(f (k/2)).y
abbrev le2(y x y' x':Int):Prop:=y<y'\/(y=y'/\x<=x')
abbrev lt2(y x y' x':Int):Prop:=y<y'\/(y=y'/\x<x')
theorem bg0{a b c d e f:Int}(h:le2 a b c d)(h':le2 c d e f):le2 a b e f:=by omega
theorem b64{a b c d:Int}(h:lt2 a b c d):le2 a b c d:=by omega
def odd(i:Nat):Bool:=decide (i%2=1)
theorem bn0{g:Rg}(h:vld g.L){i:Nat}(hi:i<g.n):okR (g.f i):=h.1 _ (lX.2 ⟨i,lG.2 hi,rfl⟩)
theorem bY9{g:Rg}(h:vld g.L){i j:Nat}(hij:i<j)(hj:j<g.n):ltR (g.f i) (g.f j):=by
 have:=uu.1 h.2 i j (by rw[Rg.len];omega) (by rw[Rg.len];exact hj) hij
 simpa[Rg.L]using this
theorem a47{g:Rg}{y x:Int}:mem g.L y x=true<->∃i,i<g.n/\(g.f i).y=y/\(g.f i).x0<=x/\x<(g.f i).x1:=by
 rw[mem_iff];unfold Rg.L;constructor
 ·rintro⟨r,hr,h⟩;obtain⟨i,hi,rfl⟩:=lX.1 hr;exact⟨i,lG.1 hi,h⟩
 ·rintro⟨i,hi,h⟩;exact⟨_,lX.2 ⟨i,lG.2 hi,rfl⟩,h⟩
theorem a98{g:Rg}(h:vld g.L){k:Nat}(hk:k<2*g.n):(-8192<=eY g.f k/\eY g.f k<8192)/\ -8192<=eX g.f k/\eX g.f k<=8192:=by
 obtain⟨⟨⟨h1,h2⟩,⟨h3,h4⟩,h5,h6⟩,h7⟩:=bn0 h (show k/2<g.n by omega);unfold eY eX;split<;>omega
theorem bp3{g:Rg}(h:vld g.L){k l:Nat}(hkl:k<l)(hl:l<2*g.n):lt2 (eY g.f k) (eX g.f k) (eY g.f l) (eX g.f l):=by
 have ok:=(bn0 h (show k/2<g.n by omega)).2;have ol:=(bn0 h (show l/2<g.n by omega)).2;unfold eY eX;by_cases e:k/2=l/2
 ·rw[ll (by omega),lu (by omega),<-e];exact .inr ⟨rfl,ok⟩
 ·have hlt:=bY9 h (show k/2<l/2 by omega) (by omega);unfold ltR at hlt;split<;>split<;>omega
theorem bQ8{g:Rg}(h:vld g.L){k l:Nat}(hkl:k<=l)(hl:l<2*g.n):le2 (eY g.f k) (eX g.f k) (eY g.f l) (eX g.f l):=by
 rcases Nat.lt_or_eq_of_le hkl with hlt|rfl
 ·have:=bp3 h hlt hl
  omega
 ·exact .inr ⟨rfl,xp _⟩
theorem aX1{g:Rg}(h:vld g.L){i:Nat}(hi:i<=2*g.n){y x:Int}(h1:0<i->le2 (eY g.f (i-1)) (eX g.f (i-1)) y x)(h2:i<2*g.n->lt2 y x (eY g.f i) (eX g.f i)):mem g.L y x=odd i:=by
 unfold odd;by_cases ho:i%2=1
 ·rw[lg ho,a47];refine⟨i/2,by omega,?_⟩;have a1:=h1 (by omega);have a2:=h2 (by omega);unfold eY eX at a1 a2;rw[ll (show(i-1)%2=0 by omega),show(i-1)/2=i/2 by omega]at a1;rw[lu (show¬ i%2=0 by omega)]at a2;omega
 ·rw[lf ho,<-uj,a47];rintro⟨p,hp,e,a,b⟩;by_cases hpi:2*p<i
  ·have hle:=bQ8 h (show 2*p+1<=i-1 by omega) (by omega);have a1:=h1 (by omega);have e1:eY g.f (2*p+1)=(g.f p).y:=by unfold eY;rw[show(2*p+1)/2=p by omega]
   have e2:eX g.f (2*p+1)=(g.f p).x1:=by unfold eX;rw[lu (by omega),show(2*p+1)/2=p by omega]
   rw[e1,e2]at hle;omega
  ·have hle:=bQ8 h (show i<=2*p by omega) (by omega);have a2:=h2 (by omega);have e1:eY g.f (2*p)=(g.f p).y:=by unfold eY;rw[show 2*p/2=p by omega]
   have e2:eX g.f (2*p)=(g.f p).x0:=by unfold eX;rw[ll (by omega),show 2*p/2=p by omega]
   rw[e1,e2]at hle;omega
theorem bt0(f:Nat->Rn){i:Nat}(ho:i%2=1):eY f (i-1)=eY f i:=by
 unfold eY;rw[show(i-1)/2=i/2 by omega]
theorem cl3{a b:Rg}(ha:vld a.L)(hb:vld b.L){K:Bool->Bool->Bool}(hK:K false false=false){i j:Nat}(hi:i<=2*a.n)(hj:j<=2*b.n){fy fx ty tx:Int}
  (c1:0<i->le2 (eY a.f (i-1)) (eX a.f (i-1)) fy fx) (c2:0<j->le2 (eY b.f (j-1)) (eX b.f (j-1)) fy fx)
  (u1:i<2*a.n->le2 ty tx (eY a.f i) (eX a.f i)) (u2:j<2*b.n->le2 ty tx (eY b.f j) (eX b.f j))
  (hft:0<i+j->le2 fy fx ty tx) (fok:(-8192<=fy/\fy<8192)/\ -8192<=fx/\fx<=8192) (tok:(-8192<=ty/\ty<8192)/\ -8192<=tx/\tx<=8192)
  {L:List Rn}(hL:vld L) (hE:0<i+j->aftE L fy fx) (h0:i+j=0->L=[])
  (hm:0<i+j->∀y x,mem L y x=(decide (lt2 y x fy fx)&&K (mem a.L y x) (mem b.L y x)))
  {L':List Rn}(hL':L'=if K (odd i) (odd j)then addR L ⟨fy,fx,tx⟩else L):
  vld L'/\aftE L' ty tx/\∀y x,mem L' y x=(decide (lt2 y x ty tx)&&K (mem a.L y x) (mem b.L y x)):=by
 have par:∀y x,(0<i+j->le2 fy fx y x)->lt2 y x ty tx->K (mem a.L y x) (mem b.L y x)=K (odd i) (odd j):=λy x h1 h2=>by
  rw[aX1 ha hi (λh=>by have:=c1 h;have:=h1 (by omega);omega) (λh=>by have:=u1 h;omega),aX1 hb hj (λh=>by have:=c2 h;have:=h1 (by omega);omega) (λh=>by have:=u2 h;omega)]
 by_cases hk:K (odd i) (odd j)=true
 ·rw[ll hk]at hL';have hpos:0<i+j:=by
   rcases xB (i+j)with h|h
   ·rw[show i=0 by omega,show j=0 by omega]at hk;exact absurd (hk.symm.trans hK) (by decide)
   ·exact h
  have hy:fy=ty:=by
   have hft:=hft hpos;by_cases oi:i%2=1
   ·have:=bt0 a.f oi
    have:=c1 (by omega)
    have:=u1 (by omega)
    omega
   ·by_cases oj:j%2=1
    ·have:=bt0 b.f oj
     have:=c2 (by omega)
     have:=u2 (by omega)
     omega
    ·rw[show odd i=false from lf oi,show odd j=false from lf oj]at hk;exact absurd (hk.symm.trans hK) (by decide)
  have hft:=hft hpos;have hE:=hE hpos;have hm:=hm hpos;subst hy;obtain⟨v,m,_⟩:=bT7 hL (r:=⟨fy,fx,tx⟩) (λh=>⟨⟨fok.1,⟨fok.2.1,by have:fx<tx:=h;show fx<=8192;omega⟩,tok.2⟩,h⟩) (b83 hL hE);have en:=bT9 (r:=⟨fy,fx,tx⟩) hE (by show fx<=tx;omega);rw[hL'];refine⟨v,en,λy x=>?_⟩;rw[m,hm];have hr:inR ⟨fy,fx,tx⟩ y x=decide (fy=y/\fx<=x/\x<tx):=rfl;rw[hr];by_cases d1:lt2 y x fy fx
  ·rw[lg d1,lg (show lt2 y x fy tx by omega),lf (by omega),lO]
  ·rw[lf d1,Bool.false_and,laq];by_cases d2:lt2 y x fy tx
   ·rw[lg d2,lg (by omega),par y x (λ_=>by omega) d2,hk];rfl
   ·rw[lf d2,lf (by omega)];rfl
 ·rw[lu hk]at hL';subst hL';rw[uj]at hk;rcases xB (i+j)with h|h
  ·rw[h0 h];refine⟨am3,b17,λy x=>?_⟩;by_cases d:lt2 y x ty tx
   ·rw[par y x (λh'=>by omega) d,hk,lak];rfl
   ·rw[lf d];rfl
  ·have hft:=hft h;refine⟨hL,λs hs=>by have:=hE h s hs;omega,λy x=>?_⟩;rw[hm h];by_cases d1:lt2 y x fy fx
   ·rw[lg d1,lg (show lt2 y x ty tx by omega)]
   ·rw[lf d1,Bool.false_and];by_cases d2:lt2 y x ty tx
    ·rw[par y x (λ_=>by omega) d2,hk,lak]
    ·rw[lf d2,Bool.false_and]
theorem swept{a b:Rg}(ha:vld a.L)(hb:vld b.L){K:Bool->Bool->Bool}(hK:K false false=false){fy fx:Int}
  (c1:0<2*a.n->le2 (eY a.f (2*a.n-1)) (eX a.f (2*a.n-1)) fy fx) (c2:0<2*b.n->le2 (eY b.f (2*b.n-1)) (eX b.f (2*b.n-1)) fy fx)
  {L:List Rn}(hL:vld L) (h0:2*a.n+2*b.n=0->L=[])
  (hm:0<2*a.n+2*b.n->∀y x,mem L y x=(decide (lt2 y x fy fx)&&K (mem a.L y x) (mem b.L y x))):
  be8 (λy x=>K (mem a.L y x) (mem b.L y x))=L:=by
 refine aM3 hL (λy x=>?_);have e0:∀n:Nat,odd (2*n)=false:=λn=>lf (by omega)
 have par:(0<2*a.n+2*b.n->le2 fy fx y x)->K (mem a.L y x) (mem b.L y x)=false:=λh1=>by
  rw[aX1 ha (lh _) (λh=>by have:=c1 h;have:=h1 (by omega);omega) (λh=>absurd h (xt _)),aX1 hb (lh _) (λh=>by have:=c2 h;have:=h1 (by omega);omega) (λh=>absurd h (xt _)),e0,e0,hK]
 rcases xB (2*a.n+2*b.n)with h|h
 ·rw[h0 h,par (λh'=>by omega)];rfl
 ·rw[hm h];by_cases d:lt2 y x fy fx
  ·rw[lg d,lap]
  ·rw[lf d,par (λ_=>by omega)];rfl
theorem cp1(y x y' x':Int):orI (y-y') (x-x')<=0<->le2 y x y' x':=by
 unfold orI;split<;>omega
structure CbG where
 a:Rg
 b:Rg
structure CsG where
 i:Nat
 j:Nat
 from':Eg
 L:List Rn
structure CbP(g:CbG)(K:Bool->Bool->Bool)(s:CsG):Prop where
 hi:s.i<=2*g.a.n
 hj:s.j<=2*g.b.n
 c1:0<s.i->le2 (eY g.a.f (s.i-1)) (eX g.a.f (s.i-1)) s.from'.y s.from'.x
 c2:0<s.j->le2 (eY g.b.f (s.j-1)) (eX g.b.f (s.j-1)) s.from'.y s.from'.x
 u1:0<s.i+s.j->s.i<2*g.a.n->le2 s.from'.y s.from'.x (eY g.a.f s.i) (eX g.a.f s.i)
 u2:0<s.i+s.j->s.j<2*g.b.n->le2 s.from'.y s.from'.x (eY g.b.f s.j) (eX g.b.f s.j)
 fok:(-8192<=s.from'.y/\s.from'.y<8192)/\ -8192<=s.from'.x/\s.from'.x<=8192
 hL:vld s.L
 hE:0<s.i+s.j->aftE s.L s.from'.y s.from'.x
 h0:s.i+s.j=0->s.L=[]
 hm:0<s.i+s.j->∀y x,mem s.L y x=(decide (lt2 y x s.from'.y s.from'.x)&&K (mem g.a.L y x) (mem g.b.L y x))
theorem bw4(g:CbG)(K:Bool->Bool->Bool):CbP g K ⟨0,0,⟨0,0,0⟩,[]⟩ where
 hi:=lB _
 hj:=lB _
 c1:=λh=>absurd h (xt _)
 c2:=λh=>absurd h (xt _)
 u1:=λh=>absurd h (xt _)
 u2:=λh=>absurd h (xt _)
 fok:=by decide
 hL:=am3
 hE:=λh=>absurd h (xt _)
 h0:=λ_=>rfl
 hm:=λh=>absurd h (xt _)
def nxL(K:Bool->Bool->Bool)(s:CsG)(tx:Int):List Rn:=if K (odd s.i) (odd s.j)then addR s.L ⟨s.from'.y,s.from'.x,tx⟩else s.L
theorem bw3{g:CbG}{K:Bool->Bool->Bool}{s:CsG}(ha:vld g.a.L)(hb:vld g.b.L)(hK:K false false=false)(h:CbP g K s)(hi:s.i<2*g.a.n)(hle:s.j<2*g.b.n->le2 (eY g.a.f s.i) (eX g.a.f s.i) (eY g.b.f s.j) (eX g.b.f s.j)):
  CbP g K ⟨s.i+1,s.j,eAt g.a.f 0 s.i,nxL K s (eX g.a.f s.i)⟩:=by
 have ho:=a98 ha hi;obtain⟨v,e,m⟩:=cl3 ha hb hK h.hi h.hj h.c1 h.c2 (λ_=> .inr ⟨rfl,xp _⟩) hle (λh'=>h.u1 h' hi) h.fok ho h.hL h.hE h.h0 h.hm (L':=nxL K s (eX g.a.f s.i)) rfl;exact{hi:=hi,hj:=h.hj,c1:=λ_=> .inr ⟨rfl,xp _⟩,c2:=λh'=>bg0 (h.c2 h') (h.u1 (by have h':0<s.j:=h';omega) hi),u1:=λ_ h'=>b64 (bp3 ha (xD s.i) h'),u2:=λ_ h'=>hle h',fok:=ho,hL:=v,hE:=λ_=>e,h0:=λh'=>absurd (show s.i+1+s.j=0 from h') (by omega),hm:=λ_=>m}
theorem bw2{g:CbG}{K:Bool->Bool->Bool}{s:CsG}(ha:vld g.a.L)(hb:vld g.b.L)(hK:K false false=false)(h:CbP g K s)(hj:s.j<2*g.b.n)(hle:s.i<2*g.a.n->le2 (eY g.b.f s.j) (eX g.b.f s.j) (eY g.a.f s.i) (eX g.a.f s.i)):
  CbP g K ⟨s.i,s.j+1,eAt g.b.f 1 s.j,nxL K s (eX g.b.f s.j)⟩:=by
 have ho:=a98 hb hj;obtain⟨v,e,m⟩:=cl3 ha hb hK h.hi h.hj h.c1 h.c2 hle (λ_=> .inr ⟨rfl,xp _⟩) (λh'=>h.u2 h' hj) h.fok ho h.hL h.hE h.h0 h.hm (L':=nxL K s (eX g.b.f s.j)) rfl;exact{hi:=h.hi,hj:=hj,c2:=λ_=> .inr ⟨rfl,xp _⟩,c1:=λh'=>bg0 (h.c1 h') (h.u2 (by have h':0<s.i:=h';omega) hj),u2:=λ_ h'=>b64 (bp3 hb (xD s.j) h'),u1:=λ_ h'=>hle h',fok:=ho,hL:=v,hE:=λ_=>e,h0:=λh'=>absurd (show s.i+(s.j+1)=0 from h') (by omega),hm:=λ_=>m}
theorem b77{g:CbG}{K:Bool->Bool->Bool}{s:CsG}(ha:vld g.a.L)(hb:vld g.b.L)(hK:K false false=false)(h:CbP g K s)(hi:s.i=2*g.a.n)(hj:s.j=2*g.b.n):
  be8 (λy x=>K (mem g.a.L y x) (mem g.b.L y x))=s.L:=by
 have c1:=h.c1;have c2:=h.c2;have h0:=h.h0;have hm:=h.hm;rw[hi]at c1 h0 hm;rw[hj]at c2 h0 hm;exact swept ha hb hK c1 c2 h.hL h0 hm
end Rgm
namespace Rgn
open Rga Rgl Rgm
def sumR(f:Int->Int)(lo:Int):Nat->Int
 |0=>0
 |n+1=>sumR f lo n+f (lo+n)
def b2i(b:Bool):Int:=if b then 1 else 0
def cnt(χ:Int->Int->Bool):Int:=sumR (λy=>sumR (λx=>b2i (χ y x)) (-8192) 16384) (-8192) 16384
def Lf(f:Nat->Rn)(n:Nat):List Rn:=(List.range n).map f
theorem av5(f:Nat->Rn)(n:Nat):Lf f (n+1)=Lf f n++[f n]:=by
 unfold Lf;rw[List.range_succ,List.map_append];rfl
theorem aq7(f:Nat->Rn)(n:Nat):(Lf f n).length=n:=by simp[Lf]
theorem aK4(f:Nat->Rn){n i:Nat}(h:i<n):rI (Lf f n) i=f i:=Rg.rI (g:=⟨n,f⟩) h
theorem bx7{f g:Nat->Rn}{n:Nat}(h:∀i<n,f i=g i):Lf f n=Lf g n:=uR (λi hi=>h i (lG.1 hi))
theorem b22(L:List Rn):Lf (rI L) L.length=L:=Rg.L_of L
theorem cj3{L:List Rn}{r:Rn}(hr:r.x0<r.x1)(h:∀s,L.getLast?=some s->ltR s r):addR L r=L++[r]:=by
 rcases aj8 L with rfl|⟨P,s,rfl⟩
 ·rw[add_nil,ll hr];rfl
 ·have hs:=h s (by simp);unfold ltR at hs;rw[ax2,ll hr,lu (by omega)]
theorem cj7{f:Nat->Rn}{n:Nat}{s:Rn}(h:(Lf f n).getLast?=some s):0<n/\s=f (n-1):=by
 cases n with
 |zero=>cases h
 |succ n=>
  rw[av5]at h;simp at h;exact⟨xF n,h.symm⟩
theorem bx6{f:Nat->Rn}{n:Nat}(hr:(f n).x0<(f n).x1)(h:0<n->ltR (f (n-1)) (f n)):addR (Lf f n) (f n)=Lf f (n+1):=by
 rw[av5];refine cj3 hr (λs hs=>?_);obtain⟨h0,rfl⟩:=cj7 hs;exact h h0
def shR(dx dy:Int)(r:Rn):Rn:=⟨r.y+dy,r.x0+dx,r.x1+dx⟩
def shL(dx dy:Int)(L:List Rn):List Rn:=L.map (shR dx dy)
theorem bJ5{dx dy:Int}{L:List Rn}(h:vld L)(hb:∀r∈L,okR (shR dx dy r)):vld (shL dx dy L):=by
 refine⟨λr hr=>?_,?_⟩
 ·obtain⟨s,hs,rfl⟩:=lX.1 hr;exact hb s hs
 ·refine List.pairwise_map.2 (h.2.imp (λ{r s} hrs=>?_));unfold ltR at *
  show r.y+dy<s.y+dy\/(r.y+dy=s.y+dy/\r.x1+dx<s.x0+dx);omega
def le0(r s:Rn):Prop:=r.y<s.y\/(r.y=s.y/\r.x0<=s.x0)
structure JoP(f:Nat->Rn)(n i:Nat)(L:List Rn):Prop where
 hi:i<=n
 hL:vld L
 hm:∀y x,mem L y x=mem (Lf f i) y x
 ha:∀k,i<=k->k<n->aft L (f k).y (f k).x0
theorem a61(f:Nat->Rn)(n:Nat):JoP f n 0 []:=⟨lB _,am3,λ_ _=>rfl,λ_ _ _=>bT6⟩
theorem bn6{f:Nat->Rn}{n i:Nat}{L:List Rn}(ok:∀k<n,okR (f k))(srt:∀j k,j<k->k<n->le0 (f j) (f k))(h:JoP f n i L)(hi:i<n):JoP f n (i+1) (addR L (f i)):=by
 obtain⟨v,m,a⟩:=bT7 h.hL (λ_=>ok i hi) (h.ha i (lh _) hi);refine⟨hi,v,λy x=>?_,λk hk hkn=>a _ _ ?_⟩
 ·rw[m,h.hm,av5,az4,ar8]
 ·have:=srt i k hk hkn
  unfold le0 at this;exact this
theorem mem_congr{L M:List Rn}(h:∀r,r∈L<->r∈M)(y x:Int):mem L y x=mem M y x:=by
 rw[uo,mem_iff,mem_iff];exact⟨λ⟨r,a,b⟩=>⟨r,(h r).1 a,b⟩,λ⟨r,a,b⟩=>⟨r,(h r).2 a,b⟩⟩
end Rgn
namespace Rge
open Go.Shelf Go.RowKit Go.Lib Go.Sort Num Rga
theorem cd6(x y:Int)(b:Nat)(W:World)(h0:W.cell? ⟨b,0,none⟩=some (.int .i64 x))(h1:W.cell? ⟨b,1,none⟩=some (.int .i64 y)):
  Calls Tw.prog 53 #[.slice (some ⟨b,0,none⟩) 2 2] W λe w'=>e=.returned (.int .i64 (orI x y))/\w'=W:=by
 by_cases hx:x=0
 ·have e:orI x y=y:=ll hx;rw[e];clear e;subst hx;by_cases hy:y=0
  ·subst hy;go_enter Tw.func53,Tw.ntmps53
   go_wp2
   refine wp_loop_rounds 3 ?_;rw[rounds_succ];go_wp2
   rw[rounds_succ];go_wp2
   rw[rounds_succ];go_wp2
   go_ret
   exact⟨rfl,rfl⟩
  ·go_enter Tw.func53,Tw.ntmps53
   go_wp2
   refine wp_loop_rounds 3 ?_;rw[rounds_succ];go_wp2
   rw[rounds_succ];go_wp2
   go_ret
   exact⟨rfl,rfl⟩
 ·have e:orI x y=x:=lu hx;rw[e];clear e;go_enter Tw.func53,Tw.ntmps53
  go_wp2
  refine wp_loop_rounds 3 ?_;rw[rounds_succ];go_wp2
  go_ret
  exact⟨rfl,rfl⟩
theorem aE1{X:World}{vs:Array Value}{T n i:Nat}{v:Value}(hn:X.heap.size=n)(hv:vs[i]?=some v):(X.alloc (.cells vs T)).cell? ⟨n,i,none⟩=some v:=by
 subst hn;simp[hv]
theorem ba0(a0 a1 a2 b0 b1 b2:Int)(W:World)(h0 : -9223372036854775808<=a0-b0/\a0-b0<=9223372036854775807)(h1 : -9223372036854775808<=a1-b1/\a1-b1<=9223372036854775807):
  Calls Tw.prog 59 #[.agg #[.int .i64 a0,.int .i64 a1,.int .i64 a2],.agg #[.int .i64 b0,.int .i64 b1,.int .i64 b2]] W λe w'=>e=.returned (.int .i64 (orI (a0-b0) (a1-b1)))/\∃q os',w'=grow (W.drewN q) os':=by
 have hcon:=λb W' h0 h1=>cd6 (a0-b0) (a1-b1) b W' h0 h1
 generalize orI (a0-b0) (a1-b1)=r at hcon⊢;go_enter Tw.func59,Tw.ntmps59
 go_wp2_with (go_at_call 53;refine(hcon _ _ (aE1 (by simp) rfl) (aE1 (by simp) rfl)).mono ?_;rintro e w' ⟨rfl,rfl⟩)
 go_ret
 exact⟨rfl,0,_,by rw[alloc_eq_grow,alloc_eq_grow,alloc_eq_grow,grow_grow,grow_grow];rfl⟩
end Rge
namespace Rgb
open Go.RowKit Sx Num Aff Con Rga Rgl Rgm
def eS(g:Rg)(w:Int)(i:Nat):SV:= .sl (2*g.n-i) 3 (λk=>lst [.int .i64 (g.f ((k+i)/2)).y,.int .i64 (eX g.f (k+i)),.int .i64 w])
def ba3(g:CbG)(K:Bool->Bool->Bool)(F:Nat):Inv:=⟨CsG,CbP g K,λs=>⟨[(2,.fn F 0 (lst [])),(7,eS g.a 0 s.i),(8,eS g.b 1 s.j),(9,.own 0 0),(10,.own 1 0),(11,.own 3 0),(12,.bool (K (odd s.i) (odd s.j)))],
  [.cells 2 (lst [.bool (odd s.i),.bool (odd s.j)]) 111,.cells 1 (lst [.osl 2 0]) 67,.row 0 s.L.length 3 (λi=>lst (rnL (rI s.L i))) 58,.cells 3 (lst (egL s.from')) 113]⟩,λs=>2*g.a.n+2*g.b.n-s.i-s.j⟩
def al9(K:Bool->Bool->Bool)(g:CbG):List Rn:=be8 (λy x=>K (mem g.a.L y x) (mem g.b.L y x))
theorem aM4(i:Nat):(!odd i)=odd (i+1):=by
 unfold odd;by_cases h:i%2=1
 ·rw[lg h,lf (by omega)];rfl
 ·rw[lf h,lg (by omega)];rfl
theorem addL(L:List Rn)(r:Rn):AdG.L ⟨L.length,rI L,r⟩=addR L r:=by
 show addR (Rg.L ⟨L.length,rI L⟩) r=addR L r;rw[Rg.L_of]
theorem tA{g:CbG}{K:Bool->Bool->Bool}{F:Nat}{s:CsG}(ha:vld g.a.L)(hb:vld g.b.L)(hK:K false false=false)(h:CbP g K s)(hi:s.i<2*g.a.n)(hle:s.j<2*g.b.n->le2 (eY g.a.f s.i) (eX g.a.f s.i) (eY g.b.f s.j) (eX g.b.f s.j)){M:List Rn}(hM:M=nxL K s (eX g.a.f s.i)):
  ∃g',(ba3 g K F).pre g'/\((((Int.ofNat (2*g.a.n-s.i)-Int.ofNat 1).toNat=2*g.a.n-g'.i/\∀i,i<2*g.a.n-g'.i->(g.a.f (((Int.ofNat 1).toNat+i+s.i)/2)).y=(g.a.f ((i+g'.i)/2)).y/\eX g.a.f ((Int.ofNat 1).toNat+i+s.i)=eX g.a.f (i+g'.i))/\
   (2*g.b.n-s.j=2*g.b.n-g'.j/\∀i,i<2*g.b.n-g'.j->(g.b.f ((i+s.j)/2)).y=(g.b.f ((i+g'.j)/2)).y/\eX g.b.f (i+s.j)=eX g.b.f (i+g'.j))/\K (!odd s.i) (odd s.j)=K (odd g'.i) (odd g'.j))/\
   ((!odd s.i)=odd g'.i/\odd s.j=odd g'.j)/\(M.length=g'.L.length/\∀i<g'.L.length,((rI M i).y=(rI g'.L i).y/\(rI M i).x0=(rI g'.L i).x0)/\(rI M i).x1=(rI g'.L i).x1)/\
   ((g.a.f ((Int.toNat 0+s.i)/2)).y=g'.from'.y/\eX g.a.f (Int.toNat 0+s.i)=g'.from'.x)/\0=g'.from'.who)/\(ba3 g K F).meas g'<(ba3 g K F).meas s:=by
 have z1:(Int.ofNat (2*g.a.n-s.i)-Int.ofNat 1).toNat=2*g.a.n-(s.i+1):=by
  show(((2*g.a.n-s.i:Nat):Int)-((1:Nat):Int)).toNat=_;omega
 have z2:∀k:Nat,(Int.ofNat 1).toNat+k+s.i=k+(s.i+1):=λk=>by show 1+k+s.i=_;omega
 have z3:Int.toNat 0+s.i=s.i:=lI _;have P:=bw3 ha hb hK h hi hle;have hj:=h.hj;refine⟨⟨s.i+1,s.j,eAt g.a.f 0 s.i,M⟩,by rw[hM];exact P,⟨⟨⟨z1,λk _=>by rw[z2];exact⟨rfl,rfl⟩⟩,⟨rfl,λk _=>⟨rfl,rfl⟩⟩,by rw[aM4]⟩,⟨aM4 _,rfl⟩,⟨rfl,λk _=>⟨⟨rfl,rfl⟩,rfl⟩⟩,by rw[z3];exact⟨rfl,rfl⟩,rfl⟩,?_⟩;show 2*g.a.n+2*g.b.n-(s.i+1)-s.j<2*g.a.n+2*g.b.n-s.i-s.j;omega
theorem tB{g:CbG}{K:Bool->Bool->Bool}{F:Nat}{s:CsG}(ha:vld g.a.L)(hb:vld g.b.L)(hK:K false false=false)(h:CbP g K s)(hj:s.j<2*g.b.n)(hle:s.i<2*g.a.n->le2 (eY g.b.f s.j) (eX g.b.f s.j) (eY g.a.f s.i) (eX g.a.f s.i)){M:List Rn}(hM:M=nxL K s (eX g.b.f s.j)):
  ∃g',(ba3 g K F).pre g'/\(((2*g.a.n-s.i=2*g.a.n-g'.i/\∀i,i<2*g.a.n-g'.i->(g.a.f ((i+s.i)/2)).y=(g.a.f ((i+g'.i)/2)).y/\eX g.a.f (i+s.i)=eX g.a.f (i+g'.i))/\
   ((Int.ofNat (2*g.b.n-s.j)-Int.ofNat 1).toNat=2*g.b.n-g'.j/\∀i,i<2*g.b.n-g'.j->(g.b.f (((Int.ofNat 1).toNat+i+s.j)/2)).y=(g.b.f ((i+g'.j)/2)).y/\eX g.b.f ((Int.ofNat 1).toNat+i+s.j)=eX g.b.f (i+g'.j))/\K (odd s.i) (!odd s.j)=K (odd g'.i) (odd g'.j))/\
   (odd s.i=odd g'.i/\(!odd s.j)=odd g'.j)/\(M.length=g'.L.length/\∀i<g'.L.length,((rI M i).y=(rI g'.L i).y/\(rI M i).x0=(rI g'.L i).x0)/\(rI M i).x1=(rI g'.L i).x1)/\
   ((g.b.f ((Int.toNat 0+s.j)/2)).y=g'.from'.y/\eX g.b.f (Int.toNat 0+s.j)=g'.from'.x)/\1=g'.from'.who)/\(ba3 g K F).meas g'<(ba3 g K F).meas s:=by
 have z1:(Int.ofNat (2*g.b.n-s.j)-Int.ofNat 1).toNat=2*g.b.n-(s.j+1):=by
  show(((2*g.b.n-s.j:Nat):Int)-((1:Nat):Int)).toNat=_;omega
 have z2:∀k:Nat,(Int.ofNat 1).toNat+k+s.j=k+(s.j+1):=λk=>by show 1+k+s.j=_;omega
 have z3:Int.toNat 0+s.j=s.j:=lI _;have P:=bw2 ha hb hK h hj hle;have hi:=h.hi;refine⟨⟨s.i,s.j+1,eAt g.b.f 1 s.j,M⟩,by rw[hM];exact P,⟨⟨⟨rfl,λk _=>⟨rfl,rfl⟩⟩,⟨z1,λk _=>by rw[z2];exact⟨rfl,rfl⟩⟩,by rw[aM4]⟩,⟨rfl,aM4 _⟩,⟨rfl,λk _=>⟨⟨rfl,rfl⟩,rfl⟩⟩,by rw[z3];exact⟨rfl,rfl⟩,rfl⟩,?_⟩;show 2*g.a.n+2*g.b.n-s.i-(s.j+1)<2*g.a.n+2*g.b.n-s.i-s.j;omega
def mn(a b:Bool):Bool:=a&&!b
def cbB(g:CbG)(K:Bool->Bool->Bool)(F:Nat):Prop:=let z38:=(4294967296:Nat);let z35:=(9223372036854775807:Int);let z34:=(-9223372036854775808:Int);let z32:=(1:Nat);let z31:=(True/\True);let z25:=((1:Int)=(1:Int));let z21:=(Aq (F=F)/\True);let z20:=(Int.ofNat z32);let z16:=(ba3 g K F);let z9:=((0:Nat)=(0:Nat));let z6:=(2:Nat);let z5:=(0:Int);let z17:=(z5<=z5/\z5<(↑z6:Int));let z15:=(z5<=(1:Int)/\(1:Int)<(↑z6:Int));let z4:=(IntKind.i64=IntKind.i64);True/\True/\(((Aq (g.a.n=g.a.n)/\∀(i:Nat),i<g.a.n->((True/\Aq z4/\Aq ((g.a.f i).y=(g.a.f i).y))/\Aq z4/\Aq ((g.a.f i).x0=(g.a.f i).x0))/\Aq z4/\Aq ((g.a.f i).x1=(g.a.f i).x1))/\(Aq z4/\Aq (z5=z5))/\True)/\Aq (g.a.n<=z38))/\True/\(((Aq (g.b.n=g.b.n)/\∀(i:Nat),i<g.b.n->((True/\Aq z4/\Aq ((g.b.f i).y=(g.b.f i).y))/\Aq z4/\Aq ((g.b.f i).x0=(g.b.f i).x0))/\Aq z4/\Aq ((g.b.f i).x1=(g.b.f i).x1))/\(Aq z4/\Aq z25)/\True)/\Aq (g.b.n<=z38))/\True/\True/\True/\True/\True/\True/\True/\True/\(∃(g_1:CsG),Aq (z16.pre g_1)/\((Aq ((F:Go.FuncId)=F)/\True)/\(Aq (z6*g.a.n=z6*g.a.n-g_1.i)/\∀(i:Nat),i<z6*g.a.n-g_1.i->((True/\Aq z4/\Aq ((g.a.f (i/z6)).y=(g.a.f ((i+g_1.i)/z6)).y))/\Aq z4/\Aq (eX g.a.f i=eX g.a.f (i+g_1.i)))/\Aq z4/\Aq (z5=z5))/\(Aq (z6*g.b.n=z6*g.b.n-g_1.j)/\∀(i:Nat),i<z6*g.b.n-g_1.j->((True/\Aq z4/\Aq ((g.b.f (i/z6)).y=(g.b.f ((i+g_1.j)/z6)).y))/\Aq z4/\Aq (eX g.b.f i=eX g.b.f (i+g_1.j)))/\Aq z4/\Aq z25)/\Aq z9/\Aq z9/\Aq z9/\Aq (false=K (odd g_1.i) (odd g_1.j))/\True)/\((True/\Aq (false=odd g_1.i))/\Aq (false=odd g_1.j))/\z31/\(Aq ((0:Nat)=g_1.L.length)/\∀(i:Nat),i<g_1.L.length->((True/\False)/\False)/\False)/\(((True/\Aq z4/\Aq (z5=g_1.from'.y))/\Aq z4/\Aq (z5=g_1.from'.x))/\Aq z4/\Aq (z5=g_1.from'.who))/\True)/\∀(g_1:CsG),let z37:=(Aq z4/\Aq (g_1.from'.x=g_1.from'.x));let z36:=(Aq z4/\Aq (g_1.from'.y=g_1.from'.y));let z33:=(!odd g_1.i);let z24:=(K (odd g_1.i) (odd g_1.j));let z23:=((Aq (z33 = !odd g_1.i)/\Aq (odd g_1.j=odd g_1.j)/\True)/\Aq True);let z22:=((Aq (odd g_1.i=odd g_1.i)/\Aq ((!odd g_1.j) = !odd g_1.j)/\True)/\Aq True);let z12:=(Aq (g_1.L.length=g_1.L.length)/\∀(i:Nat),let z30:=(Rga.rI g_1.L i);i<g_1.L.length->((True/\Aq z4/\Aq (z30.y=z30.y))/\Aq z4/\Aq (z30.x0=z30.x0))/\Aq z4/\Aq (z30.x1=z30.x1));let z11:=(z6*g.a.n-g_1.i);let z39:=(↑z11:Int);let z28:=(z5<=z5/\z5<z39);let z18:=(z5<=Int.ofNat z32/\Int.ofNat z32<=Int.ofNat z11/\Int.ofNat z11<=Int.ofNat z11/\Int.ofNat z11<=z39);let z10:=(z6*g.b.n-g_1.j);let z40:=(↑z10:Int);let z29:=(z5<=z5/\z5<z40);let z19:=(z5<=Int.ofNat z32/\Int.ofNat z32<=Int.ofNat z10/\Int.ofNat z10<=Int.ofNat z10/\Int.ofNat z10<=z40);let z8:=(Int.toNat z5+g_1.i);let z27:=(g.a.f (z8/z6));let z14:=(AdG.mk g_1.L.length (Rga.rI g_1.L) (Rn.mk g_1.from'.y g_1.from'.x (eX g.a.f z8)));let z7:=(Int.toNat z5+g_1.j);let z26:=(g.b.f (z7/z6));let z13:=(AdG.mk g_1.L.length (Rga.rI g_1.L) (Rn.mk g_1.from'.y g_1.from'.x (eX g.b.f z7)));let z3:=(True/\True/\True/\True/\Aq z15/\True/\True/\Aq z15/\True/\True/\True/\Aq z17/\True/\Aq z15/\True/\z22/\True/\True/\∃(g':CsG),Aq (z16.pre g')/\((z21/\(Aq (z6*g.a.n-g_1.i=z6*g.a.n-g'.i)/\∀(i:Nat),i<z6*g.a.n-g'.i->((True/\Aq z4/\Aq ((g.a.f ((i+g_1.i)/z6)).y=(g.a.f ((i+g'.i)/z6)).y))/\Aq z4/\Aq (eX g.a.f (i+g_1.i)=eX g.a.f (i+g'.i)))/\Aq z4/\Aq (z5=z5))/\(Aq ((Int.ofNat z10-Int.ofNat z32).toNat=z6*g.b.n-g'.j)/\∀(i:Nat),i<z6*g.b.n-g'.j->((True/\Aq z4/\Aq ((g.b.f ((z20.toNat+i+g_1.j)/z6)).y=(g.b.f ((i+g'.j)/z6)).y))/\Aq z4/\Aq (eX g.b.f (z20.toNat+i+g_1.j)=eX g.b.f (i+g'.j)))/\Aq z4/\Aq z25)/\Aq z9/\Aq z9/\Aq z9/\Aq ((K (odd g_1.i) !odd g_1.j)=K (odd g'.i) (odd g'.j))/\True)/\((True/\Aq (odd g_1.i=odd g'.i))/\Aq ((!odd g_1.j)=odd g'.j))/\z31/\(Aq (g_1.L.length=g'.L.length)/\∀(i:Nat),i<g'.L.length->((True/\Aq z4/\Aq ((Rga.rI g_1.L i).y=(Rga.rI g'.L i).y))/\Aq z4/\Aq ((Rga.rI g_1.L i).x0=(Rga.rI g'.L i).x0))/\Aq z4/\Aq ((Rga.rI g_1.L i).x1=(Rga.rI g'.L i).x1))/\(((True/\Aq z4/\Aq (z26.y=g'.from'.y))/\Aq z4/\Aq (eX g.b.f z7=g'.from'.x))/\Aq z4/\Aq ((1:Int)=g'.from'.who))/\True)/\Aq (z16.meas g'<z16.meas g_1));let z2:=(True/\True/\True/\True/\Aq z17/\True/\True/\Aq z17/\True/\True/\True/\Aq z17/\True/\Aq z15/\True/\z23/\True/\True/\∃(g':CsG),Aq (z16.pre g')/\((z21/\(Aq ((Int.ofNat z11-Int.ofNat z32).toNat=z6*g.a.n-g'.i)/\∀(i:Nat),i<z6*g.a.n-g'.i->((True/\Aq z4/\Aq ((g.a.f ((z20.toNat+i+g_1.i)/z6)).y=(g.a.f ((i+g'.i)/z6)).y))/\Aq z4/\Aq (eX g.a.f (z20.toNat+i+g_1.i)=eX g.a.f (i+g'.i)))/\Aq z4/\Aq (z5=z5))/\(Aq (z6*g.b.n-g_1.j=z6*g.b.n-g'.j)/\∀(i:Nat),i<z6*g.b.n-g'.j->((True/\Aq z4/\Aq ((g.b.f ((i+g_1.j)/z6)).y=(g.b.f ((i+g'.j)/z6)).y))/\Aq z4/\Aq (eX g.b.f (i+g_1.j)=eX g.b.f (i+g'.j)))/\Aq z4/\Aq z25)/\Aq z9/\Aq z9/\Aq z9/\Aq (K z33 (odd g_1.j)=K (odd g'.i) (odd g'.j))/\True)/\((True/\Aq (z33=odd g'.i))/\Aq (odd g_1.j=odd g'.j))/\z31/\(Aq (g_1.L.length=g'.L.length)/\∀(i:Nat),i<g'.L.length->((True/\Aq z4/\Aq ((Rga.rI g_1.L i).y=(Rga.rI g'.L i).y))/\Aq z4/\Aq ((Rga.rI g_1.L i).x0=(Rga.rI g'.L i).x0))/\Aq z4/\Aq ((Rga.rI g_1.L i).x1=(Rga.rI g'.L i).x1))/\(((True/\Aq z4/\Aq (z27.y=g'.from'.y))/\Aq z4/\Aq (eX g.a.f z8=g'.from'.x))/\Aq z4/\Aq (z5=g'.from'.who))/\True)/\Aq (z16.meas g'<z16.meas g_1));let z1:=(True/\True/\True/\True/\True/\True/\((True/\(Aq z9/\z36/\z37/\(Aq z4/\Aq (eX g.b.f z7=eX g.b.f z7))/\True)/\z31/\z12/\True)/\Aq (g_1.L.length<=z38))/\True/\True/\True/\True/\Aq z15/\True/\True/\Aq z15/\True/\True/\True/\Aq z17/\True/\Aq z15/\True/\z22/\True/\True/\∃(g':CsG),Aq (z16.pre g')/\((z21/\(Aq (z6*g.a.n-g_1.i=z6*g.a.n-g'.i)/\∀(i:Nat),i<z6*g.a.n-g'.i->((True/\Aq z4/\Aq ((g.a.f ((i+g_1.i)/z6)).y=(g.a.f ((i+g'.i)/z6)).y))/\Aq z4/\Aq (eX g.a.f (i+g_1.i)=eX g.a.f (i+g'.i)))/\Aq z4/\Aq (z5=z5))/\(Aq ((Int.ofNat z10-Int.ofNat z32).toNat=z6*g.b.n-g'.j)/\∀(i:Nat),i<z6*g.b.n-g'.j->((True/\Aq z4/\Aq ((g.b.f ((z20.toNat+i+g_1.j)/z6)).y=(g.b.f ((i+g'.j)/z6)).y))/\Aq z4/\Aq (eX g.b.f (z20.toNat+i+g_1.j)=eX g.b.f (i+g'.j)))/\Aq z4/\Aq z25)/\Aq z9/\Aq z9/\Aq z9/\Aq ((K (odd g_1.i) !odd g_1.j)=K (odd g'.i) (odd g'.j))/\True)/\((True/\Aq (odd g_1.i=odd g'.i))/\Aq ((!odd g_1.j)=odd g'.j))/\z31/\(Aq (z13.L.length=g'.L.length)/\∀(i:Nat),i<g'.L.length->((True/\Aq z4/\Aq ((Rga.rI z13.L i).y=(Rga.rI g'.L i).y))/\Aq z4/\Aq ((Rga.rI z13.L i).x0=(Rga.rI g'.L i).x0))/\Aq z4/\Aq ((Rga.rI z13.L i).x1=(Rga.rI g'.L i).x1))/\(((True/\Aq z4/\Aq (z26.y=g'.from'.y))/\Aq z4/\Aq (eX g.b.f z7=g'.from'.x))/\Aq z4/\Aq ((1:Int)=g'.from'.who))/\True)/\Aq (z16.meas g'<z16.meas g_1));let z0:=(True/\True/\True/\True/\True/\True/\((True/\(Aq z9/\z36/\z37/\(Aq z4/\Aq (eX g.a.f z8=eX g.a.f z8))/\True)/\z31/\z12/\True)/\Aq (g_1.L.length<=z38))/\True/\True/\True/\True/\Aq z17/\True/\True/\Aq z17/\True/\True/\True/\Aq z17/\True/\Aq z15/\True/\z23/\True/\True/\∃(g':CsG),Aq (z16.pre g')/\((z21/\(Aq ((Int.ofNat z11-Int.ofNat z32).toNat=z6*g.a.n-g'.i)/\∀(i:Nat),i<z6*g.a.n-g'.i->((True/\Aq z4/\Aq ((g.a.f ((z20.toNat+i+g_1.i)/z6)).y=(g.a.f ((i+g'.i)/z6)).y))/\Aq z4/\Aq (eX g.a.f (z20.toNat+i+g_1.i)=eX g.a.f (i+g'.i)))/\Aq z4/\Aq (z5=z5))/\(Aq (z6*g.b.n-g_1.j=z6*g.b.n-g'.j)/\∀(i:Nat),i<z6*g.b.n-g'.j->((True/\Aq z4/\Aq ((g.b.f ((i+g_1.j)/z6)).y=(g.b.f ((i+g'.j)/z6)).y))/\Aq z4/\Aq (eX g.b.f (i+g_1.j)=eX g.b.f (i+g'.j)))/\Aq z4/\Aq z25)/\Aq z9/\Aq z9/\Aq z9/\Aq (K z33 (odd g_1.j)=K (odd g'.i) (odd g'.j))/\True)/\((True/\Aq (z33=odd g'.i))/\Aq (odd g_1.j=odd g'.j))/\z31/\(Aq (z14.L.length=g'.L.length)/\∀(i:Nat),i<g'.L.length->((True/\Aq z4/\Aq ((Rga.rI z14.L i).y=(Rga.rI g'.L i).y))/\Aq z4/\Aq ((Rga.rI z14.L i).x0=(Rga.rI g'.L i).x0))/\Aq z4/\Aq ((Rga.rI z14.L i).x1=(Rga.rI g'.L i).x1))/\(((True/\Aq z4/\Aq (z27.y=g'.from'.y))/\Aq z4/\Aq (eX g.a.f z8=g'.from'.x))/\Aq z4/\Aq (z5=g'.from'.who))/\True)/\Aq (z16.meas g'<z16.meas g_1));z16.pre g_1->True/\True/\True/\True/\Aq (z34<=z39+z40/\z39+z40<=z35)/\True/\Br (decide (z5<z39+z40)) (True/\True/\True/\True/\True/\Br (decide (z40=z5)) (True/\True/\Aq z28/\True/\True/\Aq z18/\True/\True/\True/\Br z24 z0 z2) (True/\True/\True/\True/\Br (decide (z5<z39)) (True/\Aq z28/\True/\True/\True/\Aq z29/\True/\True/\Aq (z34<=z27.y-z26.y/\z27.y-z26.y<=z35)/\True/\Aq z28/\True/\True/\True/\Aq z29/\True/\True/\Aq (z34<=eX g.a.f z8-eX g.b.f z7/\eX g.a.f z8-eX g.b.f z7<=z35)/\True/\(((Aq (z6=z6)/\∀(i:Nat),i<z6->True/\Aq z4/\Aq ((bif decide (i=z32)then eX g.a.f z8-eX g.b.f z7 else z27.y-z26.y)=bif decide (i=z32)then eX g.a.f z8-eX g.b.f z7 else z27.y-z26.y))/\True)/\Aq True)/\True/\True/\True/\Br (decide (orI (z27.y-z26.y) (eX g.a.f z8-eX g.b.f z7)<=z5)) (True/\Aq z28/\True/\True/\Aq z18/\True/\True/\True/\Br z24 z0 z2) (True/\Aq z29/\True/\True/\Aq z19/\True/\True/\True/\Br z24 z1 z3)) (True/\True/\True/\Aq z29/\True/\True/\Aq z19/\True/\True/\True/\Br z24 z1 z3))) (True/\True/\True/\True/\Aq (g_1.L.length=(al9 K g).length)/\∀(i:Nat),let z41:=(Rga.rI (al9 K g) i);i<(al9 K g).length->((True/\Aq z4/\Aq ((Rga.rI g_1.L i).y=z41.y))/\Aq z4/\Aq ((Rga.rI g_1.L i).x0=z41.x0))/\Aq z4/\Aq ((Rga.rI g_1.L i).x1=z41.x1))
theorem b78(g:CbG)(K:Bool->Bool->Bool)(F:Nat)(hK:K false false=false)(hg:vld g.a.L/\vld g.b.L):cbB g K F:=by
 unfold cbB;simp only[cln];obtain⟨va,vb⟩:=hg;have na:=ao3 va;have nb:=ao3 vb;rw[Rg.len]at na nb;refine⟨by omega,by omega,⟨⟨0,0,⟨0,0,0⟩,[]⟩,bw4 g _,⟨⟨rfl,λk _=>⟨rfl,rfl⟩⟩,⟨rfl,λk _=>⟨rfl,rfl⟩⟩,hK.symm⟩,⟨rfl,rfl⟩,⟨rfl,λk hk=>absurd hk (ln _)⟩,⟨rfl,rfl⟩,rfl⟩,λs P=>?_⟩;have P:CbP g K s:=P;have p1:=P.hi;have p2:=P.hj;have p3:=ao3 P.hL;have Ai:Int.toNat 0+s.i=s.i:=lI _;have Aj:Int.toNat 0+s.j=s.j:=lI _;have r1:∀(n:Nat),0<n->0<=Int.ofNat 1/\Int.ofNat 1<=Int.ofNat n/\Int.ofNat n<=Int.ofNat n/\Int.ofNat n<=(n:Int):=λn hn=>⟨by decide,Int.ofNat_le.2 hn,xp _,xp _⟩
 have f0:((0:Int)<=0/\(0:Int)<((2:Nat):Int)):=by decide
 have f1:((0:Int)<=1/\(1:Int)<((2:Nat):Int)):=by decide
 refine⟨by omega,λhlt=>⟨λhb0=>?_,λhb0=>⟨λha0=>?_,λha0=>?_⟩⟩,λhge=>?_⟩
 ·have hi:s.i<2*g.a.n:=by omega
  exact⟨by omega,r1 _ (by omega),λho=>⟨by omega,f0,f0,f0,f1,tA (K:=K) va vb hK P hi (λh=>absurd h (by omega)) ((addL s.L _).trans ((ll ho).symm.trans (by rw[Ai];rfl)))⟩,
   λhc=>⟨f0,f0,f0,f1,tA (K:=K) va vb hK P hi (λh=>absurd h (by omega)) (lu (λh=>Bool.noConfusion (hc.symm.trans h))).symm⟩⟩
 ·have hi:s.i<2*g.a.n:=by omega
  have hj:s.j<2*g.b.n:=by omega
  have b1:=a98 va hi;have b2:=a98 vb hj;have e1:(g.a.f (s.i/2)).y=eY g.a.f s.i:=rfl;have e2:(g.b.f (s.j/2)).y=eY g.b.f s.j:=rfl;have c1:(g.a.f ((Int.toNat 0+s.i)/2)).y=eY g.a.f s.i:=by rw[Ai];rfl
  have c2:(g.b.f ((Int.toNat 0+s.j)/2)).y=eY g.b.f s.j:=by rw[Aj];rfl
  have c3:eX g.a.f (Int.toNat 0+s.i)=eX g.a.f s.i:=by rw[Ai]
  have c4:eX g.b.f (Int.toNat 0+s.j)=eX g.b.f s.j:=by rw[Aj]
  have q1:(0:Int)<=0/\0<((2*g.a.n-s.i:Nat):Int):=by omega
  have q2:(0:Int)<=0/\0<((2*g.b.n-s.j:Nat):Int):=by omega
  refine⟨q1,q2,by rw[c1,c2];omega,q1,q2,by rw[c3,c4];omega,λhor=>?_,λhor=>?_⟩
  ·rw[c1,c2,c3,c4,cp1]at hor;exact⟨q1,r1 _ (by omega),λho=>⟨by omega,f0,f0,f0,f1,tA (K:=K) va vb hK P hi (λ_=>hor) ((addL s.L _).trans ((ll ho).symm.trans (by rw[Ai];rfl)))⟩,
    λhc=>⟨f0,f0,f0,f1,tA (K:=K) va vb hK P hi (λ_=>hor) (lu (λh=>Bool.noConfusion (hc.symm.trans h))).symm⟩⟩
  ·rw[c1,c2,c3,c4,cp1]at hor;exact⟨q2,r1 _ (by omega),λho=>⟨by omega,f1,f1,f0,f1,tB (K:=K) va vb hK P hj (λ_=>by omega) ((addL s.L _).trans ((ll ho).symm.trans (by rw[Aj];rfl)))⟩,
    λhc=>⟨f1,f1,f0,f1,tB (K:=K) va vb hK P hj (λ_=>by omega) (lu (λh=>Bool.noConfusion (hc.symm.trans h))).symm⟩⟩
 ·have hj:s.j<2*g.b.n:=by omega
  exact⟨by omega,r1 _ (by omega),λho=>⟨by omega,f1,f1,f0,f1,tB (K:=K) va vb hK P hj (λh=>absurd h (by omega)) ((addL s.L _).trans ((ll ho).symm.trans (by rw[Aj];rfl)))⟩,
   λhc=>⟨f1,f1,f0,f1,tB (K:=K) va vb hK P hj (λh=>absurd h (by omega)) (lu (λh=>Bool.noConfusion (hc.symm.trans h))).symm⟩⟩
 ·have e:=b77 va vb hK P (by omega) (by omega);have e:al9 K g=s.L:=e;rw[e];exact⟨rfl,λk _=>⟨⟨rfl,rfl⟩,rfl⟩⟩
def spI1:FSpec:=aa9 34 (γ:=Bool×Bool) (λ| [a,b]=>some (bj1 a,bj1 b)|_=>none) (λg=>[.bool g.1,.bool g.2]) (λ_=>True) (λg=> .bool (and g.1 g.2))
theorem ce7:aa5 Tw.prog spI1:=by
 refine ssW (specs:=[]) trivial Tw.func34 (λg=>A0) ?_;rintro⟨a,b⟩ _;refine ac7 (B:=Tt/\Tt/\Tt/\Br a (Tt/\Tt/\Tt/\Tt/\Aq (b=(a&&b))) (Tt/\Tt/\Tt/\Aq (false=(a&&b)))) ?_;simp only[cln];cases a<;>cases b<;>decide
def cm0:FSpec:=aa9 46 (γ:=CbG) (λ| [s,t,.fn _ _ _]=>some ⟨⟨aj1 s,rgD s⟩,⟨aj1 t,rgD t⟩⟩|_=>none) (λg=>[rgS g.a,rgS g.b,.fn 34 0 (lst [])]) (λg=>vld g.a.L/\vld g.b.L) (λg=>al4 (al9 and g))
theorem cq3:aa5 Tw.prog cm0:=by
 refine ssW (specs:=[bl7,aO6,giv spOr,spI1]) (⟨bu5,aF8,aC8 cp8,ce7,trivial⟩) Tw.func46 (λg=>(⟨[(5,.inv (ba3 g and 34))],[(4,[.ownC 1 0 58 3]),(13,[.tmp 13])]⟩:Ann)) ?_;exactλg hg=>ac7 (B:=cbB g and 34) (b78 g and 34 rfl hg)
def spM1:FSpec:=aa9 33 (γ:=Bool×Bool) (λ| [a,b]=>some (bj1 a,bj1 b)|_=>none) (λg=>[.bool g.1,.bool g.2]) (λ_=>True) (λg=> .bool (mn g.1 g.2))
theorem ok_M1:aa5 Tw.prog spM1:=by
 refine ssW (specs:=[]) trivial Tw.func33 (λg=>A0) ?_;rintro⟨a,b⟩ _;refine ac7 (B:=Tt/\Tt/\Tt/\Br a (Tt/\Tt/\Tt/\Tt/\Tt/\Aq ((!b)=mn a b)) (Tt/\Tt/\Tt/\Aq (false=mn a b))) ?_;simp only[cln];cases a<;>cases b<;>decide
def cl9:FSpec:=aa9 46 (γ:=CbG) (λ| [s,t,.fn _ _ _]=>some ⟨⟨aj1 s,rgD s⟩,⟨aj1 t,rgD t⟩⟩|_=>none) (λg=>[rgS g.a,rgS g.b,.fn 33 0 (lst [])]) (λg=>vld g.a.L/\vld g.b.L) (λg=>al4 (al9 mn g))
theorem cq2:aa5 Tw.prog cl9:=by
 refine ssW (specs:=[bl7,aO6,giv spOr,spM1]) (⟨bu5,aF8,aC8 cp8,ok_M1,trivial⟩) Tw.func46 (λg=>(⟨[(5,.inv (ba3 g mn 33))],[(4,[.ownC 1 0 58 3]),(13,[.tmp 13])]⟩:Ann)) ?_;exactλg hg=>ac7 (B:=cbB g mn 33) (b78 g mn 33 rfl hg)
end Rgb
namespace Rgc
open Go.RowKit Sx Num Aff Con Rga Rgl Rgm Rgn Rgb
def okP(s:SV):SV:= .tup 2 (lst [s,.int .i64 0])
theorem bnd{L:List Rn}(h:vld L):L.length<=4294967296:=lU (ao3 h) (by decide)
theorem bndg{g:Rg}(h:vld g.L):g.n<=4294967296:=Rg.len g▸bnd h
def cm2:FSpec:=aa9 32 (γ:=CbG) (λ| [s,t,.fn _ _ _]=>some ⟨⟨aj1 s,rgD s⟩,⟨aj1 t,rgD t⟩⟩|_=>none) (λg=>[rgS g.a,rgS g.b,.fn 34 0 (lst [])]) (λg=>vld g.a.L/\vld g.b.L) (λg=>okP (al4 (al9 and g)))
theorem cq5:aa5 Tw.prog cm2:=by
 refine ssW (specs:=[aw2,cm0]) (⟨au2,cq3,trivial⟩) Tw.func32 (λg=>(⟨[(2,.rounds 3)],[]⟩:Ann)) ?_;rintro g ⟨va,vb⟩;refine ac7 (B:=let A:=Aq;let z6:=(1:Int);let z5:=(al9 Bool.and g);let z4:=(0:Int);let z0:=(IntKind.i64=IntKind.i64);let q0:=λp:Int=>A z0/\A (p=p);let z2:=(A (g.b.n=g.b.n)/\∀i:Nat,i<g.b.n->((Tt/\q0 ((g.b.f i).y))/\q0 ((g.b.f i).x0))/\q0 ((g.b.f i).x1));let z1:=(A (g.a.n=g.a.n)/\∀i:Nat,i<g.a.n->((Tt/\q0 ((g.a.f i).y))/\q0 ((g.a.f i).x0))/\q0 ((g.a.f i).x1));Tt/\Tt/\Tt/\Tt/\Tt/\Tt/\Tt/\A (z4<=z4/\z4<(↑(2:Nat):Int))/\Tt/\Tt/\((z1/\Tt)/\A (vld g.a.L/\g.a.n<=(4294967296:Nat)))/\Tt/\Tt/\Tt/\A ((-9223372036854775808:Int)<=z4+z6/\z4+z6<=(9223372036854775807:Int))/\Tt/\Tt/\A (z4<=z4+z6/\z4+z6<(↑(2:Nat):Int))/\Tt/\Tt/\((z2/\Tt)/\A (vld g.b.L/\g.b.n<=(4294967296:Nat)))/\Tt/\Tt/\Tt/\A ((-9223372036854775808:Int)<=z4+z6+z6/\z4+z6+z6<=(9223372036854775807:Int))/\Tt/\Tt/\Tt/\Tt/\Tt/\((z1/\z2/\(A ((34:Go.FuncId)=(34:Go.FuncId))/\Tt)/\Tt)/\A (vld g.a.L/\vld g.b.L))/\Tt/\Tt/\Tt/\(Tt/\A (z5.length=z5.length)/\∀i:Nat,let z3:=(rI z5 i);i<z5.length->((Tt/\q0 z3.y)/\q0 z3.x0)/\q0 z3.x1)/\q0 z4) ?_;simp only[cln];have na:=bndg va;have nb:=bndg vb;repeat' (first|exact va|exact vb|apply And.intro)
 all_goals (first|decide|omega)
def ar4:FSpec:=aa9 14 (γ:=CbG) (λ| [s,t]=>some ⟨⟨aj1 s,rgD s⟩,⟨aj1 t,rgD t⟩⟩|_=>none) (λg=>[rgS g.a,rgS g.b]) (λg=>vld g.a.L/\vld g.b.L) (λg=>okP (al4 (al9 and g)))
theorem au3:aa5 Tw.prog ar4:=by
 refine ssW (specs:=[cm2]) (⟨cq5,trivial⟩) Tw.func14 (λg=>A0) ?_;rintro g ⟨va,vb⟩;refine ac7 (B:=let A:=Aq;let z2:=(al9 Bool.and g);let z0:=(IntKind.i64=IntKind.i64);let q0:=λp:Int=>A z0/\A (p=p);Tt/\Tt/\Tt/\Tt/\(((A (g.a.n=g.a.n)/\∀i:Nat,i<g.a.n->((Tt/\q0 ((g.a.f i).y))/\q0 ((g.a.f i).x0))/\q0 ((g.a.f i).x1))/\(A (g.b.n=g.b.n)/\∀i:Nat,i<g.b.n->((Tt/\q0 ((g.b.f i).y))/\q0 ((g.b.f i).x0))/\q0 ((g.b.f i).x1))/\(A ((34:Nat)=(34:Go.FuncId))/\Tt)/\Tt)/\A (vld g.a.L/\vld g.b.L))/\Tt/\Tt/\Tt/\Tt/\Tt/\(Tt/\A (z2.length=z2.length)/\∀i:Nat,let z1:=(rI z2 i);i<z2.length->((Tt/\q0 z1.y)/\q0 z1.x0)/\q0 z1.x1)/\q0 ((0:Int))) ?_;simp only[cln];exact⟨va,vb⟩
def cm1:FSpec:=aa9 32 (γ:=CbG) (λ| [s,t,.fn _ _ _]=>some ⟨⟨aj1 s,rgD s⟩,⟨aj1 t,rgD t⟩⟩|_=>none) (λg=>[rgS g.a,rgS g.b,.fn 33 0 (lst [])]) (λg=>vld g.a.L/\vld g.b.L) (λg=>okP (al4 (al9 mn g)))
theorem cq4:aa5 Tw.prog cm1:=by
 refine ssW (specs:=[aw2,cl9]) (⟨au2,cq2,trivial⟩) Tw.func32 (λg=>(⟨[(2,.rounds 3)],[]⟩:Ann)) ?_;rintro g ⟨va,vb⟩;refine ac7 (B:=let A:=Aq;let z6:=(1:Int);let z5:=(al9 mn g);let z4:=(0:Int);let z0:=(IntKind.i64=IntKind.i64);let q0:=λp:Int=>A z0/\A (p=p);let z2:=(A (g.b.n=g.b.n)/\∀i:Nat,i<g.b.n->((Tt/\q0 ((g.b.f i).y))/\q0 ((g.b.f i).x0))/\q0 ((g.b.f i).x1));let z1:=(A (g.a.n=g.a.n)/\∀i:Nat,i<g.a.n->((Tt/\q0 ((g.a.f i).y))/\q0 ((g.a.f i).x0))/\q0 ((g.a.f i).x1));Tt/\Tt/\Tt/\Tt/\Tt/\Tt/\Tt/\A (z4<=z4/\z4<(↑(2:Nat):Int))/\Tt/\Tt/\((z1/\Tt)/\A (vld g.a.L/\g.a.n<=(4294967296:Nat)))/\Tt/\Tt/\Tt/\A ((-9223372036854775808:Int)<=z4+z6/\z4+z6<=(9223372036854775807:Int))/\Tt/\Tt/\A (z4<=z4+z6/\z4+z6<(↑(2:Nat):Int))/\Tt/\Tt/\((z2/\Tt)/\A (vld g.b.L/\g.b.n<=(4294967296:Nat)))/\Tt/\Tt/\Tt/\A ((-9223372036854775808:Int)<=z4+z6+z6/\z4+z6+z6<=(9223372036854775807:Int))/\Tt/\Tt/\Tt/\Tt/\Tt/\((z1/\z2/\(A ((33:Go.FuncId)=(33:Go.FuncId))/\Tt)/\Tt)/\A (vld g.a.L/\vld g.b.L))/\Tt/\Tt/\Tt/\(Tt/\A (z5.length=z5.length)/\∀i:Nat,let z3:=(rI z5 i);i<z5.length->((Tt/\q0 z3.y)/\q0 z3.x0)/\q0 z3.x1)/\q0 z4) ?_;simp only[cln];have na:=bndg va;have nb:=bndg vb;repeat' (first|exact va|exact vb|apply And.intro)
 all_goals (first|decide|omega)
def bl6:FSpec:=aa9 12 (γ:=CbG) (λ| [s,t]=>some ⟨⟨aj1 s,rgD s⟩,⟨aj1 t,rgD t⟩⟩|_=>none) (λg=>[rgS g.a,rgS g.b]) (λg=>vld g.a.L/\vld g.b.L) (λg=>okP (al4 (al9 mn g)))
theorem bu6:aa5 Tw.prog bl6:=by
 refine ssW (specs:=[cm1]) (⟨cq4,trivial⟩) Tw.func12 (λg=>A0) ?_;rintro g ⟨va,vb⟩;refine ac7 (B:=let A:=Aq;let z2:=(al9 mn g);let z0:=(IntKind.i64=IntKind.i64);let q0:=λp:Int=>A z0/\A (p=p);Tt/\Tt/\Tt/\Tt/\(((A (g.a.n=g.a.n)/\∀i:Nat,i<g.a.n->((Tt/\q0 ((g.a.f i).y))/\q0 ((g.a.f i).x0))/\q0 ((g.a.f i).x1))/\(A (g.b.n=g.b.n)/\∀i:Nat,i<g.b.n->((Tt/\q0 ((g.b.f i).y))/\q0 ((g.b.f i).x0))/\q0 ((g.b.f i).x1))/\(A ((33:Nat)=(33:Go.FuncId))/\Tt)/\Tt)/\A (vld g.a.L/\vld g.b.L))/\Tt/\Tt/\Tt/\Tt/\Tt/\(Tt/\A (z2.length=z2.length)/\∀i:Nat,let z1:=(rI z2 i);i<z2.length->((Tt/\q0 z1.y)/\q0 z1.x0)/\q0 z1.x1)/\q0 ((0:Int))) ?_;simp only[cln];exact⟨va,vb⟩
structure EqG where
 a:Rg
 b:Rg
def EqG.ok(g:EqG):Prop:=vld g.a.L/\g.a.L=g.b.L
end Rgc
namespace Rgd
open Go.RowKit Sx Num Aff Con Rga Rgl Rgm Rgn Rgb Rgc
structure ShG where
 g:Rg
 dx:Int
 dy:Int
def ShG.f(h:ShG):Nat->Rn:=λi=>shR h.dx h.dy (h.g.f i)
structure ShG.ok(h:ShG):Prop where
 v:vld h.g.L
 x : -16384<=h.dx/\h.dx<=16384
 y : -16384<=h.dy/\h.dy<=16384
 r:∀i<h.g.n,okR (h.f i)
def ShG.L(h:ShG):List Rn:=Lf h.f h.g.n
theorem ShG.L_eq(h:ShG):h.L=shL h.dx h.dy h.g.L:=by
 unfold ShG.L Lf shL Rg.L;rw[List.map_map];rfl
def cm6(h:ShG):Inv:=⟨Nat,λi=>i<=h.g.n,λi=>⟨[(1,.int .i64 h.dx),(2,.int .i64 h.dy),(9,.own 0 0),(31,rgS h.g),(32,.int .i64 h.g.n),(33,.int .i64 i)],
  [.cells 1 (lst [.osl 1 0]) 67,.row 0 i 3 (λk=>lst (rnL (h.f k))) 58]⟩,λi=>h.g.n-i⟩
def bl3:FSpec:=aa9 10 (γ:=ShG) (λ| [s,.int _ dx,.int _ dy]=>some ⟨⟨aj1 s,rgD s⟩,dx,dy⟩|_=>none) (λh=>[rgS h.g,.int .i64 h.dx,.int .i64 h.dy]) ShG.ok (λh=>okP (al4 h.L))
theorem bu2:aa5 Tw.prog bl3:=by
 refine ssW (specs:=[aw2,ay8,aO6]) (⟨au2,aJ2,aF8,trivial⟩) Tw.func10 (λg=>(⟨[(8,.inv (cm6 g))],[(7,[.ownC 0 0 58 3])]⟩:Ann)) ?_;rintro g hg;refine ac7 (B:=let T3:=λp:Prop=>Tt/\Tt/\Tt/\p;let T4:=λp:Prop=>Tt/\Tt/\Tt/\Tt/\p;let T6:=λp:Prop=>Tt/\Tt/\Tt/\Tt/\Tt/\Tt/\p;let K:=Br;let A:=Aq;let z20:=(8192:Int);let z18:=(cm6 g);let z17:=(-8192:Int);let z14:=((0:Nat)=(0:Nat));let z13:=((3:Int)=(0:Int));let z6:=(Tt/\A (g.L.length=(0:Nat)));let z5:=(9223372036854775807:Int);let z4:=(-9223372036854775808:Int);let z1:=(IntKind.i64=IntKind.i64);let q1:=λp:Int=>A z1/\A (p=p);let z12:=(q1 g.dy);let z11:=(q1 g.dx);let z7:=(q1 ((↑g.g.n:Int)));let z2:=(A (g.g.n=g.g.n)/\∀i:Nat,i<g.g.n->((Tt/\q1 ((g.g.f i).y))/\q1 ((g.g.f i).x0))/\q1 ((g.g.f i).x1));T3 (((z2/\Tt)/\A (vld g.g.L/\g.g.n<=(4294967296:Nat)))/\T6 (K (decide (g.dx<(-16384:Int))) (T6 (Tt/\Tt/\z6/\A z1/\A z13)) (T4 (K (decide ((16384:Int)<g.dx)) (T6 (z6/\A z1/\A z13)) (T4 (K (decide (g.dy<(-16384:Int))) (T4 (z6/\A z1/\A z13)) (T3 (K (decide ((16384:Int)<g.dy)) (T3 (z6/\A z1/\A z13)) (T4 ((∃g_1:Nat,A (z18.pre g_1)/\(z11/\z12/\A z14/\z2/\z7/\(A z1/\A ((0:Int)=(↑g_1:Int)))/\Tt)/\(Tt/\Tt)/\(A ((0:Nat)=g_1)/\∀i:Nat,i<g_1->((Tt/\False)/\False)/\False)/\Tt)/\∀g_1:Nat,let z8:=(↑g_1:Int);let z16:=(z4<=z8+(1:Int)/\z8+(1:Int)<=z5);let z3:=(g.g.f z8.toNat);let z19:=(z4<=z3.y+g.dy/\z3.y+g.dy<=z5);let z15:=(q1 (z3.y+g.dy));let z10:=(if z20<z3.x1+g.dx then z20 else z3.x1+g.dx);let z9:=(if z17>z3.x0+g.dx then z17 else z3.x0+g.dx);let z0:=(AdG.mk g_1 (λ(i:Nat)=>Rn.mk ((g.g.f i).y+g.dy) ((g.g.f i).x0+g.dx) ((g.g.f i).x1+g.dx)) (Rn.mk (z3.y+g.dy) z9 z10));z18.pre g_1->Tt/\K (decide (z8<(↑g.g.n:Int))) (A ((0:Int)<=z8/\z8<(↑g.g.n:Int))/\T6 (A z19/\((z15/\Tt)/\A True)/\K (decide (z17<=z3.y+g.dy)&&decide (z3.y+g.dy<z20)) (T3 (A z19/\T3 (A (z4<=z3.x0+g.dx/\z3.x0+g.dx<=z5)/\T4 (A (z4<=z3.x1+g.dx/\z3.x1+g.dx<=z5)/\Tt/\((Tt/\(A z14/\z15/\(A z1/\A (z9=if z17>z3.x0+g.dx then z17 else z3.x0+g.dx))/\(A z1/\A (z10=if z20<z3.x1+g.dx then z20 else z3.x1+g.dx))/\Tt)/\(Tt/\Tt)/\(A (g_1=g_1)/\∀i:Nat,i<g_1->((Tt/\q1 ((g.g.f i).y+g.dy))/\q1 ((g.g.f i).x0+g.dx))/\q1 ((g.g.f i).x1+g.dx))/\Tt)/\A (g_1<=(4294967296:Nat)))/\A z16/\Tt/\∃(g':Nat),A (z18.pre g')/\((z11/\z12/\A z14/\z2/\z7/\(A z1/\A (z8+(1:Int)=(↑g':Int)))/\Tt)/\(Tt/\Tt)/\(A (z0.L.length=g')/\∀i:Nat,i<g'->((Tt/\A z1/\A ((rI z0.L i).y=(g.g.f i).y+g.dy))/\A z1/\A ((rI z0.L i).x0=(g.g.f i).x0+g.dx))/\A z1/\A ((rI z0.L i).x1=(g.g.f i).x1+g.dx))/\Tt)/\A (z18.meas g'<z18.meas g_1))))) (A z16/\Tt/\∃(g':Nat),A (z18.pre g')/\((z11/\z12/\A z14/\z2/\z7/\(A z1/\A (z8+(1:Int)=(↑g':Int)))/\Tt)/\(Tt/\Tt)/\(A (g_1=g')/\∀i:Nat,i<g'->((Tt/\q1 ((g.g.f i).y+g.dy))/\q1 ((g.g.f i).x0+g.dx))/\q1 ((g.g.f i).x1+g.dx))/\Tt)/\A (z18.meas g'<z18.meas g_1)))) (T4 (Tt/\(Tt/\A (g_1=g.L.length)/\∀i:Nat,i<g.L.length->((Tt/\A z1/\A ((g.g.f i).y+g.dy=(rI g.L i).y))/\A z1/\A ((g.g.f i).x0+g.dx=(rI g.L i).x0))/\A z1/\A ((g.g.f i).x1+g.dx=(rI g.L i).x1))/\q1 ((0:Int))))))))))))))) ?_;simp only[cln];have hb:=bndg hg.v;obtain⟨x1,x2⟩:=hg.x;obtain⟨y1,y2⟩:=hg.y;refine⟨⟨hg.v,hb⟩,λh=>by omega,λ_=>⟨λh=>by omega,λ_=>⟨λh=>by omega,λ_=>⟨λh=>by omega,λ_=>⟨⟨0,lB _,rfl,rfl,λk hk=>absurd hk (ln _)⟩,λi hi=>⟨λhlt=>?_,λhge=>?_⟩⟩⟩⟩⟩⟩
 ·have hi:i<=g.g.n:=hi;have hlt:i<g.g.n:=by omega
  have z:((i:Int)).toNat=i:=rfl;obtain⟨⟨⟨h1,h2⟩,⟨h3,h4⟩,h5,h6⟩,h7⟩:=hg.r i hlt;have h1 : -8192<=(g.g.f i).y+g.dy:=h1;have h2:(g.g.f i).y+g.dy<8192:=h2;have h3 : -8192<=(g.g.f i).x0+g.dx:=h3;have h4:(g.g.f i).x0+g.dx<=8192:=h4;have h5 : -8192<=(g.g.f i).x1+g.dx:=h5;have h6:(g.g.f i).x1+g.dx<=8192:=h6;rw[z,lg h1,lg h2,lu (show¬ (-8192>(g.g.f i).x0+g.dx)by omega),lu (show¬ (8192<(g.g.f i).x1+g.dx)by omega)];have e:AdG.L ⟨i,λi=>⟨(g.g.f i).y+g.dy,(g.g.f i).x0+g.dx,(g.g.f i).x1+g.dx⟩,⟨(g.g.f i).y+g.dy,(g.g.f i).x0+g.dx,(g.g.f i).x1+g.dx⟩⟩=Lf g.f (i+1):=by
   refine bx6 (f:=g.f) (n:=i) h7 (λh0=>?_);have:=bY9 hg.v (show i-1<i by omega) hlt
   unfold ltR at *
   show(g.g.f (i-1)).y+g.dy<(g.g.f i).y+g.dy\/((g.g.f (i-1)).y+g.dy=(g.g.f i).y+g.dy/\(g.g.f (i-1)).x1+g.dx<(g.g.f i).x0+g.dx);omega
  refine⟨by omega,by omega,λ_=>⟨by omega,by omega,by omega,by omega,by omega,i+1,hlt,⟨rfl,?_,λk hk=>?_⟩,?_⟩,λh=>absurd h (by decide)⟩
  ·rw[e,aq7]
  ·rw[e,aK4 g.f hk];exact⟨⟨rfl,rfl⟩,rfl⟩
  ·show g.g.n-(i+1)<g.g.n-i;omega
 ·have hi:i<=g.g.n:=hi;have e:i=g.g.n:=by omega
  subst e;unfold ShG.L;rw[aq7];refine⟨rfl,λk hk=>?_⟩;rw[aK4 g.f hk];exact⟨⟨rfl,rfl⟩,rfl⟩
structure ReG where
 x0:Int
 y0:Int
 x1:Int
 y1:Int
def ReG.f(h:ReG):Nat->Rn:=λk=>⟨h.y0+k,h.x0,h.x1⟩
def ReG.n(h:ReG):Nat:=(h.y1-h.y0).toNat
structure ReG.ok(h:ReG):Prop where
 x0 : -8192<=h.x0/\h.x0<=8192
 y0 : -8192<=h.y0/\h.y0<=8192
 x1 : -8192<=h.x1/\h.x1<=8192
 y1 : -8192<=h.y1/\h.y1<=8192
 x:h.x0<h.x1
 y:h.y0<=h.y1
def bA1(h:ReG):Inv:=⟨Nat,λi=>h.y0+i<=h.y1,λi=>⟨[(0,.int .i64 h.x0),(2,.int .i64 h.x1),(3,.int .i64 h.y1),(10,.own 0 0),(11,.int .i64 (h.y0+i))],
  [.cells 1 (lst [.osl 1 0]) 67,.row 0 i 3 (λk=>lst (rnL (h.f k))) 58]⟩,λi=>h.n-i⟩
def bc9:FSpec:=aa9 16 (γ:=ReG) (λ| [.int _ x0,.int _ y0,.int _ x1,.int _ y1]=>some ⟨x0,y0,x1,y1⟩|_=>none) (λh=>[.int .i64 h.x0,.int .i64 h.y0,.int .i64 h.x1,.int .i64 h.y1]) ReG.ok (λh=>okP (al4 (Lf h.f h.n)))
theorem a36:aa5 Tw.prog bc9:=by
 refine ssW (specs:=[a11,aO6]) (⟨be7,aF8,trivial⟩) Tw.func16 (λg=>(⟨[(7,.inv (bA1 g))],[(6,[.ownC 0 0 58 3])]⟩:Ann)) ?_;rintro g hg;refine ac7 (B:=let T3:=λp:Prop=>Tt/\Tt/\Tt/\p;let T4:=λp:Prop=>Tt/\Tt/\Tt/\Tt/\p;let K:=Br;let A:=Aq;let z9:=((0:Nat)=(0:Nat));let z7:=((3:Int)=(0:Int));let z5:=(Lf g.f g.n);let z2:=(Tt/\A (z5.length=(0:Nat)));let z0:=(IntKind.i64=IntKind.i64);let q0:=λp:Int=>A z0/\A (p=p);let z6:=(q0 g.y1);let z4:=(q0 g.x1);let z3:=(q0 g.x0);T3 (((z3/\Tt)/\A True)/\Tt/\Tt/\K (!(decide ((-8192:Int)<=g.x0)&&decide (g.x0<=(8192:Int)))) (T4 (T4 (z2/\A z0/\A z7))) (Tt/\(((q0 g.y0)/\Tt)/\A True)/\T3 (K (!(decide ((-8192:Int)<=g.y0)&&decide (g.y0<=(8192:Int)))) (T4 (Tt/\Tt/\z2/\A z0/\A z7)) (Tt/\((z4/\Tt)/\A True)/\T3 (K (!(decide ((-8192:Int)<=g.x1)&&decide (g.x1<=(8192:Int)))) (T4 (z2/\A z0/\A z7)) (Tt/\((z6/\Tt)/\A True)/\Tt/\Tt/\K (!(decide ((-8192:Int)<=g.y1)&&decide (g.y1<=(8192:Int)))) (T3 (z2/\A z0/\A z7)) (T4 (K (decide (g.x1<g.x0)) (T4 (z2/\A z0/\A ((18:Int)=(0:Int)))) (T4 (K (decide (g.y1<g.y0)) (T3 (z2/\A z0/\A ((18:Int)=(0:Int)))) (T3 ((∃g_1:Nat,A ((bA1 g).pre g_1)/\(z3/\z4/\z6/\A z9/\(A z0/\A (g.y0=g.y0+(↑g_1:Int)))/\Tt)/\(Tt/\Tt)/\(A ((0:Nat)=g_1)/\∀i:Nat,i<g_1->((Tt/\False)/\False)/\False)/\Tt)/\∀g_1:Nat,let z8:=(↑g_1:Int);let z1:=(AdG.mk g_1 (λ(i:Nat)=>Rn.mk (g.y0+(↑i:Int)) g.x0 g.x1) (Rn.mk (g.y0+z8) g.x0 g.x1));(bA1 g).pre g_1->T3 (K (decide (g.y0+z8<g.y1)) (T3 (((Tt/\(A z9/\(q0 (g.y0+z8))/\z3/\z4/\Tt)/\(Tt/\Tt)/\(A (g_1=g_1)/\∀i:Nat,i<g_1->((Tt/\q0 (g.y0+(↑i:Int)))/\q0 g.x0)/\q0 g.x1)/\Tt)/\A (g_1<=(4294967296:Nat)))/\Tt/\A ((-9223372036854775808:Int)<=g.y0+z8+(1:Int)/\g.y0+z8+(1:Int)<=(9223372036854775807:Int))/\Tt/\∃(g':Nat),A ((bA1 g).pre g')/\((z3/\z4/\z6/\A z9/\(A z0/\A (g.y0+z8+(1:Int)=g.y0+(↑g':Int)))/\Tt)/\(Tt/\Tt)/\(A (z1.L.length=g')/\∀i:Nat,i<g'->((Tt/\A z0/\A ((rI z1.L i).y=g.y0+(↑i:Int)))/\A z0/\A ((rI z1.L i).x0=g.x0))/\A z0/\A ((rI z1.L i).x1=g.x1))/\Tt)/\A ((bA1 g).meas g'<(bA1 g).meas g_1))) (T4 (Tt/\(Tt/\A (g_1=z5.length)/\∀i:Nat,i<z5.length->((Tt/\A z0/\A (g.y0+(↑i:Int)=(rI z5 i).y))/\A z0/\A (g.x0=(rI z5 i).x0))/\A z0/\A (g.x1=(rI z5 i).x1))/\q0 ((0:Int)))))))))))))))))) ?_;simp only[cln];obtain⟨⟨a1,a2⟩,⟨b1,b2⟩,⟨c1,c2⟩,⟨d1,d2⟩,hx,hy⟩:=hg;rw[lg a1,lg a2,lg b1,lg b2,lg c1,lg c2,lg d1,lg d2];refine⟨λh=>absurd h (by decide),λ_=>⟨λh=>absurd h (by decide),λ_=>⟨λh=>absurd h (by decide),λ_=>⟨λh=>absurd h (by decide),λ_=>⟨λh=>by omega,λ_=>⟨λh=>by omega,λ_=>⟨⟨0,by show g.y0+0<=g.y1;omega,by omega,rfl,λk hk=>absurd hk (ln _)⟩,λi hi=>⟨λhlt=>?_,λhge=>?_⟩⟩⟩⟩⟩⟩⟩⟩
 ·have hi:g.y0+i<=g.y1:=hi;have e:AdG.L ⟨i,λi=>⟨g.y0+i,g.x0,g.x1⟩,⟨g.y0+i,g.x0,g.x1⟩⟩=Lf g.f (i+1):=by
   refine bx6 (f:=g.f) (n:=i) hx (λh0=> .inl ?_);show g.y0+((i-1:Nat):Int)<g.y0+i;omega
  refine⟨by omega,by omega,i+1,?_,⟨by omega,?_,λk hk=>?_⟩,?_⟩
  ·show g.y0+((i+1:Nat):Int)<=g.y1;omega
  ·rw[e,aq7]
  ·rw[e,aK4 g.f hk];exact⟨⟨rfl,rfl⟩,rfl⟩
  ·show(g.y1-g.y0).toNat-(i+1)<(g.y1-g.y0).toNat-i;omega
 ·have hi:g.y0+i<=g.y1:=hi;have e:i=g.n:=by unfold ReG.n;omega
  subst e;rw[aq7];refine⟨rfl,λk hk=>?_⟩;rw[aK4 g.f hk];exact⟨⟨rfl,rfl⟩,rfl⟩
abbrev lA:List Rn:=[⟨0,0,2⟩,⟨1,0,2⟩]
theorem eA:Lf (ReG.f ⟨0,0,2,2⟩) (ReG.n ⟨0,0,2,2⟩)=lA:=rfl
end Rgd
section
open Go Go.Proofs Go.Shelf
def Tw.bl9:Go.Shelf.Ren:=⟨λ| 6=>58|15=>67|14=>69|28=>97|29=>98|20=>99|21=>100|22=>101|23=>102|24=>103|25=>104|26=>105|27=>106|46=>117|47=>113|48=>114|49=>118|50=>119|57=>121|n=>n,λ| 22=>32|24=>58|25=>108|3=>3|39=>130|0=>0|53=>123|55=>120|4=>4|46=>151|45=>150|50=>105|5=>5|9=>9|66=>169|70=>172|76=>176|77=>177|n=>n,λ| n=>n⟩
theorem Tw.bm0:SlLaysF0.n6 Tw.prog Tw.bl9:={
  mixed:=by kernel_rfl
  f6:=⟨Tryz.f58.name,by decide,Tw.func58.trans (congrArg some (by kernel_rfl))⟩
  f14:=⟨Tryz.f69.name,by decide,Tw.func69.trans (congrArg some (by kernel_rfl))⟩
  f15:=Tw.func67.trans (congrArg some (by kernel_rfl))
  f20:=⟨Tryz.f99.name,by decide,Tw.func99.trans (congrArg some (by kernel_rfl))⟩
  f21:=⟨Tryz.f100.name,by decide,Tw.func100.trans (congrArg some (by kernel_rfl))⟩
  f22:=⟨Tryz.f101.name,by decide,Tw.func101.trans (congrArg some (by kernel_rfl))⟩
  f23:=⟨Tryz.f102.name,by decide,Tw.func102.trans (congrArg some (by kernel_rfl))⟩
  f24:=⟨Tryz.f103.name,by decide,Tw.func103.trans (congrArg some (by kernel_rfl))⟩
  f25:=⟨Tryz.f104.name,by decide,Tw.func104.trans (congrArg some (by kernel_rfl))⟩
  f26:=⟨Tryz.f105.name,by decide,Tw.func105.trans (congrArg some (by kernel_rfl))⟩
  f27:=⟨Tryz.f106.name,by decide,Tw.func106.trans (congrArg some (by kernel_rfl))⟩
  f28:=Tw.func97.trans (congrArg some (by kernel_rfl))
  f29:=Tw.func98.trans (congrArg some (by kernel_rfl))
  f46:=⟨Tryz.f117.name,by decide,Tw.func117.trans (congrArg some (by kernel_rfl))⟩
  f47:=Tw.func113.trans (congrArg some (by kernel_rfl))
  f48:=Tw.func114.trans (congrArg some (by kernel_rfl))
  f49:=⟨Tryz.f118.name,by decide,Tw.func118.trans (congrArg some (by kernel_rfl))⟩
  f50:=⟨Tryz.f119.name,by decide,Tw.func119.trans (congrArg some (by kernel_rfl))⟩
  f57:=⟨Tryz.f121.name,by decide,Tw.func121.trans (congrArg some (by kernel_rfl))⟩
  t0:=Tw.underlying0
  a0:=Tw.isAgg0
  z0:=Tw.sizeOf0
  v0:=Tw.zeroValue0
  t3:=Tw.underlying3
  a3:=Tw.isAgg3
  z3:=Tw.sizeOf3
  v3:=Tw.zeroValue3
  t4:=Tw.underlying4
  a4:=Tw.isAgg4
  z4:=Tw.sizeOf4
  v4:=Tw.zeroValue4
  t5:=Tw.underlying5
  a5:=Tw.isAgg5
  z5:=Tw.sizeOf5
  v5:=Tw.zeroValue5
  t9:=Tw.underlying9
  a9:=Tw.isAgg9
  z9:=Tw.sizeOf9
  v9:=Tw.zeroValue9
  t22:=Tw.underlying32
  a22:=Tw.isAgg32
  z22:=Tw.sizeOf32
  v22:=Tw.zeroValue32
  t25:=Tw.underlying108
  a25:=Tw.isAgg108
  z25:=Tw.sizeOf108
  v25:=Tw.zeroValue108
  t39:=Tw.underlying130
  a39:=Tw.isAgg130
  z39:=Tw.sizeOf130
  v39:=Tw.zeroValue130
  t45:=Tw.underlying150
  a45:=Tw.isAgg150
  z45:=Tw.sizeOf150
  v45:=Tw.zeroValue150
  t46:=Tw.underlying151
  a46:=Tw.isAgg151
  z46:=Tw.sizeOf151
  v46:=Tw.zeroValue151
  t50:=Tw.underlying105
  a50:=Tw.isAgg105
  z50:=Tw.sizeOf105
  v50:=Tw.zeroValue105
  t53:=Tw.underlying123
  a53:=Tw.isAgg123
  z53:=Tw.sizeOf123
  v53:=Tw.zeroValue123
  t55:=Tw.underlying120
  a55:=Tw.isAgg120
  z55:=Tw.sizeOf120
  v55:=Tw.zeroValue120
  t66:=Tw.underlying169
  a66:=Tw.isAgg169
  z66:=Tw.sizeOf169
  v66:=Tw.zeroValue169
  t70:=Tw.underlying172
  a70:=Tw.isAgg172
  z70:=Tw.sizeOf172
  v70:=Tw.zeroValue172
  t76:=Tw.underlying176
  a76:=Tw.isAgg176
  z76:=Tw.sizeOf176
  v76:=Tw.zeroValue176
  t77:=Tw.underlying177
  a77:=Tw.isAgg177
  z77:=Tw.sizeOf177
  v77:=Tw.zeroValue177}
end
namespace Rgf
open Go.Shelf Go.RowKit Go.Lib Go.Sort Sx Num Rga Rgl Rgm Rgn Rge
theorem aW6{P:Program}{f:FuncId}(hent:∀args w,(callFunc f args).run P w=.ok (.enter f args) w)
  {paths:List NP}{γ:Type}{dec:List SV->List SO->Option γ}{args:γ->List SV}{objs:γ->List SO}{pre:γ->Prop}{res:γ->SV}{post:γ->List SO}
  (h:∀g,pre g->∀(vals:Array Value)(w:World)(X:Fr)(E:Env),(∀k,X.nm k≠none->k<paths.length)->Rep w X (objs g) E w->vals.size=(args g).length->
   (∀i<(args g).length,R w (Xo X E (objs g)) E ((args g).getD i .any) (vals.getD i undef))->
   Calls P f vals w λe w'=>∃v Es,e=.returned v/\Rep w X (post g) Es w'/\R w' (Xo X Es (post g)) Es (res g) v):aa5 P (af2 f paths dec args objs pre res post):=by
 refine⟨hent,λl H HF nm y he hns hrun=>?_,λl H nm y hrun hask w0 X0 E w hrep hfree vals ha=>?_⟩
 ·simp only[af2]at hrun⊢;split at hrun
  case h_2=>cases hrun
  rename_i ks hks;split at hrun
  case h_2=>cases hrun
  rename_i hnd;simp only[lr]at hnd;rw[az2 he paths [] ks hks];simp only[aX3 he hnd.2,hnd.1,hnd.2,Bool.and_self];exact hrun
 ·simp only[af2]at hrun;split at hrun
  case h_2=>cases hrun
  rename_i ks hks;split at hrun
  case h_2=>cases hrun
  rename_i hnd;simp only[lr]at hnd;obtain⟨hn,hal⟩:=hnd;split at hrun
  case h_2=>cases hrun
  rename_i g hdec;cases hrun;obtain⟨⟨hle,⟨hpre⟩⟩,hholes⟩:=aA7 hask;obtain⟨hkn,hkl⟩:=ar7 hrep ha paths [] ks (λk hk=>by cases hk) (aQ7 hholes) hks;have hkl':ks.length=paths.length:=by simpa using hkl
  unfold cj0 at hle;split at hle
  case h_2=>exact hle.elim
  rename_i hll;have hll':=lK hll;rw[lY]at hll';obtain⟨hs,hxs⟩:=hrep.sml hn hal;have hv:=hrep.aZ3 hal;have hnm:∀k,(smlF X0 H E ks).nm k≠none->k<paths.length:=λk hk=>by
   cases he:smlE E ks k with
   |none=>exact absurd he hk
   |some e=>
    obtain⟨k',hk',_⟩:=an6 he;have:=(lT.1 hk').1
    omega
  have hT:=am2 (args g).length vals (l.map (sml (aa4 H ks) ks)) w (Xo (smlF X0 H E ks) (smlE E ks) ((aa4 H ks).map (smlO (aa4 H ks) ks))) (smlE E ks) (by rw[ha.1,lY]) (by rw[lY,hll'];exact lh _) (λi hi=>by
   rw[lY]at hi;have e1:(l.map (sml (aa4 H ks) ks)).getD i .any=sml (aa4 H ks) ks (l.getD i .any):=by
    rw[la,lW,la,lw hi];rfl
   rw[e1];exact bj7 hxs hv (ha.2 i hi))
  have hvs:vals.size=(args g).length:=by rw[ha.1,hll']
  have hst:StR w (smlF X0 H E ks) (args g).length ⟨as7 0 (l.map (sml (aa4 H ks) ks)),(aa4 H ks).map (smlO (aa4 H ks) ks)⟩ ⟨vals++Array.replicate ((args g).length-vals.size) undef,[]⟩ w:=⟨smlE E ks,hs,hT.1,aA4.nil _ _ _,hT.2⟩
  have hst2:=hst.le (m:=((aa4 H ks).map (smlO (aa4 H ks) ks)).length) (λk hk=>by rw[lY,aa4,lY,hkl'];exact hnm k hk) hle.get.1 hle.get.2;obtain⟨E2,hrep2,hsz2,_,hT2⟩:=hst2;refine(h g hpre vals w (smlF X0 H E ks) E2 hnm hrep2 hvs (λi hi=>?_)).mono ?_
  ·have:=hT2 i hi
   rw[aG1 _ _ _ (lB _),lah]at this;rw[hvs,uE]at this;simpa using this
  ·rintro e w' ⟨v,Es,rfl,h3,h4⟩;exact⟨v,rfl,Goes.b57 hrep hn hkn hal h3 h4⟩
instance:Inhabited Rn:=⟨⟨0,0,0⟩⟩
def cl(v:Int):Int:=if v < -8192 then -8192 else if 8192<v then 8192 else v
theorem as6{v:Int}(h1 : -8192<=v)(h2:v<=8192):cl v=v:=by
 unfold cl;rw[lu (by omega),lu (by omega)]
theorem cl_b(v:Int) : -8192<=cl v/\cl v<=8192:=by
 unfold cl;split
 ·omega
 ·split<;>omega
def enR(r:Rn):List Value:=[.int .i64 (cl r.y),.int .i64 (cl r.x0),.int .i64 (cl r.x1)]
def cfR(x y:Rn):Int:=orI (cl x.y-cl y.y) (cl x.x0-cl y.x0)
theorem lt_iff(x y:Rn):ltOf cfR x y=true<->(cl x.y<cl y.y\/(cl x.y=cl y.y/\cl x.x0<cl y.x0)):=by
 unfold ltOf cfR orI;rw[decide_eq_true_iff];split<;>omega
theorem au5(x y:Rn):ltOf cfR x y=false<->¬ (cl x.y<cl y.y\/(cl x.y=cl y.y/\cl x.x0<cl y.x0)):=by
 rw[<-lt_iff,uj]
theorem swo:SWO (ltOf cfR) where
 irrefl x:=by rw[au5];omega
 trans x y z h1 h2:=by rw[lt_iff]at *;omega
 ntrans x y z h1 h2:=by rw[au5]at *;omega
theorem bp7(blk off sz:Nat)(w:World):CmpLays Tw.prog 59 #[] enR 3 cfR blk off sz w:=λ_ _ _ _ x y=>by
 have a1:=cl_b x.y;have a2:=cl_b y.y;have a3:=cl_b x.x0;have a4:=cl_b y.x0;exact ba0 (cl x.y) (cl x.x0) (cl x.x1) (cl y.y) (cl y.x0) (cl y.x1) _ (by omega) (by omega)
def srtA(d:Array Rn):Array Rn:=pdq (ltOf cfR) d 0 d.size (Lib.bitLen d.size) true true
def srt(g:Rg):List Rn:=(srtA g.L.toArray).toList
theorem ag4(d:Array Rn):PermIn 0 d.size d (srtA d)/\SortedIn (ltOf cfR) 0 d.size (srtA d):=
 pdq_sorts (ltOf cfR) swo d 0 d.size (Lib.bitLen d.size) true true (lB _) (lh _) (Or.inl rfl)
theorem ar3(g:Rg):(srt g).length=g.n:=by
 have:=(ag4 g.L.toArray).1.1
 unfold srt;rw[lC,this,xw,Rg.len]
theorem al3(g:Rg):(srt g).Perm g.L:=by
 have h:=(ag4 g.L.toArray).1;have h2:=h.2.2;have e1:((srtA g.L.toArray).extract 0 g.L.toArray.size)=srtA g.L.toArray:=by rw[<-h.1];simp
 have e2:(g.L.toArray.extract 0 g.L.toArray.size)=g.L.toArray:=by simp
 rw[e1,e2]at h2;unfold srt;simpa using h2
theorem aw1(g:Rg){i j:Nat}(hij:i<j)(hj:j<g.n):ltOf cfR (rI (srt g) j) (rI (srt g) i)=false:=by
 have h:=(ag4 g.L.toArray).2 i j (lB _) hij (by rw[xw,Rg.len];exact hj);have hs:(srtA g.L.toArray).size=g.n:=by rw[(ag4 g.L.toArray).1.1,xw,Rg.len]
 have e:∀k<g.n,rI (srt g) k=(srtA g.L.toArray)[k]!:=λk hk=>by
  unfold rI srt;rw[getElem!_pos _ k (by omega),la,lw (by rw[lC];omega)];simp
 rw[e i (by omega),e j hj];exact h
theorem aB8{w w':World}{X:Fr}{E:Env}{n:Nat}{g g':Nat->Nat->SV}{T:TypeId}{v:Value}{us:Nat->Option Nat}(h:Rep w X [.row 0 n 3 g T] E w)(he:E 0=some (.slc 0 v us))
  (hos:w'.os=w.os) (htp:w'.tape=w.tape) (hout:w'.output=w.output) (hsz:w.heap.size<=w'.heap.size)
  (hblk:∀k<w.heap.size,(∀b,holds (.slc 0 v us) (.row 0 n 3 g T) b->k≠b)->w'.heap[k]?=w.heap[k]?)
  (hok:∃xs,ah4 w' T 3 v n xs/\∀i j,i<n->j<3->ab1 (xs.getD (i*3+j) undef)/\∀X',R w' X' E0 (g' i j) (xs.getD (i*3+j) undef)):
  Rep w X [.row 0 n 3 g' T] E w':=by
 have hd:∀k e,E k=some e->k=0/\e=.slc 0 v us:=λk e hk=>by
  have h1:=h.dom k e hk;have h0:k=0:=by simp at h1;omega
  subst h0;rw[he]at hk;exact⟨rfl,(sj hk).symm⟩
 have hh:∀b,holds (.slc 0 v us) (.row 0 n 3 g' T) b->holds (.slc 0 v us) (.row 0 n 3 g T) b:=λb hb=>hb
 refine⟨⟨hos,htp,hout,hsz,λk hk hdk=>hblk k hk (λb hb hkb=>?_)⟩,h.x0,h.nm,h.dom,λk e hk=>?_,λk e b hk hb=>?_,λk k' e e' b hk hk' hb hb'=>?_⟩
 ·rcases h.low 0 _ b he hb with h1|h1
  ·omega
  ·exact hdk (hkb▸h1)
 ·obtain⟨rfl,rfl⟩:=hd k e hk;obtain⟨xs,h1,h2⟩:=hok;exact⟨rfl,xs,h1,λi j hi hj=>⟨(h2 i j hi hj).1,(h2 i j hi hj).2 _⟩⟩
 ·obtain⟨rfl,rfl⟩:=hd k e hk;exact h.low 0 _ b he (hh b hb)
 ·rw[(hd k e hk).1,(hd k' e' hk').1]
theorem aF2{oo:Nat}{w:World}{b:Nat}{cur:Array Value}{T:TypeId}(hb:w.heap[b]?=some (.cells cur T (0,0)))(m:Nat)(d:Array Rn)(os:Array Obj):
  (sortWorldK enR 3 w b oo m d os).heap[b]?=some (.cells (putCells id oo (flatK enR 3 d) cur) T (0,0)):=by
 have hlt:b<w.heap.size:=lt_of_block hb;show((w.heap.modify b (onCells (putCells id oo (flatK enR 3 d))))++os)[b]?=_;rw[xk (by rw[uy];exact hlt),uh,ll rfl,hb];rfl
theorem aF1{oo:Nat}{w:World}{b k:Nat}(hk:k<w.heap.size)(hne:k≠b)(m:Nat)(d:Array Rn)(os:Array Obj):(sortWorldK enR 3 w b oo m d os).heap[k]?=w.heap[k]?:=by
 show((w.heap.modify b (onCells (putCells id oo (flatK enR 3 d))))++os)[k]?=_;rw[xk (by rw[uy];exact hk),uh,lu (xG hne)]
theorem aO7{oo:Nat}(w:World)(b m:Nat)(d:Array Rn)(os:Array Obj):w.heap.size<=(sortWorldK enR 3 w b oo m d os).heap.size:=by
 show _<=((w.heap.modify b (onCells (putCells id oo (flatK enR 3 d))))++os).size;rw[Array.size_append,uy];exact uQ _ _
theorem aB9{r:Rn}{j:Nat}(hj:j<3)(P:SV->Value->Prop)(h0:P (.int .i64 r.y) (.int .i64 r.y))(h1:P (.int .i64 r.x0) (.int .i64 r.x0))(h2:P (.int .i64 r.x1) (.int .i64 r.x1))(ok:okR r):P (lst (rnL r) j) ((enR r)[j]!):=by
 obtain⟨⟨⟨a1,a2⟩,⟨a3,a4⟩,a5,a6⟩,a7⟩:=ok;unfold enR;rw[as6 a1 (by omega),as6 a3 a4,as6 a5 a6];match j,hj with
 |0,_=>exact h0
 |1,_=>exact h1
 |2,_=>exact h2
def soD:List SV->List SO->Option Rg
 | [_,.fn _ _ _],[.row _ n _ g _]=>some ⟨n,λi=>rnD (g i)⟩
 |_,_=>none
def rowS(ver:Nat)(n:Nat)(f:Nat->Rn):SO:= .row ver n 3 (λi=>lst (rnL (f i))) 58
def bc8:FSpec:=af2 58 [.arg 0] soD (λ_=>[.osl 0 0,.fn 59 0 (lst [])]) (λg=>[rowS 0 g.n g.f]) (λg=>(∀i<g.n,okR (g.f i))/\g.n<=4294967296) (λ_=> .tup 0 (lst [])) (λg=>[rowS 0 g.n (rI (srt g))])
theorem bm8:aa5 Tw.prog bc8:=by
 refine aW6 (enters_of Tw.func58 (by kernel_rfl) rfl) (λg hg vals w X E hnm hrep hsz hr=>?_);obtain⟨hok,hn⟩:=hg;have h0:=hr 0 (by show 0<2;decide);have h1:=hr 1 (by show 1<2;decide);obtain⟨v0,v1,rfl⟩:∃v0 v1,vals = #[v0,v1]:=by
  have hs:vals.size=2:=hsz;exact⟨vals[0],vals[1],by
   apply Array.ext
   ·exact hs
   ·intro i hi1 hi2;have:i=0\/i=1:=by omega
    rcases this with rfl|rfl<;>rfl⟩
 have h0:R w (Xo X E [rowS 0 g.n g.f]) E (.osl 0 0) v0:=h0;have h1:R w (Xo X E [rowS 0 g.n g.f]) E (.fn 59 0 (lst [])) v1:=h1;have hv1:v1=.func (.func 59) #[] #[]:=by
  cases h1 with
  |fn hs hr=>rw[xZ.1 hs]
 subst hv1;obtain⟨us,he⟩:∃us,E 0=some (.slc 0 v0 us):=by
  cases h0 with
  |osl he _=>exact⟨_,he⟩
  |oslOld he hl _=>
   have:=(hrep.ok 0 _ he).1
   omega
 obtain⟨_,xs,hown,hxs⟩:=hrep.ok 0 _ he;have rtup:∀(w':World)(X':Nat->Prop)(E':Env),R w' X' E' (.tup 0 (lst [])) (.tuple #[]):=λ_ _ _=> .tup rfl (λi hi=>absurd hi (ln _))
 rcases hown with⟨a,rfl,hz,rfl⟩|⟨b,oo,cap,cur,rfl,hb,hlc,hcap,hcs,htake,hxl⟩
 ·refine(AnyF.slices_SortFunc_none Tw.bm0 a 0 (.func (.func 59) #[] #[]) w).mono ?_;rintro e w' ⟨rfl,rfl⟩;refine⟨.tuple #[],E,rfl,aB8 hrep he rfl rfl rfl (lh _) (λ_ _ _=>rfl) ⟨[],.inl ⟨a,rfl,hz,rfl⟩,λi j hi=>?_⟩,rtup _ _ _⟩;rw[hz]at hi;exact absurd hi (ln _)
 ·have hd:g.L.toArray.size=g.n:=by rw[xw,Rg.len]
  have gL:∀i<g.n,(g.L.toArray)[i]! = g.f i:=λi hi=>by
   rw[getElem!_pos _ i (by omega)];simp[Rg.L]
  have as2:∀j<g.n*3,cur[oo+j]?=some ((flatK enR 3 g.L.toArray)[j]!):=λj hj=>by
   have hij:j/3*3+j%3=j:=by omega
   have hi:j/3<g.n:=by omega
   have hj3:j%3<3:=by omega
   obtain⟨_,hR⟩:=hxs (j/3) (j%3) hi hj3;rw[hij]at hR;have ex:xs.getD j undef=(cur[oo+j]?).getD undef:=by
    rw[<-htake,la,ul hj,xx];simp
   have hlt:oo+j<cur.size:=by rw[hcs];have:=lk 3 hlc;omega
   rw[ex]at hR;rw[lF hlt]at hR⊢;rw[get_flatK _ _ _ _ (by rw[hd];exact hj),gL _ hi];congr 1;refine aB9 (P:=λs u=>R w (Xo X E [rowS 0 g.n g.f]) E0 s cur[oo+j]->cur[oo+j]=u) hj3 ?_ ?_ ?_ (hok _ hi) hR
   ·intro h;exact ah3 h
   ·intro h;exact ah3 h
   ·intro h;exact ah3 h
  have hH:HoldsK enR 3 w b oo g.L.toArray:=λj hj=>by
   rw[size_flatK,hd]at hj;have hc:=as2 j hj;refine⟨?_,?_⟩
   ·unfold World.cell?;rw[hb];exact hc
   ·unfold World.frozen?;rw[hb];simp
  have hcon:=AnyQ.slices_SortFunc_eq Tw.bm0 3 (λw=>by kernel_rfl) (λw=>by kernel_rfl) enR (λ_=>rfl) (λx v hv=>by
   simp only[enR,xe,xi,or_false]at hv;rcases hv with rfl|rfl|rfl<;>rfl) cfR swo 59 #[] b oo (cap+1) g.L.toArray w (enters_of Tw.func59 (by kernel_rfl) rfl) (bp7 _ _ _ _) hH (lt_of_block hb) (by rw[hd];omega)
  rw[hd]at hcon;refine hcon.mono ?_;rintro e w' ⟨rfl,m,os,rfl⟩;have es:pdq (ltOf cfR) g.L.toArray 0 g.n (Lib.bitLen g.n) true true=srtA g.L.toArray:=by unfold srtA;rw[hd]
  rw[es];have hsd:(srtA g.L.toArray).size=g.n:=by rw[(ag4 g.L.toArray).1.1,hd]
  have pc:∀j<g.n*3,(putCells id oo (flatK enR 3 (srtA g.L.toArray)) cur)[oo+j]?=some ((flatK enR 3 (srtA g.L.toArray))[j]!):=λj hj=>by
   have hlt:oo+j<cur.size:=by rw[hcs];have:=lk 3 hlc;omega
   unfold putCells;rw[Array.getElem?_mapIdx,lF hlt];simp only[lD];rw[ll ⟨uQ _ _,by rw[size_flatK,hsd];omega⟩,xM];rfl
  have psz:(putCells id oo (flatK enR 3 (srtA g.L.toArray)) cur).size=cur.size:=by unfold putCells;simp
  refine⟨.tuple #[],E,rfl,aB8 hrep he rfl rfl rfl (aO7 _ _ _ _ _) (λk hk hne=>aF1 hk (hne b rfl) _ _ _) ⟨((putCells id oo (flatK enR 3 (srtA g.L.toArray)) cur).toList.drop oo).take (g.n*3),.inr ⟨b,oo,cap,_,rfl,aF2 hb m _ os,hlc,hcap,by rw[psz,hcs],rfl,?_⟩,λi j hi hj=>?_⟩,rtup _ _ _⟩
  ·rw[xu,xH,lC,psz,hcs];have:=lk 3 hlc
   omega
  ·have hk:i*3+j<g.n*3:=by omega
   have ex:(((putCells id oo (flatK enR 3 (srtA g.L.toArray)) cur).toList.drop oo).take (g.n*3)).getD (i*3+j) undef=(enR (rI (srt g) i))[j]!:=by
    rw[la,ul hk,xx,lM,pc _ hk,get_flatK _ _ _ _ (by rw[hsd];exact hk),show(i*3+j)/3=i by omega,show(i*3+j)%3=j by omega];have e:(srtA g.L.toArray)[i]! = rI (srt g) i:=by
     unfold rI srt;rw[getElem!_pos _ i (by omega),la,lw (by rw[lC];omega)];simp
    rw[e];rfl
   rw[ex];have okd:okR (rI (srt g) i):=by
    have hm:rI (srt g) i∈srt g:=by
     unfold rI;rw[la,lw (by rw[ar3];exact hi)];exact xv _
    have:=(al3 g).mem_iff.1 hm
    obtain⟨k,hk,e⟩:=lX.1 this;rw[<-e];exact hok k (lG.1 hk)
   exact aB9 (P:=λs u=>ab1 u/\∀X':Nat->Prop,R (sortWorldK enR 3 w b oo m (srtA g.L.toArray) os) X' E0 s u) hj ⟨rfl,λ_=> .int⟩ ⟨rfl,λ_=> .int⟩ ⟨rfl,λ_=> .int⟩ okd
end Rgf
section
open Go Go.Proofs Go.Shelf
def Tw.bm1:Go.Shelf.Ren:=⟨λ| 6=>51|15=>67|14=>66|28=>97|29=>98|20=>89|21=>90|22=>91|23=>92|24=>93|25=>94|26=>95|27=>96|46=>112|47=>113|48=>114|49=>115|50=>116|57=>120|n=>n,λ| 22=>96|24=>98|25=>101|3=>3|39=>130|0=>0|53=>123|55=>120|4=>4|46=>151|45=>150|50=>105|5=>5|9=>9|66=>169|70=>172|76=>176|77=>177|n=>n,λ| n=>n⟩
theorem Tw.bJ2:SlLaysF0.n6 Tw.prog Tw.bm1:={
  mixed:=by kernel_rfl
  f6:=⟨Tryz.f51.name,by decide,Tw.func51.trans (congrArg some (by kernel_rfl))⟩
  f14:=⟨Tryz.f66.name,by decide,Tw.func66.trans (congrArg some (by kernel_rfl))⟩
  f15:=Tw.func67.trans (congrArg some (by kernel_rfl))
  f20:=⟨Tryz.f89.name,by decide,Tw.func89.trans (congrArg some (by kernel_rfl))⟩
  f21:=⟨Tryz.f90.name,by decide,Tw.func90.trans (congrArg some (by kernel_rfl))⟩
  f22:=⟨Tryz.f91.name,by decide,Tw.func91.trans (congrArg some (by kernel_rfl))⟩
  f23:=⟨Tryz.f92.name,by decide,Tw.func92.trans (congrArg some (by kernel_rfl))⟩
  f24:=⟨Tryz.f93.name,by decide,Tw.func93.trans (congrArg some (by kernel_rfl))⟩
  f25:=⟨Tryz.f94.name,by decide,Tw.func94.trans (congrArg some (by kernel_rfl))⟩
  f26:=⟨Tryz.f95.name,by decide,Tw.func95.trans (congrArg some (by kernel_rfl))⟩
  f27:=⟨Tryz.f96.name,by decide,Tw.func96.trans (congrArg some (by kernel_rfl))⟩
  f28:=Tw.func97.trans (congrArg some (by kernel_rfl))
  f29:=Tw.func98.trans (congrArg some (by kernel_rfl))
  f46:=⟨Tryz.f112.name,by decide,Tw.func112.trans (congrArg some (by kernel_rfl))⟩
  f47:=Tw.func113.trans (congrArg some (by kernel_rfl))
  f48:=Tw.func114.trans (congrArg some (by kernel_rfl))
  f49:=⟨Tryz.f115.name,by decide,Tw.func115.trans (congrArg some (by kernel_rfl))⟩
  f50:=⟨Tryz.f116.name,by decide,Tw.func116.trans (congrArg some (by kernel_rfl))⟩
  f57:=⟨Tryz.f120.name,by decide,Tw.func120.trans (congrArg some (by kernel_rfl))⟩
  t0:=Tw.underlying0
  a0:=Tw.isAgg0
  z0:=Tw.sizeOf0
  v0:=Tw.zeroValue0
  t3:=Tw.underlying3
  a3:=Tw.isAgg3
  z3:=Tw.sizeOf3
  v3:=Tw.zeroValue3
  t4:=Tw.underlying4
  a4:=Tw.isAgg4
  z4:=Tw.sizeOf4
  v4:=Tw.zeroValue4
  t5:=Tw.underlying5
  a5:=Tw.isAgg5
  z5:=Tw.sizeOf5
  v5:=Tw.zeroValue5
  t9:=Tw.underlying9
  a9:=Tw.isAgg9
  z9:=Tw.sizeOf9
  v9:=Tw.zeroValue9
  t22:=Tw.underlying96
  a22:=Tw.isAgg96
  z22:=Tw.sizeOf96
  v22:=Tw.zeroValue96
  t25:=Tw.underlying101
  a25:=Tw.isAgg101
  z25:=Tw.sizeOf101
  v25:=Tw.zeroValue101
  t39:=Tw.underlying130
  a39:=Tw.isAgg130
  z39:=Tw.sizeOf130
  v39:=Tw.zeroValue130
  t45:=Tw.underlying150
  a45:=Tw.isAgg150
  z45:=Tw.sizeOf150
  v45:=Tw.zeroValue150
  t46:=Tw.underlying151
  a46:=Tw.isAgg151
  z46:=Tw.sizeOf151
  v46:=Tw.zeroValue151
  t50:=Tw.underlying105
  a50:=Tw.isAgg105
  z50:=Tw.sizeOf105
  v50:=Tw.zeroValue105
  t53:=Tw.underlying123
  a53:=Tw.isAgg123
  z53:=Tw.sizeOf123
  v53:=Tw.zeroValue123
  t55:=Tw.underlying120
  a55:=Tw.isAgg120
  z55:=Tw.sizeOf120
  v55:=Tw.zeroValue120
  t66:=Tw.underlying169
  a66:=Tw.isAgg169
  z66:=Tw.sizeOf169
  v66:=Tw.zeroValue169
  t70:=Tw.underlying172
  a70:=Tw.isAgg172
  z70:=Tw.sizeOf172
  v70:=Tw.zeroValue172
  t76:=Tw.underlying176
  a76:=Tw.isAgg176
  z76:=Tw.sizeOf176
  v76:=Tw.zeroValue176
  t77:=Tw.underlying177
  a77:=Tw.isAgg177
  z77:=Tw.sizeOf177
  v77:=Tw.zeroValue177}
end
namespace Ows
open Go.Shelf Go.RowKit Go.Lib Go.Sort Sx Num Rga Rgl Rgm Rgn Rge Rgf
structure Ow where
 y:Int
 x0:Int
 x1:Int
 k:Int
def owL(o:Ow):List SV:=[.int .i64 o.y,.int .i64 o.x0,.int .i64 o.x1,.int .i64 o.k]
def owD(g:Nat->SV):Ow:=⟨Sx.intOf (g 0),Sx.intOf (g 1),Sx.intOf (g 2),Sx.intOf (g 3)⟩
def oI(L:List Ow)(i:Nat):Ow:=L.getD i ⟨0,0,0,0⟩
structure Og where
 n:Nat
 f:Nat->Ow
def Og.L(g:Og):List Ow:=(List.range g.n).map g.f
theorem Og.len(g:Og):g.L.length=g.n:=by simp[Og.L]
theorem Og.oI{g:Og}{i:Nat}(h:i<g.n):oI g.L i=g.f i:=by
 unfold Ows.oI Og.L;rw[la,lW,uz h];rfl
def okO(o:Ow):Prop:=((-8192<=o.y/\o.y<=8192)/\(-8192<=o.x0/\o.x0<=8192)/\ -8192<=o.x1/\o.x1<=8192)/\ -8192<=o.k/\o.k<=8192
def or3(x y z:Int):Int:=if x=0 then(if y=0 then z else y)else x
theorem bX4(x y z:Int)(b:Nat)(W:World)(h0:W.cell? ⟨b,0,none⟩=some (.int .i64 x))(h1:W.cell? ⟨b,1,none⟩=some (.int .i64 y))(h2:W.cell? ⟨b,2,none⟩=some (.int .i64 z)):
  Calls Tw.prog 53 #[.slice (some ⟨b,0,none⟩) 3 3] W λe w'=>e=.returned (.int .i64 (or3 x y z))/\w'=W:=by
 by_cases hx:x=0
 ·by_cases hy:y=0
  ·have e:or3 x y z=z:=by unfold or3;rw[ll hx,ll hy]
   rw[e];clear e;subst hx;subst hy;by_cases hz:z=0
   ·subst hz;go_enter Tw.func53,Tw.ntmps53
    go_wp2
    refine wp_loop_rounds 4 ?_;rw[rounds_succ];go_wp2
    rw[rounds_succ];go_wp2
    rw[rounds_succ];go_wp2
    rw[rounds_succ];go_wp2
    go_ret
    exact⟨rfl,rfl⟩
   ·go_enter Tw.func53,Tw.ntmps53
    go_wp2
    refine wp_loop_rounds 4 ?_;rw[rounds_succ];go_wp2
    rw[rounds_succ];go_wp2
    rw[rounds_succ];go_wp2
    go_ret
    exact⟨rfl,rfl⟩
  ·have e:or3 x y z=y:=by unfold or3;rw[ll hx,lu hy]
   rw[e];clear e;subst hx;go_enter Tw.func53,Tw.ntmps53
   go_wp2
   refine wp_loop_rounds 4 ?_;rw[rounds_succ];go_wp2
   rw[rounds_succ];go_wp2
   go_ret
   exact⟨rfl,rfl⟩
 ·have e:or3 x y z=x:=lu hx;rw[e];clear e;go_enter Tw.func53,Tw.ntmps53
  go_wp2
  refine wp_loop_rounds 4 ?_;rw[rounds_succ];go_wp2
  go_ret
  exact⟨rfl,rfl⟩
theorem ba0(a0 a1 a2 a3 b0 b1 b2 b3:Int)(W:World)(h0 : -9223372036854775808<=a0-b0/\a0-b0<=9223372036854775807)(h1 : -9223372036854775808<=a1-b1/\a1-b1<=9223372036854775807)(h2 : -9223372036854775808<=a3-b3/\a3-b3<=9223372036854775807):
  Calls Tw.prog 52 #[.agg #[.int .i64 a0,.int .i64 a1,.int .i64 a2,.int .i64 a3],.agg #[.int .i64 b0,.int .i64 b1,.int .i64 b2,.int .i64 b3]] W λe w'=>e=.returned (.int .i64 (or3 (a0-b0) (a1-b1) (a3-b3)))/\∃q os',w'=grow (W.drewN q) os':=by
 have hcon:=λb W' h0 h1 h2=>bX4 (a0-b0) (a1-b1) (a3-b3) b W' h0 h1 h2
 generalize or3 (a0-b0) (a1-b1) (a3-b3)=r at hcon⊢;go_enter Tw.func52,Tw.ntmps52
 go_wp2_with (go_at_call 53;refine(hcon _ _ (aE1 (by simp) rfl) (aE1 (by simp) rfl) (aE1 (by simp) rfl)).mono ?_;rintro e w' ⟨rfl,rfl⟩)
 go_ret
 exact⟨rfl,0,_,by rw[alloc_eq_grow,alloc_eq_grow,alloc_eq_grow,grow_grow,grow_grow];rfl⟩
instance:Inhabited Ow:=⟨⟨0,0,0,0⟩⟩
def enR(r:Ow):List Value:=[.int .i64 (cl r.y),.int .i64 (cl r.x0),.int .i64 (cl r.x1),.int .i64 (cl r.k)]
def cfR(x y:Ow):Int:=or3 (cl x.y-cl y.y) (cl x.x0-cl y.x0) (cl x.k-cl y.k)
theorem lt_iff(x y:Ow):ltOf cfR x y=true<->(cl x.y<cl y.y\/(cl x.y=cl y.y/\(cl x.x0<cl y.x0\/(cl x.x0=cl y.x0/\cl x.k<cl y.k)))):=by
 unfold ltOf cfR or3;rw[decide_eq_true_iff];split
 ·split<;>omega
 ·omega
theorem au5(x y:Ow):ltOf cfR x y=false<->¬ (cl x.y<cl y.y\/(cl x.y=cl y.y/\(cl x.x0<cl y.x0\/(cl x.x0=cl y.x0/\cl x.k<cl y.k)))):=by
 rw[<-lt_iff,uj]
theorem swo:SWO (ltOf cfR) where
 irrefl x:=by rw[au5];omega
 trans x y z h1 h2:=by rw[lt_iff]at *;omega
 ntrans x y z h1 h2:=by rw[au5]at *;omega
theorem bp7(blk off sz:Nat)(w:World):CmpLays Tw.prog 52 #[] enR 4 cfR blk off sz w:=λ_ _ _ _ x y=>by
 have a1:=cl_b x.y;have a2:=cl_b y.y;have a3:=cl_b x.x0;have a4:=cl_b y.x0;have a5:=cl_b x.k;have a6:=cl_b y.k;exact ba0 (cl x.y) (cl x.x0) (cl x.x1) (cl x.k) (cl y.y) (cl y.x0) (cl y.x1) (cl y.k) _ (by omega) (by omega) (by omega)
def srtA(d:Array Ow):Array Ow:=pdq (ltOf cfR) d 0 d.size (Lib.bitLen d.size) true true
def srt(g:Og):List Ow:=(srtA g.L.toArray).toList
theorem ag4(d:Array Ow):PermIn 0 d.size d (srtA d)/\SortedIn (ltOf cfR) 0 d.size (srtA d):=
 pdq_sorts (ltOf cfR) swo d 0 d.size (Lib.bitLen d.size) true true (lB _) (lh _) (Or.inl rfl)
theorem ar3(g:Og):(srt g).length=g.n:=by
 have:=(ag4 g.L.toArray).1.1
 unfold srt;rw[lC,this,xw,Og.len]
theorem al3(g:Og):(srt g).Perm g.L:=by
 have h:=(ag4 g.L.toArray).1;have h2:=h.2.2;have e1:((srtA g.L.toArray).extract 0 g.L.toArray.size)=srtA g.L.toArray:=by rw[<-h.1];simp
 have e2:(g.L.toArray.extract 0 g.L.toArray.size)=g.L.toArray:=by simp
 rw[e1,e2]at h2;unfold srt;simpa using h2
theorem aw1(g:Og){i j:Nat}(hij:i<j)(hj:j<g.n):ltOf cfR (oI (srt g) j) (oI (srt g) i)=false:=by
 have h:=(ag4 g.L.toArray).2 i j (lB _) hij (by rw[xw,Og.len];exact hj);have hs:(srtA g.L.toArray).size=g.n:=by rw[(ag4 g.L.toArray).1.1,xw,Og.len]
 have e:∀k<g.n,oI (srt g) k=(srtA g.L.toArray)[k]!:=λk hk=>by
  unfold oI srt;rw[getElem!_pos _ k (by omega),la,lw (by rw[lC];omega)];simp
 rw[e i (by omega),e j hj];exact h
theorem aB8{w w':World}{X:Fr}{E:Env}{n:Nat}{g g':Nat->Nat->SV}{T:TypeId}{v:Value}{us:Nat->Option Nat}(h:Rep w X [.row 0 n 4 g T] E w)(he:E 0=some (.slc 0 v us))
  (hos:w'.os=w.os) (htp:w'.tape=w.tape) (hout:w'.output=w.output) (hsz:w.heap.size<=w'.heap.size)
  (hblk:∀k<w.heap.size,(∀b,holds (.slc 0 v us) (.row 0 n 4 g T) b->k≠b)->w'.heap[k]?=w.heap[k]?)
  (hok:∃xs,ah4 w' T 4 v n xs/\∀i j,i<n->j<4->ab1 (xs.getD (i*4+j) undef)/\∀X',R w' X' E0 (g' i j) (xs.getD (i*4+j) undef)):
  Rep w X [.row 0 n 4 g' T] E w':=by
 have hd:∀k e,E k=some e->k=0/\e=.slc 0 v us:=λk e hk=>by
  have h1:=h.dom k e hk;have h0:k=0:=by simp at h1;omega
  subst h0;rw[he]at hk;exact⟨rfl,(sj hk).symm⟩
 have hh:∀b,holds (.slc 0 v us) (.row 0 n 4 g' T) b->holds (.slc 0 v us) (.row 0 n 4 g T) b:=λb hb=>hb
 refine⟨⟨hos,htp,hout,hsz,λk hk hdk=>hblk k hk (λb hb hkb=>?_)⟩,h.x0,h.nm,h.dom,λk e hk=>?_,λk e b hk hb=>?_,λk k' e e' b hk hk' hb hb'=>?_⟩
 ·rcases h.low 0 _ b he hb with h1|h1
  ·omega
  ·exact hdk (hkb▸h1)
 ·obtain⟨rfl,rfl⟩:=hd k e hk;obtain⟨xs,h1,h2⟩:=hok;exact⟨rfl,xs,h1,λi j hi hj=>⟨(h2 i j hi hj).1,(h2 i j hi hj).2 _⟩⟩
 ·obtain⟨rfl,rfl⟩:=hd k e hk;exact h.low 0 _ b he (hh b hb)
 ·rw[(hd k e hk).1,(hd k' e' hk').1]
theorem aF2{oo:Nat}{w:World}{b:Nat}{cur:Array Value}{T:TypeId}(hb:w.heap[b]?=some (.cells cur T (0,0)))(m:Nat)(d:Array Ow)(os:Array Obj):
  (sortWorldK enR 4 w b oo m d os).heap[b]?=some (.cells (putCells id oo (flatK enR 4 d) cur) T (0,0)):=by
 have hlt:b<w.heap.size:=lt_of_block hb;show((w.heap.modify b (onCells (putCells id oo (flatK enR 4 d))))++os)[b]?=_;rw[xk (by rw[uy];exact hlt),uh,ll rfl,hb];rfl
theorem aF1{oo:Nat}{w:World}{b k:Nat}(hk:k<w.heap.size)(hne:k≠b)(m:Nat)(d:Array Ow)(os:Array Obj):(sortWorldK enR 4 w b oo m d os).heap[k]?=w.heap[k]?:=by
 show((w.heap.modify b (onCells (putCells id oo (flatK enR 4 d))))++os)[k]?=_;rw[xk (by rw[uy];exact hk),uh,lu (xG hne)]
theorem aO7{oo:Nat}(w:World)(b m:Nat)(d:Array Ow)(os:Array Obj):w.heap.size<=(sortWorldK enR 4 w b oo m d os).heap.size:=by
 show _<=((w.heap.modify b (onCells (putCells id oo (flatK enR 4 d))))++os).size;rw[Array.size_append,uy];exact uQ _ _
theorem aB9{r:Ow}{j:Nat}(hj:j<4)(P:SV->Value->Prop)(h0:P (.int .i64 r.y) (.int .i64 r.y))(h1:P (.int .i64 r.x0) (.int .i64 r.x0))(h2:P (.int .i64 r.x1) (.int .i64 r.x1))(h3:P (.int .i64 r.k) (.int .i64 r.k))(ok:okO r):P (lst (owL r) j) ((enR r)[j]!):=by
 obtain⟨⟨⟨a1,a2⟩,⟨a3,a4⟩,a5,a6⟩,a7,a8⟩:=ok;unfold enR;rw[as6 a1 a2,as6 a3 a4,as6 a5 a6,as6 a7 a8];match j,hj with
 |0,_=>exact h0
 |1,_=>exact h1
 |2,_=>exact h2
 |3,_=>exact h3
def soD:List SV->List SO->Option Og
 | [_,.fn _ _ _],[.row _ n _ g _]=>some ⟨n,λi=>owD (g i)⟩
 |_,_=>none
def rowW(ver:Nat)(n:Nat)(f:Nat->Ow):SO:= .row ver n 4 (λi=>lst (owL (f i))) 98
def bc8:FSpec:=af2 51 [.arg 0] soD (λ_=>[.osl 0 0,.fn 52 0 (lst [])]) (λg=>[rowW 0 g.n g.f]) (λg=>(∀i<g.n,okO (g.f i))/\g.n<=4294967296) (λ_=> .tup 0 (lst [])) (λg=>[rowW 0 g.n (oI (srt g))])
theorem bm8:aa5 Tw.prog bc8:=by
 refine aW6 (enters_of Tw.func51 (by kernel_rfl) rfl) (λg hg vals w X E hnm hrep hsz hr=>?_);obtain⟨hok,hn⟩:=hg;have h0:=hr 0 (by show 0<2;decide);have h1:=hr 1 (by show 1<2;decide);obtain⟨v0,v1,rfl⟩:∃v0 v1,vals = #[v0,v1]:=by
  have hs:vals.size=2:=hsz;exact⟨vals[0],vals[1],by
   apply Array.ext
   ·exact hs
   ·intro i hi1 hi2;have:i=0\/i=1:=by omega
    rcases this with rfl|rfl<;>rfl⟩
 have h0:R w (Xo X E [rowW 0 g.n g.f]) E (.osl 0 0) v0:=h0;have h1:R w (Xo X E [rowW 0 g.n g.f]) E (.fn 52 0 (lst [])) v1:=h1;have hv1:v1=.func (.func 52) #[] #[]:=by
  cases h1 with
  |fn hs hr=>rw[xZ.1 hs]
 subst hv1;obtain⟨us,he⟩:∃us,E 0=some (.slc 0 v0 us):=by
  cases h0 with
  |osl he _=>exact⟨_,he⟩
  |oslOld he hl _=>
   have:=(hrep.ok 0 _ he).1
   omega
 obtain⟨_,xs,hown,hxs⟩:=hrep.ok 0 _ he;have rtup:∀(w':World)(X':Nat->Prop)(E':Env),R w' X' E' (.tup 0 (lst [])) (.tuple #[]):=λ_ _ _=> .tup rfl (λi hi=>absurd hi (ln _))
 rcases hown with⟨a,rfl,hz,rfl⟩|⟨b,oo,cap,cur,rfl,hb,hlc,hcap,hcs,htake,hxl⟩
 ·refine(AnyF.slices_SortFunc_none Tw.bJ2 a 0 (.func (.func 52) #[] #[]) w).mono ?_;rintro e w' ⟨rfl,rfl⟩;refine⟨.tuple #[],E,rfl,aB8 hrep he rfl rfl rfl (lh _) (λ_ _ _=>rfl) ⟨[],.inl ⟨a,rfl,hz,rfl⟩,λi j hi=>?_⟩,rtup _ _ _⟩;rw[hz]at hi;exact absurd hi (ln _)
 ·have hd:g.L.toArray.size=g.n:=by rw[xw,Og.len]
  have gL:∀i<g.n,(g.L.toArray)[i]! = g.f i:=λi hi=>by
   rw[getElem!_pos _ i (by omega)];simp[Og.L]
  have as2:∀j<g.n*4,cur[oo+j]?=some ((flatK enR 4 g.L.toArray)[j]!):=λj hj=>by
   have hij:j/4*4+j%4=j:=by omega
   have hi:j/4<g.n:=by omega
   have hj3:j%4<4:=by omega
   obtain⟨_,hR⟩:=hxs (j/4) (j%4) hi hj3;rw[hij]at hR;have ex:xs.getD j undef=(cur[oo+j]?).getD undef:=by
    rw[<-htake,la,ul hj,xx];simp
   have hlt:oo+j<cur.size:=by rw[hcs];have:=lk 4 hlc;omega
   rw[ex]at hR;rw[lF hlt]at hR⊢;rw[get_flatK _ _ _ _ (by rw[hd];exact hj),gL _ hi];congr 1;refine aB9 (P:=λs u=>R w (Xo X E [rowW 0 g.n g.f]) E0 s cur[oo+j]->cur[oo+j]=u) hj3 ?_ ?_ ?_ ?_ (hok _ hi) hR
   ·intro h;exact ah3 h
   ·intro h;exact ah3 h
   ·intro h;exact ah3 h
   ·intro h;exact ah3 h
  have hH:HoldsK enR 4 w b oo g.L.toArray:=λj hj=>by
   rw[size_flatK,hd]at hj;have hc:=as2 j hj;refine⟨?_,?_⟩
   ·unfold World.cell?;rw[hb];exact hc
   ·unfold World.frozen?;rw[hb];simp
  have hcon:=AnyQ.slices_SortFunc_eq Tw.bJ2 4 (λw=>by kernel_rfl) (λw=>by kernel_rfl) enR (λ_=>rfl) (λx v hv=>by
   simp only[enR,xe,xi,or_false]at hv;rcases hv with rfl|rfl|rfl|rfl<;>rfl) cfR swo 52 #[] b oo (cap+1) g.L.toArray w (enters_of Tw.func52 (by kernel_rfl) rfl) (bp7 _ _ _ _) hH (lt_of_block hb) (by rw[hd];omega)
  rw[hd]at hcon;refine hcon.mono ?_;rintro e w' ⟨rfl,m,os,rfl⟩;have es:pdq (ltOf cfR) g.L.toArray 0 g.n (Lib.bitLen g.n) true true=srtA g.L.toArray:=by unfold srtA;rw[hd]
  rw[es];have hsd:(srtA g.L.toArray).size=g.n:=by rw[(ag4 g.L.toArray).1.1,hd]
  have pc:∀j<g.n*4,(putCells id oo (flatK enR 4 (srtA g.L.toArray)) cur)[oo+j]?=some ((flatK enR 4 (srtA g.L.toArray))[j]!):=λj hj=>by
   have hlt:oo+j<cur.size:=by rw[hcs];have:=lk 4 hlc;omega
   unfold putCells;rw[Array.getElem?_mapIdx,lF hlt];simp only[lD];rw[ll ⟨uQ _ _,by rw[size_flatK,hsd];omega⟩,xM];rfl
  have psz:(putCells id oo (flatK enR 4 (srtA g.L.toArray)) cur).size=cur.size:=by unfold putCells;simp
  refine⟨.tuple #[],E,rfl,aB8 hrep he rfl rfl rfl (aO7 _ _ _ _ _) (λk hk hne=>aF1 hk (hne b rfl) _ _ _) ⟨((putCells id oo (flatK enR 4 (srtA g.L.toArray)) cur).toList.drop oo).take (g.n*4),.inr ⟨b,oo,cap,_,rfl,aF2 hb m _ os,hlc,hcap,by rw[psz,hcs],rfl,?_⟩,λi j hi hj=>?_⟩,rtup _ _ _⟩
  ·rw[xu,xH,lC,psz,hcs];have:=lk 4 hlc
   omega
  ·have hk:i*4+j<g.n*4:=by omega
   have ex:(((putCells id oo (flatK enR 4 (srtA g.L.toArray)) cur).toList.drop oo).take (g.n*4)).getD (i*4+j) undef=(enR (oI (srt g) i))[j]!:=by
    rw[la,ul hk,xx,lM,pc _ hk,get_flatK _ _ _ _ (by rw[hsd];exact hk),show(i*4+j)/4=i by omega,show(i*4+j)%4=j by omega];have e:(srtA g.L.toArray)[i]! = oI (srt g) i:=by
     unfold oI srt;rw[getElem!_pos _ i (by omega),la,lw (by rw[lC];omega)];simp
    rw[e];rfl
   rw[ex];have okd:okO (oI (srt g) i):=by
    have hm:oI (srt g) i∈srt g:=by
     unfold oI;rw[la,lw (by rw[ar3];exact hi)];exact xv _
    have:=(al3 g).mem_iff.1 hm
    obtain⟨k,hk,e⟩:=lX.1 this;rw[<-e];exact hok k (lG.1 hk)
   exact aB9 (P:=λs u=>ab1 u/\∀X':Nat->Prop,R (sortWorldK enR 4 w b oo m (srtA g.L.toArray) os) X' E0 s u) hj ⟨rfl,λ_=> .int⟩ ⟨rfl,λ_=> .int⟩ ⟨rfl,λ_=> .int⟩ ⟨rfl,λ_=> .int⟩ okd
end Ows
namespace Apl
open Go.RowKit Go.Lib Go.Sort Sx Num Aff Con Rga Rgl Rgm Rgn Rgf Gat Gar Ows
def Pcs.L(P:Pcs)(k:Nat):List Rn:=Lf (P.p k) (P.m k)
def ow(r:Rn)(k:Nat):Ow:=⟨r.y,r.x0,r.x1,k⟩
def Ow.r(o:Ow):Rn:=⟨o.y,o.x0,o.x1⟩
def alr(P:Pcs)(k j:Nat):List Ow:=(List.range j).map λi=>ow (P.p k i) k
def al(P:Pcs):Nat->List Ow
 |0=>[]
 |k+1=>al P k++alr P k (P.m k)
structure PcOK(P:Pcs):Prop where
 n:P.n<=4096
 tot:(al P P.n).length<=100000000
 v:∀k<P.n,vld (Pcs.L P k)
 ne:∀k<P.n,0<P.m k
 dist:∀i j,i<j->j<P.n->kOf (P.ink i)≠kOf (P.ink j)
 disj:∀i j,i<j->j<P.n->∀y x,mem (Pcs.L P i) y x=true->mem (Pcs.L P j) y x=true->False
 ord:∀k,k+1<P.n->(P.p k 0).y<(P.p (k+1) 0).y\/((P.p k 0).y=(P.p (k+1) 0).y/\(P.p k 0).x0<=(P.p (k+1) 0).x0)
theorem bx0(P:Pcs)(k j:Nat):alr P k (j+1)=alr P k j++[ow (P.p k j) k]:=by
 unfold alr;rw[List.range_succ,List.map_append];rfl
theorem an3(P:Pcs)(k j:Nat):(alr P k j).length=j:=by simp[alr]
theorem bb0(P:Pcs):∀k l,k<=l->(al P k).length<=(al P l).length
 |k,0,h=>by rw[Nat.le_zero.1 h];exact lh _
 |k,l+1,h=>by
  by_cases hk:k=l+1
  ·rw[hk];exact lh _
  ·have:=bb0 P k l (by omega)
   show _<=(al P l++alr P l (P.m l)).length;rw[lx];omega
theorem bn3{P:Pcs}{k j:Nat}{o:Ow}:o∈alr P k j<->∃i,i<j/\o=ow (P.p k i) k:=by
 unfold alr;rw[lX];exact⟨λ⟨i,h,e⟩=>⟨i,lG.1 h,e.symm⟩,λ⟨i,h,e⟩=>⟨i,lG.2 h,e.symm⟩⟩
theorem bf2{P:Pcs}{o:Ow}:∀{n},o∈al P n<->∃k i,k<n/\i<P.m k/\o=ow (P.p k i) k
 |0=>⟨λh=>(xi h).elim,λ⟨_,_,h,_⟩=>absurd h (ln _)⟩
 |n+1=>by
  show o∈al P n++alr P n (P.m n)<->_;rw[ug,bf2,bn3];constructor
  ·rintro(⟨k,i,h1,h2,h3⟩|⟨i,h1,h2⟩)
   ·exact⟨k,i,by omega,h2,h3⟩
   ·exact⟨n,i,by omega,h1,h2⟩
  ·rintro⟨k,i,h1,h2,h3⟩;by_cases hk:k=n
   ·subst hk;exact .inr ⟨i,h2,h3⟩
   ·exact .inl ⟨k,i,by omega,h2,h3⟩
theorem ax7{P:Pcs}{k i:Nat}(h:i<P.m k):P.p k i∈Pcs.L P k:=lX.2 ⟨i,lG.2 h,rfl⟩
theorem cd5{P:Pcs}(h:PcOK P){k i j:Nat}(hk:k<P.n)(hij:i<j)(hj:j<P.m k):ltR (P.p k i) (P.p k j):=bY9 (g:=⟨P.m k,P.p k⟩) (h.v k hk) hij hj
theorem bj5{P:Pcs}(h:PcOK P){k:Nat}(hk:k<P.n):∀j,j<=P.m k->(alr P k j).Nodup
 |0,_=>List.nodup_nil
 |j+1,hj=>by
  rw[bx0,List.nodup_append];refine⟨bj5 h hk j (by omega),(by simp),λa ha b hb hab=>?_⟩;obtain⟨i,hi,rfl⟩:=bn3.1 ha;rw[xy]at hb;rw[hb]at hab;have hl:=cd5 h hk hi (by omega:j<P.m k);have e1:(P.p k i).y=(P.p k j).y:=congrArg Ow.y hab;have e2:(P.p k i).x0=(P.p k j).x0:=congrArg Ow.x0 hab;have e3:(P.p k i).x1=(P.p k j).x1:=congrArg Ow.x1 hab;have ok:=(h.v k hk).1 _ (ax7 (show i<P.m k by omega));have:=ok.2
  unfold ltR at hl;omega
theorem bx4{P:Pcs}(h:PcOK P):∀n,n<=P.n->(al P n).Nodup
 |0,_=>List.nodup_nil
 |n+1,hn=>by
  show(al P n++alr P n (P.m n)).Nodup;rw[List.nodup_append];refine⟨bx4 h n (by omega),bj5 h (by omega) _ (lh _),λa ha b hb hab=>?_⟩;obtain⟨k,i,h1,h2,rfl⟩:=bf2.1 ha;obtain⟨j,h3,rfl⟩:=bn3.1 hb;have:((k:Nat):Int)=(n:Int):=congrArg Ow.k hab
  omega
def alG(P:Pcs):Og:=⟨(al P P.n).length,oI (al P P.n)⟩
theorem Og_of(L:List Ow):Og.L ⟨L.length,oI L⟩=L:=by
 refine lam (by simp[Og.L]) λi h1 h2=>?_
 simp[Og.L,oI,h2]
theorem cu1(P:Pcs):(alG P).L=al P P.n:=Og_of _
theorem b16{P:Pcs}(h:PcOK P){o:Ow}(ho:o∈al P P.n):okO o:=by
 obtain⟨k,i,h1,h2,rfl⟩:=bf2.1 ho;have ok:=(h.v k h1).1 _ (ax7 h2);obtain⟨⟨q1,q2,q3⟩,q4⟩:=ok;have hn:=h.n;exact⟨⟨⟨q1.1,by show(P.p k i).y<=8192;omega⟩,q2,q3⟩,by show -8192<=(k:Int);omega,by show(k:Int)<=8192;omega⟩
theorem bv0{L:List Ow}{i:Nat}(h:i<L.length):oI L i∈L:=by
 unfold oI;rw[la,lw h];exact xv h
theorem bI2{P:Pcs}(h:PcOK P){i:Nat}(hi:i+1<(al P P.n).length)(hy:(oI (Ows.srt (alG P)) i).y=(oI (Ows.srt (alG P)) (i+1)).y):(oI (Ows.srt (alG P)) i).x1<=(oI (Ows.srt (alG P)) (i+1)).x0:=by
 have hlen:(Ows.srt (alG P)).length=(al P P.n).length:=Ows.ar3 _;have hp:(Ows.srt (alG P)).Perm (al P P.n):=by have:=Ows.al3 (alG P);rwa[cu1]at this
 have nd:(Ows.srt (alG P)).Nodup:=hp.nodup_iff.2 (bx4 h _ (lh _));have m1:=hp.mem_iff.1 (bv0 (L:=srt (alG P)) (i:=i) (by omega));have m2:=hp.mem_iff.1 (bv0 (L:=srt (alG P)) (i:=i+1) (by omega));have hs:=Ows.aw1 (alG P) (i:=i) (j:=i+1) (by omega) (by show i+1<(al P P.n).length;omega);have hne:oI (Ows.srt (alG P)) i≠oI (Ows.srt (alG P)) (i+1):=by
  unfold oI;rw[la,la,lw (show i<(Ows.srt (alG P)).length by omega),lw (show i+1<(Ows.srt (alG P)).length by omega)];exact uu.1 nd i (i+1) (by omega) (by omega) (by omega)
 generalize oI (Ows.srt (alG P)) i=a at *
 generalize oI (Ows.srt (alG P)) (i+1)=b at *
 have oka:=b16 h m1;have okb:=b16 h m2;rw[Ows.au5]at hs;rw[as6 okb.1.1.1 okb.1.1.2,as6 oka.1.1.1 oka.1.1.2,as6 okb.1.2.1.1 okb.1.2.1.2,as6 oka.1.2.1.1 oka.1.2.1.2]at hs;have hx:a.x0<=b.x0:=by omega
 obtain⟨k,s,h1,h2,rfl⟩:=bf2.1 m1;obtain⟨l,t,h3,h4,rfl⟩:=bf2.1 m2;have ra:=((h.v k h1).1 _ (ax7 h2)).2;have rb:=((h.v l h3).1 _ (ax7 h4)).2;have hy:(P.p k s).y=(P.p l t).y:=hy;have hx:(P.p k s).x0<=(P.p l t).x0:=hx;show(P.p k s).x1<=(P.p l t).x0;by_cases hkl:k=l
 ·subst hkl;rcases xL s t with hst|hst|hst
  ·have:=cd5 h h1 hst h4
   unfold ltR at this;omega
  ·subst hst;exact absurd rfl hne
  ·have:=cd5 h h1 hst h2
   unfold ltR at this;omega
 ·refine Int.not_lt.1 λhc=>?_
  have i1:mem (Pcs.L P k) (P.p k s).y (P.p l t).x0=true:=(mem_iff _ _ _).2 ⟨_,ax7 h2,rfl,hx,hc⟩;have i2:mem (Pcs.L P l) (P.p k s).y (P.p l t).x0=true:=(mem_iff _ _ _).2 ⟨_,ax7 h4,hy.symm,xp _,rb⟩;rcases ut hkl with hlt|hgt
  ·exact h.disj k l hlt h3 _ _ i1 i2
  ·exact h.disj l k hgt h1 _ _ i2 i1
end Apl
namespace Apt
open Go.RowKit Sx Num Aff Con Rga Rgl Rgm Rgn Gat Gar Ows Apl
def bs7:FSpec:=aa9 56 (γ:=Rn×Rn) (λ| [.agg _ x,.agg _ y]=>some (rnD x,rnD y)|_=>none) (λg=>[rnS g.1,rnS g.2]) (λ_=>True)
 (λg=> .bool (decide (g.1.y<g.2.y)||(decide (g.1.y=g.2.y)&&decide (g.1.x0<g.2.x0))))
theorem bM5:aa5 Tw.prog bs7:=by
 refine ssW (specs:=[]) trivial Tw.func56 (λg=>A0) ?_;rintro⟨a,b⟩ _;refine ac7 (B:=let T9:=λp:Prop=>Tt/\Tt/\Tt/\Tt/\Tt/\Tt/\Tt/\Tt/\Tt/\p;let z0:=(decide (a.y<b.y)||decide (a.y=b.y)&&decide (a.x0<b.x0));T9 (Br (decide (a.y<b.y)) (Tt/\Tt/\Tt/\Aq (true=z0)) (Tt/\Tt/\Tt/\Tt/\Tt/\Tt/\Br (decide (a.y=b.y)) (T9 (Aq (decide (a.x0<b.x0)=z0))) (Tt/\Tt/\Tt/\Tt/\Aq (false=z0))))) ?_;simp only[cln,ly,lO];refine⟨λh=>by rw[lg h];rfl,λh=>?_⟩;rw[lf h,laq];refine⟨λh2=>by rw[lg h2];rfl,λh2=>by rw[lf h2];rfl⟩
structure DlG where
 n:Nat
 f:Nat->Ow
 o:Ow
def dlD:List SV->List SO->Option DlG
 |_,[.row _ n _ g _,.cells _ c _]=>some ⟨n,λi=>owD (g i),owD c⟩
 |_,_=>none
def rowO(ver n:Nat)(f:Nat->Ow):SO:= .row ver n 4 (λi=>lst (owL (f i))) 98
def celO(o:Ow):SO:= .cells 4 (lst (owL o)) 98
def dlF:SV:= .fn 55 1 (lst [.own 1 0])
def cc1:FSpec:=af2 55 [.arg 1] (λ| [.agg _ x,_],[.cells _ c _]=>some (owD x,owD c)|_,_=>none) (λg=>[.agg 4 (lst (owL g.1)),.own 0 0]) (λg=>[celO g.2]) (λ_=>True) (λg=> .bool (decide (g.1.x1<=g.2.x0))) (λg=>[celO g.2])
theorem b55:aa5 Tw.prog cc1:=by
 refine smW (specs:=[]) trivial Tw.func55 (λg=>A0) true ?_;rintro⟨a,b⟩ _;refine ac7 (B:=let A:=Aq;let z0:=(IntKind.i64=IntKind.i64);let q0:=λp:Int=>A z0/\A (p=p);True/\True/\True/\True/\True/\True/\True/\True/\True/\True/\True/\True/\(A (decide (a.x1<=b.x0)=decide (a.x1<=b.x0))/\True)/\((((True/\q0 b.y)/\q0 b.x0)/\q0 b.x1)/\q0 b.k)/\True) ?_;simp only[cln,ly,lO]
def DlG.Ok(g:DlG):Prop:=g.n<=1/\∀i<g.n,(g.f i).x1<=g.o.x0
def cl7:FSpec:=af2 68 [.arg 0,.part 1 0] dlD (λ_=>[.osl 0 0,dlF]) (λg=>[rowO 0 g.n g.f,celO g.o]) (λg=>g.Ok) (λg=> .int .i64 (if g.n=0 then -1 else 0)) (λg=>[rowO 0 g.n g.f,celO g.o])
theorem cq0:aa5 Tw.prog cl7:=by
 refine smW (specs:=[cc1]) (⟨b55,trivial⟩) Tw.func68 (λg=>(⟨[(2,.rounds 2)],[]⟩:Ann)) true ?_;rintro g hg;refine ac7 (B:=let T5:=λp:Prop=>Tt/\Tt/\Tt/\Tt/\Tt/\p;let K:=Br;let A:=Aq;let z7:=(1:Int);let z6:=(0:Int);let z4:=(g.f (Int.toNat z6));let z3:=(g.f (z6+z7).toNat);let z2:=(IntKind.i64=IntKind.i64);let q2:=λp:Int=>A z2/\A (p=p);let z1:=(A (g.n=g.n)/\∀i:Nat,i<g.n->(((Tt/\q2 ((g.f i).y))/\q2 ((g.f i).x0))/\q2 ((g.f i).x1))/\q2 ((g.f i).k));let z0:=((((Tt/\q2 g.o.y)/\q2 g.o.x0)/\q2 g.o.x1)/\q2 g.o.k);let z5:=(Tt/\Tt/\Tt/\((A z2/\A ((-1:Int)=if g.n=(0:Nat)then(-1:Int)else z6))/\Tt)/\z1/\z0/\Tt);T5 (K (decide (z6<(↑g.n:Int))) (T5 (A (z6<=z6/\z6<(↑g.n:Int))/\A (Int.toNat z6<g.n)/\((Tt/\(((((Tt/\q2 z4.y)/\q2 z4.x0)/\q2 z4.x1)/\q2 z4.k)/\A ((0:Nat)=(0:Nat))/\Tt)/\z0/\Tt)/\A True)/\K (decide (z4.x1<=g.o.x0)) (Tt/\Tt/\Tt/\Tt/\((A z2/\A (z6=if g.n=(0:Nat)then(-1:Int)else z6))/\Tt)/\z1/\z0/\Tt) (A ((-9223372036854775808:Int)<=z6+z7/\z6+z7<=(9223372036854775807:Int))/\Tt/\Tt/\K (decide (z6+z7<(↑g.n:Int))) (T5 (A (z6<=z6+z7/\z6+z7<(↑g.n:Int))/\A ((z6+z7).toNat<g.n)/\((Tt/\(((((Tt/\q2 z3.y)/\q2 z3.x0)/\q2 z3.x1)/\q2 z3.k)/\A ((0:Nat)=(0:Nat))/\Tt)/\z0/\Tt)/\A True)/\K (decide (z3.x1<=g.o.x0)) (Tt/\Tt/\Tt/\Tt/\((A z2/\A (z6+z7=if g.n=(0:Nat)then(-1:Int)else z6))/\Tt)/\z1/\z0/\Tt) (A ((-9223372036854775808:Int)<=z6+z7+z7/\z6+z7+z7<=(9223372036854775807:Int))/\Tt/\False))) z5))) z5)) ?_;simp only[cln,ly,lO];obtain⟨h1,h2⟩:=hg;refine⟨λh=>⟨by omega,by show 0<g.n;omega,λ_=>by rw[lu (by omega)],λhc=>absurd (h2 0 (by omega)) hc⟩,λh=>by rw[ll (by omega)]⟩
def b38:FSpec:=af2 54 [.arg 0,.part 1 0] dlD (λ_=>[.osl 0 0,dlF]) (λg=>[rowO 0 g.n g.f,celO g.o]) (λg=>g.Ok) (λ_=> .osl 0 1) (λg=>[rowO 1 0 g.f,celO g.o])
theorem ce5:aa5 Tw.prog b38:=by
 refine smW (specs:=[cl7,cc1]) (⟨cq0,b55,trivial⟩) Tw.func54 (λg=>(⟨[(5,.rounds 1)],[(1000012,[.shrink 4])]⟩:Ann)) true ?_;rintro g hg;refine ac7 (B:=let T3:=λp:Prop=>Tt/\Tt/\Tt/\p;let K:=Int.ofNat;let A:=Aq;let z11:=(↑g.n:Int);let z9:=(1:Int);let z8:=(0:Int);let z7:=(0:Nat);let z10:=(z8<=if g.n=z7 then(-1:Int)else z8);let z2:=(IntKind.i64=IntKind.i64);let q2:=λp:Int=>A z2/\A (p=p);let z1:=((((Tt/\q2 g.o.y)/\q2 g.o.x0)/\q2 g.o.x1)/\q2 g.o.k);let z0:=(if g.n=z7 then(-1:Int)else z8);let z6:=((-9223372036854775808:Int)<=z0+z9/\z0+z9<=(9223372036854775807:Int));let z5:=((-9223372036854775808:Int)<=z0+z9+z9/\z0+z9+z9<=(9223372036854775807:Int));let z4:=(g.f (z0+z9).toNat);T3 (((Tt/\(Tt/\(A ((55:Go.FuncId)=(55:Go.FuncId))/\Tt/\A (z7=z7))/\Tt)/\(A (g.n=g.n)/\∀i:Nat,i<g.n->(((Tt/\q2 ((g.f i).y))/\q2 ((g.f i).x0))/\q2 ((g.f i).x1))/\q2 ((g.f i).k))/\z1/\Tt)/\A g.Ok)/\T3 (Br (decide (z0=(-1:Int))) (T3 (Tt/\(Tt/\Tt)/\(A (g.n=z7)/\∀i:Nat,i<z7->(((Tt/\q2 ((g.f i).y))/\q2 ((g.f i).x0))/\q2 ((g.f i).x1))/\q2 ((g.f i).k))/\z1/\Tt)) (Tt/\A z6/\T3 (Tt/\Tt/\Br (decide (z0+z9<z11)) (Tt/\Tt/\A (z8<=z0+z9/\z0+z9<z11)/\A ((z0+z9).toNat<g.n)/\T3 (Tt/\((Tt/\(((((Tt/\q2 z4.y)/\q2 z4.x0)/\q2 z4.x1)/\q2 z4.k)/\A (z7=z7)/\Tt)/\z1/\Tt)/\A True)/\Tt/\Br (!decide (z4.x1<=g.o.x0)) (T3 (A (z10/\z0<z11)/\A (z0.toNat<g.n)/\Tt/\A z6/\Tt/\Tt/\A z5/\Tt/\False)) (Tt/\A z5/\Tt/\False))) (Tt/\Tt/\A (z10/\z0<=K g.n/\K g.n<=K g.n/\K g.n<=z11)/\T3 (A (z8<=K z7/\(K z7<=if g.n=z7 then(-1:Int)else z8)/\z0<=K g.n/\K g.n<=z11)/\T3 ((Tt/\Tt)/\(A ((z0-K z7).toNat=z7)/\∀i:Nat,let z3:=(z0.toNat<=i/\i<z0.toNat+(K g.n-if g.n=z7 then(-1:Int)else z8).toNat);i<z7->(((Tt/\A z2/\A ((bif decide z3 then z8 else(g.f i).y)=(g.f i).y))/\A z2/\A ((bif decide z3 then z8 else(g.f i).x0)=(g.f i).x0))/\A z2/\A ((bif decide z3 then z8 else(g.f i).x1)=(g.f i).x1))/\A z2/\A ((bif decide z3 then z8 else(g.f i).k)=(g.f i).k))/\z1/\Tt)))))))) ?_;simp only[cln,ly,lO];simp only[xA];obtain⟨h1,h2⟩:=id hg;refine⟨hg,λh=>?_,λh=>?_⟩
 ·by_cases hn:g.n=0
  ·exact hn
  ·rw[lu hn]at h;omega
 ·have hn:¬ g.n=0:=λhn=>h (ll hn)
  simp only[lu hn];exact⟨by omega,λhc=>by omega,λ_=>⟨by omega,by omega,by omega,λi hi=>absurd hi (ln _)⟩⟩
def seen(P:Pcs):Nat->List Int->Bool
 |0,_=>false
 |i+1,l=>decide (l=kOf (P.ink i))||seen P i l
def bd3(P:Pcs):Nat->List Int->Int
 |0,_=>0
 |i+1,l=>bif decide (l=kOf (P.ink i))then(i:Int)else bd3 P i l
def sS(P:Pcs)(i:Nat):Ow:=oI (srt (alG P)) i
def ap1(P:Pcs):Inv:=⟨Nat,λk=>k<=P.n,λk=>⟨[(0,pcS P),(3,.osl 0 0),(20,pcS P),(21,.int .i64 P.n),(22,.int .i64 k)],[rowO 0 (al P k).length (oI (al P k))]⟩,λk=>P.n-k⟩
def ap2(P:Pcs)(k:Nat):Inv:=⟨Nat,λj=>k<P.n/\j<=P.m k,λj=>⟨[(0,pcS P),(3,.osl 0 0),(4,.int .i64 k),(20,pcS P),(21,.int .i64 P.n),(22,.int .i64 k),(5,.own 1 0),(28,rgS ⟨P.m k,P.p k⟩),(29,.int .i64 (P.m k)),(30,.int .i64 j)],
 [rowO 0 (al P k++alr P k j).length (oI (al P k++alr P k j)),.cells 9 (pcC P k) 47]⟩,λj=>P.m k-j⟩
def twS(P:Pcs):SO:= .row 0 P.n 1 (λ_ _=> .bool false) 4
def ap3(P:Pcs):Inv:=⟨Nat,λi=>i<=(al P P.n).length,λi=>⟨[(0,pcS P),(8,.osl 1 0),(9,.int .i64 (if i=0 then -1 else(sS P (i-1)).y)),(10,.osl 2 0),(47,.osl 0 0),(48,.int .i64 (al P P.n).length),(49,.int .i64 i)],
 [rowO 0 (al P P.n).length (sS P),twS P,rowO 0 (if i=0 then 0 else 1) (λ_=>sS P (i-1))]⟩,λi=>(al P P.n).length-i⟩
def ap4(P:Pcs):Inv:=⟨Nat,λi=>i<=P.n,λi=>⟨[(0,pcS P),(8,.osl 1 0),(15,.omap 3),(86,pcS P),(87,.int .i64 P.n),(88,.int .i64 i)],
 [.dead,twS P,.dead,.mpi (.arr 8 .u8) false (seen P i) (λl=> .int .i64 (bd3 P i l))]⟩,λi=>P.n-i⟩
def bI9:FSpec:=aa9 44 (γ:=Pcs) (λ| [s]=>some (pcD s)|_=>none) (λP=>[pcS P]) PcOK (λ_=> .int .i64 0)
theorem bY3:aa5 Tw.prog bI9:=by
 refine ssW (specs:=[Ows.bc8,b38,bs7]) (⟨Ows.bm8,ce5,bM5,trivial⟩) Tw.func44 (λg=>(⟨[(3,.nest (ap1 g) (λk=>[(6,.inv (ap2 g k))])),(16,.nest (ap3 g) (λi=>[(22,.rounds 1)])),(30,.inv (ap4 g))],[(2,[.own 3 98 4]),(15,[.own 10 98 4]),(1000019,[.shrink 10])]⟩:Ann)) ?_;rintro P hP;refine ac7 (B:=let T2:=λp:Prop=>Tt/\Tt/\p;let T8:=λp:Prop=>Tt/\Tt/\Tt/\Tt/\Tt/\Tt/\Tt/\Tt/\p;let J:=Int.ofNat;let K:=Br;let A:=Aq;let z47:=(7:Nat);let z46:=(6:Nat);let z45:=(5:Nat);let z44:=(4:Nat);let z43:=(3:Nat);let z42:=(2:Nat);let z36:=(al P P.n);let z28:=(↑P.n:Int);let z27:=(1:Int);let z26:=(0:Int);let z22:=(-9223372036854775808:Int);let z19:=(↑z36.length:Int);let z18:=(9223372036854775807:Int);let z10:=(A (P.n=P.n)/\∀i:Nat,i<P.n->Tt/\A (false=false));let z8:=(1:Nat);let z7:=(0:Nat);let z33:=(J z7-J z7);let z32:=(Tt/\(A ((55:Nat)=(55:Go.FuncId))/\Tt/\A (z7=z7))/\Tt);let z30:=(z7+z8<=(9223372036854775807:Nat)/\(z7+z8)*(32:Nat)<=(140737488355328:Nat));let z3:=(IntKind.u8=IntKind.u8);let q3:=λp:Int=>A z3/\A (p=p);let z1:=(IntKind.i64=IntKind.i64);let q1:=λp:Int=>A z1/\A (p=p);let z11:=(q1 z28);let z9:=(A (z36.length=z36.length)/\∀i:Nat,i<z36.length->(((Tt/\q1 ((sS P i).y))/\q1 ((sS P i).x0))/\q1 ((sS P i).x1))/\q1 ((sS P i).k));let z0:=(A (P.n=P.n)/\∀i:Nat,i<P.n->(chp (Tt/\A (P.m i=P.m i)/\∀i_1:Nat,let z48:=(P.p i i_1);i_1<P.m i->((Tt/\q1 z48.y)/\q1 z48.x0)/\q1 z48.x1) (λj:Nat=>q3 (P.ink i j)) 7)/\q3 (P.ink i z47));T2 (T2 (Tt/\(∃g:Nat,A ((ap1 P).pre g)/\(z0/\Tt/\z0/\z11/\(A z1/\A (z26=(↑g:Int)))/\Tt)/\(A (z7=(al P g).length)/\∀i:Nat,i<(al P g).length->(((Tt/\False)/\False)/\False)/\False)/\Tt)/\∀g:Nat,let z39:=(↑(P.m g):Int);let z17:=(↑g:Int);let z31:=(q1 z17);let z13:=(al P g);(ap1 P).pre g->Tt/\K (decide (z17<z28)) (Tt/\A (z26<=z17/\z17<z28)/\T8 ((∃g_1:Nat,let z23:=(al P g++alr P g g_1);A ((ap2 P g).pre g_1)/\(z0/\Tt/\z31/\z0/\z11/\z31/\A (z7=z7)/\(A (P.m z17.toNat=P.m g)/\∀i:Nat,i<P.m g->((Tt/\A z1/\A ((P.p z17.toNat i).y=(P.p g i).y))/\A z1/\A ((P.p z17.toNat i).x0=(P.p g i).x0))/\A z1/\A ((P.p z17.toNat i).x1=(P.p g i).x1))/\(A z1/\A ((↑(P.m z17.toNat):Int)=z39))/\(A z1/\A (z26=(↑g_1:Int)))/\Tt)/\(A (z13.length=z23.length)/\∀i:Nat,i<z23.length->(((Tt/\A z1/\A ((oI z13 i).y=(oI z23 i).y))/\A z1/\A ((oI z13 i).x0=(oI z23 i).x0))/\A z1/\A ((oI z13 i).x1=(oI z23 i).x1))/\A z1/\A ((oI z13 i).k=(oI z23 i).k))/\(((((((((Tt/\A (P.m z17.toNat=P.m g)/\∀i:Nat,i<P.m g->((Tt/\A z1/\A ((P.p z17.toNat i).y=(P.p g i).y))/\A z1/\A ((P.p z17.toNat i).x0=(P.p g i).x0))/\A z1/\A ((P.p z17.toNat i).x1=(P.p g i).x1))/\A z3/\A (P.ink z17.toNat z7=P.ink g z7))/\A z3/\A (P.ink z17.toNat z8=P.ink g z8))/\A z3/\A (P.ink z17.toNat z42=P.ink g z42))/\A z3/\A (P.ink z17.toNat z43=P.ink g z43))/\A z3/\A (P.ink z17.toNat z44=P.ink g z44))/\A z3/\A (P.ink z17.toNat z45=P.ink g z45))/\A z3/\A (P.ink z17.toNat z46=P.ink g z46))/\A z3/\A (P.ink z17.toNat z47=P.ink g z47))/\Tt)/\∀g_1:Nat,let z35:=(↑g_1:Int);let z5:=(al P g++alr P g g_1);(ap2 P g).pre g_1->Tt/\K (decide (z35<z39)) (A (z26<=z35/\z35<z39)/\T8 (A (z5.length+z8<=(9223372036854775807:Nat)/\(z5.length+z8)*(32:Nat)<=(140737488355328:Nat))/\Tt/\A (z22<=z35+z27/\z35+z27<=z18)/\Tt/\∃(g':Nat),let z24:=(al P g++alr P g g');A ((ap2 P g).pre g')/\((z0/\Tt/\z31/\z0/\z11/\z31/\A (z7=z7)/\(A (P.m g=P.m g)/\∀i:Nat,i<P.m g->((Tt/\q1 ((P.p g i).y))/\q1 ((P.p g i).x0))/\q1 ((P.p g i).x1))/\(q1 z39)/\(A z1/\A (z35+z27=(↑g':Int)))/\Tt)/\(A (z5.length+z8=z24.length)/\∀i:Nat,let z49:=(i<z5.length);i<z24.length->(((Tt/\A z1/\A ((bif decide z49 then(oI z5 i).y else(P.p g z35.toNat).y)=(oI z24 i).y))/\A z1/\A ((bif decide z49 then(oI z5 i).x0 else(P.p g z35.toNat).x0)=(oI z24 i).x0))/\A z1/\A ((bif decide z49 then(oI z5 i).x1 else(P.p g z35.toNat).x1)=(oI z24 i).x1))/\A z1/\A ((bif decide z49 then(oI z5 i).k else z17)=(oI z24 i).k))/\(chp (Tt/\A (P.m g=P.m g)/\∀i:Nat,i<P.m g->((Tt/\q1 ((P.p g i).y))/\q1 ((P.p g i).x0))/\q1 ((P.p g i).x1)) (λj:Nat=>q3 (P.ink g j)) 8)/\Tt)/\A ((ap2 P g).meas g'<(ap2 P g).meas g_1))) (A (z22<=z17+z27/\z17+z27<=z18)/\Tt/\∃(g':Nat),A ((ap1 P).pre g')/\((z0/\Tt/\z0/\z11/\(A z1/\A (z17+z27=(↑g':Int)))/\Tt)/\(A (z5.length=(al P g').length)/\∀i:Nat,let z37:=(oI (al P g') i);i<(al P g').length->(((Tt/\A z1/\A ((oI z5 i).y=z37.y))/\A z1/\A ((oI z5 i).x0=z37.x0))/\A z1/\A ((oI z5 i).x1=z37.x1))/\A z1/\A ((oI z5 i).k=z37.k))/\Tt)/\A ((ap1 P).meas g'<(ap1 P).meas g)))) (Tt/\((Tt/\(Tt/\(A ((52:Nat)=(52:Go.FuncId))/\Tt)/\Tt)/\(A (z13.length=z13.length)/\∀i:Nat,let z34:=(oI z13 i);i<z13.length->(((Tt/\q1 z34.y)/\q1 z34.x0)/\q1 z34.x1)/\q1 z34.k)/\Tt)/\A ((∀i:Nat,i<z13.length->okO (oI z13 i))/\z13.length<=(4294967296:Nat)))/\T2 (A (z26<=z28/\z28<=z28/\(↑z8:Int)*z28<=(140737488355328:Int)/\z28<=z18)/\T2 (T2 (T2 ((∃g_1:Nat,A ((ap3 P).pre g_1)/\(z0/\Tt/\(A z1/\A ((-1:Int)=if g_1=z7 then(-1:Int)else(sS P (g_1-z8)).y))/\T2 ((A z1/\A ((↑z13.length:Int)=z19))/\(A z1/\A (z26=(↑g_1:Int)))/\Tt))/\(A (z13.length=z36.length)/\∀i:Nat,let z20:=(oI (Ows.srt (Og.mk z13.length (oI z13))) i);i<z36.length->(((Tt/\A z1/\A (z20.y=(sS P i).y))/\A z1/\A (z20.x0=(sS P i).x0))/\A z1/\A (z20.x1=(sS P i).x1))/\A z1/\A (z20.k=(sS P i).k))/\(A (z28.toNat=P.n)/\∀i:Nat,i<P.n->Tt/\A (false=false))/\(A (z7=if g_1=z7 then z7 else z8)/\∀i:Nat,(i<if g_1=z7 then z7 else z8)->(((Tt/\False)/\False)/\False)/\False)/\Tt)/\∀g:Nat,let z38:=(↑g:Int);let z29:=(if g=z7 then z7 else z8);let z25:=(sS P (g-z8));let z16:=(((Tt/\q1 z25.y)/\q1 z25.x0)/\q1 z25.x1);let z2:=(sS P z38.toNat);let z21:=((((Tt/\q1 z2.y)/\q1 z2.x0)/\q1 z2.x1)/\q1 z2.k);(ap3 P).pre g->Tt/\K (decide (z38<z19)) (A (z26<=z38/\z38<z19)/\A (z38.toNat<z36.length)/\T2 (T2 (T2 (Tt/\K (decide (z2.y≠if g=z7 then(-1:Int)else z25.y)) (Tt/\A (z26<=J z7/\J z7<=J z7/\J z7<=J z29/\J z29<=(↑z29:Int))/\T2 (T2 (T2 (Tt/\((Tt/\z32/\(A (z33.toNat=z33.toNat)/\∀i:Nat,i<z33.toNat->z16/\q1 z25.k)/\z21/\Tt)/\A (DlG.mk z33.toNat (λ(x:Nat)=>sS P (g-z8)) z2).Ok)/\T8 (A z30/\Tt/\A (z22<=z38+z27/\z38+z27<=z18)/\Tt/\∃(g':Nat),let z40:=(sS P (g'-z8));A ((ap3 P).pre g')/\((z0/\Tt/\(A z1/\A (z2.y=if g'=z7 then(-1:Int)else z40.y))/\T2 ((q1 z19)/\(A z1/\A (z38+z27=(↑g':Int)))/\Tt))/\z9/\z10/\(A (z7+z8=if g'=z7 then z7 else z8)/\∀i:Nat,(i<if g'=z7 then z7 else z8)->(((Tt/\A z1/\A (z2.y=z40.y))/\A z1/\A (z2.x0=z40.x0))/\A z1/\A (z2.x1=z40.x1))/\A z1/\A (z2.k=z40.k))/\Tt)/\A ((ap3 P).meas g'<(ap3 P).meas g)))))) (T2 (((Tt/\z32/\(A (z29=if g=z7 then z7 else z8)/\∀i:Nat,(i<if g=z7 then z7 else z8)->z16/\q1 z25.k)/\z21/\Tt)/\A (DlG.mk z29 (λ(x:Nat)=>sS P (g-z8)) z2).Ok)/\T8 (A z30/\Tt/\A (z22<=z38+z27/\z38+z27<=z18)/\Tt/\∃(g':Nat),let z41:=(sS P (g'-z8));A ((ap3 P).pre g')/\((z0/\Tt/\(A z1/\A ((if g=z7 then(-1:Int)else z25.y)=if g'=z7 then(-1:Int)else z41.y))/\T2 ((q1 z19)/\(A z1/\A (z38+z27=(↑g':Int)))/\Tt))/\z9/\z10/\(A (z7+z8=if g'=z7 then z7 else z8)/\∀i:Nat,(i<if g'=z7 then z7 else z8)->(((Tt/\A z1/\A (z2.y=z41.y))/\A z1/\A (z2.x0=z41.x0))/\A z1/\A (z2.x1=z41.x1))/\A z1/\A (z2.k=z41.k))/\Tt)/\A ((ap3 P).meas g'<(ap3 P).meas g)))))))) (T2 (T2 (Tt/\(∃g:Nat,A ((ap4 P).pre g)/\(z0/\T2 (z0/\z11/\(A z1/\A (z26=(↑g:Int)))/\Tt))/\Tt/\z10/\Tt/\(∀(l:List Int),l.length=(8:Nat)->A (false=seen P g l)/\((seen P g l||false)=true->False))/\Tt)/\∀g:Nat,let z4:=(↑g:Int);let z12:=(P.p z4.toNat (Int.toNat z26));let z6:=(P.p (z4-z27).toNat (Int.toNat z26));(ap4 P).pre g->Tt/\K (decide (z4<z28)) (Tt/\A (z26<=z4/\z4<z28)/\T8 (T2 (T2 (T2 (Tt/\K (seen P g [P.ink z4.toNat z7,P.ink z4.toNat z8,P.ink z4.toNat z42,P.ink z4.toNat z43,P.ink z4.toNat z44,P.ink z4.toNat z45,P.ink z4.toNat z46,P.ink z4.toNat z47]) (T2 (Tt/\A z1/\A ((7:Int)=z26))) (T2 (A (z26<=z4/\z4<z28)/\A (z4.toNat<P.n)/\T8 (Tt/\K (decide (z26<z4)) (T2 (A (z26<=z26/\z26<(↑(P.m z4.toNat):Int))/\T2 (Tt/\A (z22<=z4-z27/\z4-z27<=z18)/\A (z26<=z4-z27/\z4-z27<z28)/\T2 (A (z26<=z26/\z26<(↑(P.m (z4-z27).toNat):Int))/\Tt/\(((((Tt/\q1 z12.y)/\q1 z12.x0)/\q1 z12.x1)/\(((Tt/\q1 z6.y)/\q1 z6.x0)/\q1 z6.x1)/\Tt)/\A True)/\Tt/\K (decide (z12.y<z6.y)||decide (z12.y=z6.y)&&decide (z12.x0<z6.x0)) (T2 (A z1/\A ((18:Int)=z26))) (A (z22<=z4+z27/\z4+z27<=z18)/\Tt/\∃(g':Nat),A ((ap4 P).pre g')/\((z0/\T2 (z0/\z11/\(A z1/\A (z4+z27=(↑g':Int)))/\Tt))/\Tt/\z10/\Tt/\(∀(l:List Int),let z14:=(l=[P.ink z4.toNat z7,P.ink z4.toNat z8,P.ink z4.toNat z42,P.ink z4.toNat z43,P.ink z4.toNat z44,P.ink z4.toNat z45,P.ink z4.toNat z46,P.ink z4.toNat z47]);l.length=(8:Nat)->A ((decide z14||seen P g l)=seen P g' l)/\((seen P g' l||false)=true->A z1/\A ((bif decide z14 then z4 else bd3 P g l)=bd3 P g' l)))/\Tt)/\A ((ap4 P).meas g'<(ap4 P).meas g)))))) (Tt/\A (z22<=z4+z27/\z4+z27<=z18)/\Tt/\∃(g':Nat),A ((ap4 P).pre g')/\((z0/\T2 (z0/\z11/\(A z1/\A (z4+z27=(↑g':Int)))/\Tt))/\Tt/\z10/\Tt/\(∀(l:List Int),let z15:=(l=[P.ink z4.toNat z7,P.ink z4.toNat z8,P.ink z4.toNat z42,P.ink z4.toNat z43,P.ink z4.toNat z44,P.ink z4.toNat z45,P.ink z4.toNat z46,P.ink z4.toNat z47]);l.length=(8:Nat)->A ((decide z15||seen P g l)=seen P g' l)/\((seen P g' l||false)=true->A z1/\A ((bif decide z15 then z4 else bd3 P g l)=bd3 P g' l)))/\Tt)/\A ((ap4 P).meas g'<(ap4 P).meas g)))))))))) (T2 (q1 z26))))))))))))) ?_;simp only[chp];simp only[cln,ly,lO];simp only[xA,bv4];have hn:=hP.n;have htot:=hP.tot;have rows:∀{L M:List Ow},L=M->L.length=M.length/\∀i<M.length,(((oI L i).y=(oI M i).y/\(oI L i).x0=(oI M i).x0)/\(oI L i).x1=(oI M i).x1)/\(oI L i).k=(oI M i).k:=by
  rintro L M rfl;exact⟨rfl,λ_ _=>⟨⟨⟨rfl,rfl⟩,rfl⟩,rfl⟩⟩
 have happ:∀(L:List Ow)(o:Ow) i,i<(L++[o]).length->oI (L++[o]) i=bif decide (i<L.length)then oI L i else o:=λL o i hi=>by
  unfold oI;rw[la,la];by_cases h:i<L.length
  ·rw[lg h,xh h];rfl
  ·rw[lf h,lR (by omega)];rw[lx,xJ]at hi;rw[show i-L.length=0 by omega];rfl
 have seenMem:∀k l,seen P k l=true->∃j,j<k/\l=kOf (P.ink j):=by
  intro k;induction k with
  |zero=>intro l h;cases h
  |succ k ih=>
   intro l h;have h:(decide (l=kOf (P.ink k))||seen P k l)=true:=h;rw[xg,lE]at h;rcases h with h|h
   ·exact⟨k,by omega,h⟩
   ·obtain⟨j,h1,h2⟩:=ih l h;exact⟨j,by omega,h2⟩
 have nodup:∀k<P.n,seen P k (kOf (P.ink k))=true->False:=λk hk h=>by
  obtain⟨j,h1,h2⟩:=seenMem _ _ h;exact hP.dist j k h1 hk h2.symm
 have nextP:∀k:Nat,(k:Int)<P.n->(ap4 P).pre (k+1:Nat)/\((k:Int)+1=((k+1:Nat):Int)/\∀l:List Int,l.length=8->(decide (l=kOf (P.ink k))||seen P k l)=seen P (k+1) l/\(seen P (k+1) l=true->(bif decide (l=kOf (P.ink k))then(k:Int)else bd3 P k l)=bd3 P (k+1) l))/\(ap4 P).meas (k+1:Nat)<(ap4 P).meas k:=λk hk=>
  ⟨by show k+1<=P.n;omega,⟨by simp,λl _=>⟨rfl,λ_=>rfl⟩⟩,by show P.n-(k+1)<P.n-k;omega⟩
 refine⟨⟨0,lB _,rfl,rfl,λi hi=>absurd hi (ln _)⟩,λk hk=>⟨λhlt=>⟨by omega,⟨0,⟨by omega,lB _⟩,rfl,rows (uT _).symm⟩,λj hj=>⟨λhjl=>?_,λhjg=>?_⟩⟩,λhge=>?_⟩⟩
 ·have hkn:k<P.n:=by omega
  have hjm:j<P.m k:=by omega
  have hlen:(al P k++alr P k j).length+1<=4294967296:=by
   have h1:=bb0 P (k+1) P.n hkn;have h2:(al P (k+1)).length=(al P k).length+P.m k:=by show(al P k++alr P k (P.m k)).length=_;rw[lx,an3]
   rw[lx,an3];omega
  have hm:P.m k<=4294967296:=by
   have h1:=bb0 P (k+1) P.n hkn;have h2:(al P (k+1)).length=(al P k).length+P.m k:=by show(al P k++alr P k (P.m k)).length=_;rw[lx,an3]
   omega
  have e:al P k++alr P k (j+1)=(al P k++alr P k j)++[ow (P.p k j) k]:=by rw[bx0,xK]
  refine⟨by omega,by omega,by omega,j+1,⟨hkn,hjm⟩,⟨by simp,?_⟩,by show P.m k-(j+1)<P.m k-j;omega⟩;rw[e];refine⟨by simp[xf],λi hi=>?_⟩;rw[happ _ _ i hi];cases decide (i<(al P k++alr P k j).length)<;>exact⟨⟨⟨rfl,rfl⟩,rfl⟩,rfl⟩
 ·have hkn:k<P.n:=by omega
  have hjm:j<=P.m k:=hj.2;refine⟨by omega,k+1,hkn,⟨by simp,rows ?_⟩,by show P.n-(k+1)<P.n-k;omega⟩;show _=al P k++alr P k (P.m k);rw[show P.m k=j by omega]
 ·have hkn:k=P.n:=by have:k<=P.n:=hk;omega
  subst hkn;have hsrt:∀i,oI (srt {n:=(al P P.n).length,f:=oI (al P P.n)}) i=sS P i:=λi=>rfl
  refine⟨⟨λi hi=>b16 hP (bv0 hi),by omega⟩,by omega,⟨0,lB _,⟨rfl,rfl,rfl⟩,⟨rfl,λi _=>⟨⟨⟨rfl,rfl⟩,rfl⟩,rfl⟩⟩,rfl,λi hi=>absurd hi (ln _)⟩,λi hi=>⟨λhil=>?_,λhig=>⟨⟨0,lB _,rfl,λl _=>⟨rfl,λh=>by cases h⟩⟩,λk hk hkl=>?_⟩⟩⟩
  ·have hil':i<(al P P.n).length:=by omega
   have e1:(if i+1=0 then 0 else 1:Nat)=1:=rfl;have next:∀y:Int,y=(sS P i).y->(ap3 P).pre (i+1:Nat)/\(((y=if i+1=0 then -1 else(sS P (i+1-1)).y)/\(i:Int)+1=((i+1:Nat):Int))/\(1=if i+1=0 then 0 else 1)/\∀j,(j<if i+1=0 then 0 else 1)->(((sS P i).y=(sS P (i+1-1)).y/\(sS P i).x0=(sS P (i+1-1)).x0)/\(sS P i).x1=(sS P (i+1-1)).x1)/\(sS P i).k=(sS P (i+1-1)).k)/\(ap3 P).meas (i+1:Nat)<(ap3 P).meas i:=λy hy=>
    ⟨hil',⟨⟨by rw[lu (by omega),Nat.add_sub_cancel];exact hy,by simp⟩,rfl,λj _=>by rw[Nat.add_sub_cancel];exact⟨⟨⟨rfl,rfl⟩,rfl⟩,rfl⟩⟩,by show(al P P.n).length-(i+1)<(al P P.n).length-i;omega⟩
   refine⟨by omega,hil',λhne=>⟨⟨by omega,by omega,by split<;>omega,by omega⟩,⟨lB _,λj hj=>absurd hj (ln _)⟩,by omega,by omega,i+1,next _ rfl⟩,λheq=>?_⟩;have heq:=Decidable.not_not.1 heq;have hS:=Ows.ar3 (alG P);have ymem:∀j<(al P P.n).length,okO (sS P j):=λj hj=>by
    have hp:(Ows.srt (alG P)).Perm (al P P.n):=by have:=Ows.al3 (alG P);rwa[cu1]at this
    exact b16 hP (hp.mem_iff.1 (bv0 (by rw[hS];exact hj)))
   refine⟨⟨by show(if i=0 then 0 else 1)<=1;split<;>omega,λj hj=>?_⟩,by omega,by omega,i+1,next _ heq.symm⟩;have hi0:i≠0:=λh0=>by
    have hj:j<if i=0 then 0 else 1:=hj
    rw[ll h0]at hj;omega
   rw[lu hi0]at heq;have:=bI2 hP (i:=i-1) (by omega) (by rw[show i-1+1=i by omega];exact heq.symm)
   rw[show i-1+1=i by omega]at this;exact this
  ·have hkn:k<P.n:=by omega
   have hne:=hP.ne k hkn;refine⟨by omega,λh=>(nodup k hkn h).elim,λ_=>⟨by omega,hkn,λh0=>?_,λh0=>⟨by omega,k+1,nextP k hkl⟩⟩⟩;have ek:((k:Int)-1).toNat=k-1:=by omega
   rw[ek];have hne2:=hP.ne (k-1) (by omega);have ho:=hP.ord (k-1) (by omega);rw[show k-1+1=k by omega]at ho;refine⟨by omega,by omega,by omega,by omega,λh=>?_,λ_=>⟨by omega,k+1,nextP k hkl⟩⟩;rw[xg,lr,lE,lE,lE]at h;have h:(P.p k 0).y<(P.p (k-1) 0).y\/(P.p k 0).y=(P.p (k-1) 0).y/\(P.p k 0).x0<(P.p (k-1) 0).x0:=h;omega
structure ChG where
 w:Nat
 h:Nat
 P:Pcs
structure ChG.Ok(g:ChG):Prop where
 w:1<=g.w/\g.w<=256
 h:1<=g.h/\g.h<=256
 P:PcOK g.P
 nz:∀k<g.P.n,kOf (g.P.ink k)≠nul
 r:∀k r,k<g.P.n->r<g.P.m k->(0<=(g.P.p k r).y/\(g.P.p k r).y<16*g.h)/\0<=(g.P.p k r).x0/\(g.P.p k r).x1<=16*g.w
def ch1(g:ChG):Inv:=⟨Nat,λk=>k<=g.P.n,λk=>⟨[(0,.int .i64 g.w),(1,.int .i64 g.h),(2,pcS g.P),(19,pcS g.P),(20,.int .i64 g.P.n),(21,.int .i64 k)],[]⟩,λk=>g.P.n-k⟩
def ch2(g:ChG)(k:Nat):Inv:=⟨Nat,λj=>k<g.P.n/\j<=g.P.m k,λj=>⟨[(0,.int .i64 g.w),(1,.int .i64 g.h),(2,pcS g.P),(19,pcS g.P),(20,.int .i64 g.P.n),(21,.int .i64 k),(8,.own 0 0),(36,rgS ⟨g.P.m k,g.P.p k⟩),(37,.int .i64 (g.P.m k)),(38,.int .i64 j)],
 [.cells 9 (pcC g.P k) 47]⟩,λj=>g.P.m k-j⟩
def aB6:FSpec:=aa9 25 (γ:=ChG) (λ| [.int _ w,.int _ h,s]=>some ⟨w.toNat,h.toNat,pcD s⟩|_=>none) (λg=>[.int .i64 g.w,.int .i64 g.h,pcS g.P]) ChG.Ok (λ_=> .int .i64 0)
theorem aC3:aa5 Tw.prog aB6:=by
 refine aF0 (specs:=[bl2,aw2,bI9]) (av3 ⟨bu1,au2,bY3,trivial⟩) (eqs:=eqI) (all_eq bw0) Aff.mixed Tw.func25 rfl (by kernel_rfl) (λ_ _=>by kernel_rfl)
  (λg=>(⟨[(6,.nest (ch1 g) (λk=>[(14,.inv (ch2 g k))]))],[]⟩:Ann)) (λg=>lN (by kernel_rfl)) ?_
 rintro g hg;refine ac7 (B:=let T3:=λp:Prop=>Tt/\Tt/\Tt/\p;let T5:=λp:Prop=>Tt/\Tt/\Tt/\Tt/\Tt/\p;let T7:=λp:Prop=>Tt/\Tt/\Tt/\Tt/\Tt/\Tt/\Tt/\p;let K:=Br;let A:=Aq;let z22:=(1:Int);let z21:=(↑g.P.n:Int);let z15:=(↑g.w:Int);let z14:=(↑g.h:Int);let z13:=(0:Nat);let z11:=(9223372036854775807:Int);let z9:=(-9223372036854775808:Int);let z7:=(0:Int);let z16:=((3:Int)=z7);let z2:=(IntKind.u8=IntKind.u8);let q2:=λp:Int=>A z2/\A (p=p);let z1:=(IntKind.i64=IntKind.i64);let q1:=λp:Int=>A z1/\A (p=p);let z23:=(Tt/\Tt/\A z1/\A z16);let z6:=(q1 z21);let z5:=(q1 z14);let z4:=(q1 z15);let z0:=(A (g.P.n=g.P.n)/\∀i:Nat,i<g.P.n->(chp (Tt/\A (g.P.m i=g.P.m i)/\∀i_1:Nat,let z18:=(g.P.p i i_1);i_1<g.P.m i->((Tt/\q1 z18.y)/\q1 z18.x0)/\q1 z18.x1) (λj:Nat=>q2 (g.P.ink i j)) 7)/\q2 (g.P.ink i (7:Nat)));T3 (((z4/\z5/\Tt)/\A True)/\Tt/\K (!(decide (z22<=z15)&&(decide (z15<=(256:Int))&&(decide (z22<=z14)&&decide (z14<=(256:Int)))))) z23 (T3 (K (decide ((4096:Int)<z21)) (Tt/\Tt/\A z1/\A ((2:Int)=z7)) (T3 ((∃g_1:Nat,A ((ch1 g).pre g_1)/\(z4/\z5/\z0/\z0/\z6/\(A z1/\A (z7=(↑g_1:Int)))/\Tt)/\Tt)/\∀g_1:Nat,let z12:=(↑(g.P.m g_1):Int);let z3:=(↑g_1:Int);(ch1 g).pre g_1->Tt/\K (decide (z3<z21)) (A (z7<=z3/\z3<z21)/\T5 ((((A (g.P.m z3.toNat=g.P.m z3.toNat)/\∀i:Nat,let z10:=(g.P.p z3.toNat i);i<g.P.m z3.toNat->((Tt/\q1 z10.y)/\q1 z10.x0)/\q1 z10.x1)/\Tt)/\A (vld (Rg.mk (g.P.m z3.toNat) (g.P.p z3.toNat)).L/\g.P.m z3.toNat<=(4294967296:Nat)))/\T7 (K (decide ((↑(g.P.m z3.toNat):Int)=z7)) (Tt/\Tt/\A z1/\A ((8:Int)=z7)) (T3 (Tt/\(∃g_2:Nat,A ((ch2 g g_1).pre g_2)/\(z4/\z5/\z0/\z0/\z6/\(q1 z3)/\A (z13=z13)/\(A (g.P.m z3.toNat=g.P.m g_1)/\∀i:Nat,i<g.P.m g_1->((Tt/\A z1/\A ((g.P.p z3.toNat i).y=(g.P.p g_1 i).y))/\A z1/\A ((g.P.p z3.toNat i).x0=(g.P.p g_1 i).x0))/\A z1/\A ((g.P.p z3.toNat i).x1=(g.P.p g_1 i).x1))/\(A z1/\A ((↑(g.P.m z3.toNat):Int)=z12))/\(A z1/\A (z7=(↑g_2:Int)))/\Tt)/\(((((((((Tt/\A (g.P.m z3.toNat=g.P.m g_1)/\∀i:Nat,i<g.P.m g_1->((Tt/\A z1/\A ((g.P.p z3.toNat i).y=(g.P.p g_1 i).y))/\A z1/\A ((g.P.p z3.toNat i).x0=(g.P.p g_1 i).x0))/\A z1/\A ((g.P.p z3.toNat i).x1=(g.P.p g_1 i).x1))/\A z2/\A (g.P.ink z3.toNat z13=g.P.ink g_1 z13))/\A z2/\A (g.P.ink z3.toNat (1:Nat)=g.P.ink g_1 (1:Nat)))/\A z2/\A (g.P.ink z3.toNat (2:Nat)=g.P.ink g_1 (2:Nat)))/\A z2/\A (g.P.ink z3.toNat (3:Nat)=g.P.ink g_1 (3:Nat)))/\A z2/\A (g.P.ink z3.toNat (4:Nat)=g.P.ink g_1 (4:Nat)))/\A z2/\A (g.P.ink z3.toNat (5:Nat)=g.P.ink g_1 (5:Nat)))/\A z2/\A (g.P.ink z3.toNat (6:Nat)=g.P.ink g_1 (6:Nat)))/\A z2/\A (g.P.ink z3.toNat (7:Nat)=g.P.ink g_1 (7:Nat)))/\Tt)/\∀g_2:Nat,let z17:=(↑g_2:Int);let z8:=(g.P.p g_1 z17.toNat);(ch2 g g_1).pre g_2->Tt/\K (decide (z17<z12)) (A (z7<=z17/\z17<z12)/\T7 (K (decide (z8.y<z7)) (T7 (A z1/\A z16)) (T3 (A (z9<=(16:Int)*z14/\(16:Int)*z14<=z11)/\T3 (K (decide ((16:Int)*z14<=z8.y)) (T5 (A z1/\A z16)) (T5 (K (decide (z8.x0<z7)) (T3 (A z1/\A z16)) (T3 (A (z9<=(16:Int)*z15/\(16:Int)*z15<=z11)/\Tt/\Tt/\K (decide ((16:Int)*z15<z8.x1)) z23 (A (z9<=z17+z22/\z17+z22<=z11)/\Tt/\∃(g':Nat),A ((ch2 g g_1).pre g')/\((z4/\z5/\z0/\z0/\z6/\(q1 z3)/\A (z13=z13)/\(A (g.P.m g_1=g.P.m g_1)/\∀i:Nat,let z19:=(g.P.p g_1 i);i<g.P.m g_1->((Tt/\q1 z19.y)/\q1 z19.x0)/\q1 z19.x1)/\(q1 z12)/\(A z1/\A (z17+z22=(↑g':Int)))/\Tt)/\(chp (Tt/\A (g.P.m g_1=g.P.m g_1)/\∀i:Nat,let z20:=(g.P.p g_1 i);i<g.P.m g_1->((Tt/\q1 z20.y)/\q1 z20.x0)/\q1 z20.x1) (λj:Nat=>q2 (g.P.ink g_1 j)) 8)/\Tt)/\A ((ch2 g g_1).meas g'<(ch2 g g_1).meas g_2))))))))))) (T3 (Tt/\K (decide (g.P.ink g_1 z13=z7)&&(decide (g.P.ink g_1 (1:Nat)=z7)&&(decide (g.P.ink g_1 (2:Nat)=z7)&&(decide (g.P.ink g_1 (3:Nat)=z7)&&(decide (g.P.ink g_1 (4:Nat)=z7)&&(decide (g.P.ink g_1 (5:Nat)=z7)&&(decide (g.P.ink g_1 (6:Nat)=z7)&&(decide (g.P.ink g_1 (7:Nat)=z7)&&true)))))))) (Tt/\Tt/\A z1/\A ((4:Int)=z7)) (A (z9<=z3+z22/\z3+z22<=z11)/\Tt/\∃(g':Nat),A ((ch1 g).pre g')/\((z4/\z5/\z0/\z0/\z6/\(A z1/\A (z3+z22=(↑g':Int)))/\Tt)/\Tt)/\A ((ch1 g).meas g'<(ch1 g).meas g_1))))))))) (Tt/\((z0/\Tt)/\A (PcOK g.P))/\Tt/\Tt/\q1 z7))))))) ?_;simp only[chp];simp only[cln,ly,lO];simp only[Nat.reduceAdd,zer,lE,xW];have hw:=hg.w;have hh:=hg.h;have hn:=hg.P.n;have hsz:(decide (1<=(g.w:Int))&&(decide ((g.w:Int)<=256)&&(decide (1<=(g.h:Int))&&decide ((g.h:Int)<=256))))=true:=by
  simp only[lr,lE];omega
 refine⟨λh=>(by rw[hsz]at h;cases h),λ_=>⟨λh=>by omega,λ_=>⟨⟨0,lB _,rfl⟩,λk hk=>⟨λhlt=>?_,λ_=>hg.P⟩⟩⟩⟩;have hkn:k<g.P.n:=by omega
 have hv:=hg.P.v k hkn;have hl:=ao3 hv;have hm:g.P.m k<=300000000:=by
  have e:(Pcs.L g.P k).length=g.P.m k:=aq7 _ _;rwa[e]at hl
 have hne:=hg.P.ne k hkn;refine⟨by omega,⟨hv,by omega⟩,λh=>by omega,λ_=>⟨⟨0,⟨hkn,lB _⟩,rfl⟩,λj hj=>⟨λhjl=>?_,λ_=>⟨λh=>absurd h (hg.nz k hkn),λ_=>⟨by omega,k+1,hkn,by omega,by show g.P.n-(k+1)<g.P.n-k;omega⟩⟩⟩⟩⟩;have hr:=hg.r k j hkn (by omega);exact⟨by omega,λh=>by omega,λ_=>⟨by omega,λh=>by omega,λ_=>⟨λh=>by omega,λ_=>⟨by omega,λh=>by omega,λ_=>⟨by omega,j+1,⟨hkn,by omega⟩,by omega,by show g.P.m k-(j+1)<g.P.m k-j;omega⟩⟩⟩⟩⟩
end Apt
namespace Wid
def mx(f:Nat->Int)(a:Nat):Nat->Int
 |0=>0
 |k+1=>max (mx f a k) (f (a+k))
theorem cr5{f:Nat->Int}{a:Nat}:∀{k j},a<=j->j<a+k->f j<=mx f a k
 |0,j,h1,h2=>by omega
 |k+1,j,h1,h2=>by
  unfold mx;by_cases h:j=a+k
  ·subst h;omega
  ·have:=cr5 (f:=f) (a:=a) (k:=k) h1 (by omega);omega
theorem cr3(f:Nat->Int)(a:Nat):∀k,0<=mx f a k
 |0=>xp _
 |k+1=>by have:=cr3 f a k;unfold mx;omega
theorem cr4{f:Nat->Int}{a:Nat}{v:Int}(hv:0<=v):∀{k},(∀j,a<=j->j<a+k->f j<=v)->mx f a k<=v
 |0,_=>hv
 |k+1,h=>by
  have h1:=cr4 (f:=f) (a:=a) hv (k:=k) λj h1 h2=>h j h1 (by omega)
  have h2:=h (a+k) (by omega) (by omega);unfold mx;omega
def wid(f:Nat->Int)(n r i:Nat):Int:=mx f (i-r) (min n (i+r+1)-(i-r))
theorem bq7{f:Nat->Int}{n r i j:Nat}(h1:i<=j+r)(h2:j<=i+r)(h3:j<n):f j<=wid f n r i:=cr5 (by omega) (by omega)
theorem bE2(f:Nat->Int)(n r i:Nat):0<=wid f n r i:=cr3 _ _ _
theorem bb2{f:Nat->Int}{n r i:Nat}{v:Int}(hv:0<=v)(h:∀j,i<=j+r->j<=i+r->j<n->f j<=v):wid f n r i<=v:=cr4 hv λj h1 h2=>h j (by omega) (by omega) (by omega)
theorem bq6{f g:Nat->Int}{n r s i:Nat}(hr:r<=s)(h:∀j<n,f j<=g j):wid f n r i<=wid g n s i:=
 bb2 (bE2 _ _ _ _) λj h1 h2 h3=>Int.le_trans (h j h3) (bq7 (by omega) (by omega) h3)
theorem b90{f:Nat->Int}{n r i:Nat}{m:Int}(hm:0<=m)(h:∀j<n,f j<=m):wid f n r i<=m:=bb2 hm λj _ _ h3=>h j h3
theorem bb3{f g:Nat->Int}{n r i:Nat}(h:∀j<n,f j=g j):wid f n r i=wid g n r i:=
 uX (bq6 (lh _) λj hj=>Int.le_of_eq (h j hj)) (bq6 (lh _) λj hj=>Int.le_of_eq (h j hj).symm)
structure Qu where
 m:Nat
 q:Nat->Nat
structure Wp(f:Nat->Int)(Q:Qu)(lo nx:Nat)(c:Prop):Prop where
 srt:∀i j,i<j->j<Q.m->Q.q i<Q.q j
 fal:∀i j,i<j->j<Q.m->f (Q.q j)<f (Q.q i)
 lt:∀i<Q.m,Q.q i<nx
 cov:∀j,lo<=j->j<nx->(∃i,i<Q.m/\j<=Q.q i/\f j<=f (Q.q i))\/(c/\f j<=f nx)
def Qu.pop(Q:Qu):Qu:=⟨Q.m-1,Q.q⟩
def Qu.front(Q:Qu):Qu:=⟨Q.m-1,λi=>Q.q (i+1)⟩
def Qu.push(Q:Qu)(x:Nat):Qu:=⟨Q.m+1,λi=>bif decide (i<Q.m)then Q.q i else x⟩
theorem Wp.nil(f:Nat->Int)(q:Nat->Nat):Wp f ⟨0,q⟩ 0 0 False:=⟨λ_ _ _ h=>absurd h (ln _),λ_ _ _ h=>absurd h (ln _),λ_ h=>absurd h (ln _),λj _ h=>absurd h (ln _)⟩
theorem Wp.lo{f Q lo lo' nx c}(h:Wp f Q lo nx c)(hl:lo<=lo'):Wp f Q lo' nx c:=⟨h.srt,h.fal,h.lt,λj h1 h2=>h.cov j (by omega) h2⟩
theorem Wp.open{f Q lo nx}(h:Wp f Q lo nx False):Wp f Q lo nx True:=⟨h.srt,h.fal,h.lt,λj h1 h2=>(h.cov j h1 h2).elim .inl λh=>h.1.elim⟩
theorem Wp.pop{f Q lo nx}(h:Wp f Q lo nx True)(hp:0<Q.m)(hl:f (Q.q (Q.m-1))<=f nx):Wp f Q.pop lo nx True:=by
 refine⟨λi j h1 h2=>?_,λi j h1 h2=>?_,λi hi=>?_,λj h1 h2=>?_⟩
 ·have h2:j<Q.m-1:=h2;exact h.srt i j h1 (by omega)
 ·have h2:j<Q.m-1:=h2;exact h.fal i j h1 (by omega)
 ·have hi:i<Q.m-1:=hi;exact h.lt i (by omega)
 ·rcases h.cov j h1 h2 with⟨i,h3,h4,h5⟩|h3
  ·by_cases hi:i=Q.m-1
   ·subst hi;exact .inr ⟨trivial,by omega⟩
   ·exact .inl ⟨i,by show i<Q.m-1;omega,h4,h5⟩
  ·exact .inr h3
theorem Wp.push{f Q lo nx}(h:Wp f Q lo nx True)(hl:0<Q.m->f nx<f (Q.q (Q.m-1))):Wp f (Q.push nx) lo (nx+1) False:=by
 have old:∀i<Q.m,(Q.push nx).q i=Q.q i:=λi hi=>by show(bif decide (i<Q.m)then _ else _)=_;rw[lg hi];rfl
 have new:(Q.push nx).q Q.m=nx:=by show(bif decide (Q.m<Q.m)then _ else _)=_;rw[lf (xt _)];rfl
 have hm:(Q.push nx).m=Q.m+1:=rfl;refine⟨λi j h1 h2=>?_,λi j h1 h2=>?_,λi hi=>?_,λj h1 h2=> .inl ?_⟩
 ·rw[hm]at h2;by_cases hj:j=Q.m
  ·rw[hj,new,old i (by omega)];exact h.lt i (by omega)
  ·rw[old i (by omega),old j (by omega)];exact h.srt i j h1 (by omega)
 ·rw[hm]at h2;by_cases hj:j=Q.m
  ·rw[hj,new,old i (by omega)];by_cases hi:i=Q.m-1
   ·rw[hi];exact hl (by omega)
   ·have:=h.fal i (Q.m-1) (by omega) (by omega)
    have:=hl (by omega)
    omega
  ·rw[old i (by omega),old j (by omega)];exact h.fal i j h1 (by omega)
 ·rw[hm]at hi;by_cases hj:i=Q.m
  ·rw[hj,new];omega
  ·rw[old i (by omega)];have:=h.lt i (by omega);omega
 ·by_cases hj:j=nx
  ·exact⟨Q.m,by rw[hm];omega,by rw[new];omega,by rw[new,hj];exact xp _⟩
  ·rcases h.cov j h1 (by omega)with⟨i,h3,h4,h5⟩|h3
   ·exact⟨i,by rw[hm];omega,by rw[old i h3];exact h4,by rw[old i h3];exact h5⟩
   ·exact⟨Q.m,by rw[hm];omega,by rw[new];omega,by rw[new];exact h3.2⟩
theorem Wp.front{f Q lo nx}(h:Wp f Q lo nx False)(hl:Q.q 0<lo):Wp f Q.front lo nx False:=by
 refine⟨λi j h1 h2=>?_,λi j h1 h2=>?_,λi hi=>?_,λj h1 h2=>?_⟩
 ·have h2:j<Q.m-1:=h2;exact h.srt (i+1) (j+1) (by omega) (by omega)
 ·have h2:j<Q.m-1:=h2;exact h.fal (i+1) (j+1) (by omega) (by omega)
 ·have hi:i<Q.m-1:=hi;exact h.lt (i+1) (by omega)
 ·rcases h.cov j h1 h2 with⟨i,h3,h4,h5⟩|h3
  ·cases i with
   |zero=>omega
   |succ i=>exact .inl ⟨i,by show i<Q.m-1;omega,h4,h5⟩
  ·exact h3.1.elim
theorem Wp.some{f Q lo nx i}(h:Wp f Q lo nx False)(h1:lo<=i)(h2:i<nx):0<Q.m:=by
 rcases h.cov i h1 h2 with⟨k,h3,_⟩|h3
 ·omega
 ·exact h3.1.elim
theorem Wp.id{f Q lo nx c}(h:Wp f Q lo nx c):∀i<Q.m,i<=Q.q i
 |0,_=>lB _
 |i+1,hi=>by have:=h.srt i (i+1) (by omega) hi;have:=h.id i (by omega);omega
theorem Wp.le{f Q lo nx c}(h:Wp f Q lo nx c):Q.m<=nx:=by
 by_cases hm:Q.m=0
 ·omega
 ·have:=h.id (Q.m-1) (by omega);have:=h.lt (Q.m-1) (by omega);omega
theorem Wp.head{f Q n r i nx}(h:Wp f Q (i-r) nx False)(hi:i<n)(hnx:nx=min n (i+r+1))(h0:i-r<=Q.q 0)(hf:∀j<n,0<=f j):f (Q.q 0)=wid f n r i:=by
 have hp:=h.some (i:=i) (by omega) (by omega);have hlt:=h.lt 0 hp;refine uX (bq7 (by omega) (by omega) (by omega)) (bb2 (hf _ (by omega)) λj h1 h2 h3=>?_);rcases h.cov j (by omega) (by omega)with⟨k,h4,h5,h6⟩|h4
 ·by_cases hk:k=0
  ·subst hk;exact h6
  ·have:=h.fal 0 k (by omega) h4;omega
 ·exact h4.1.elim
end Wid
namespace Sx
open Go.RowKit
def cs8:SV->Prop
 |.int ..=>True
 |.bool _=>True
 |.lit _=>True
 |.str _=>True
 |_=>False
theorem b02{w w' X X' E E' sv v}(hf:cs8 sv)(h:R w X E sv v):R w' X' E' sv v:=by
 cases h<;>first|exact hf.elim|constructor
def bo0:SO->Prop
 |.row _ len n g _=>∀i j,i<len->j<n->cs8 (g i j)
 |_=>False
theorem Rep.hide{X:Nat->Prop}{w w':World}{row:SO}{E:Env}(h:Rep w (Fr.of λ_=>False) [row] E w')(hx:∀b,X b->b<w.heap.size)(hf:bo0 row):Rep w (Fr.of X) [row] E w':=by
 refine⟨h.below,λb hb=>⟨hx b hb,id⟩,h.nm,h.dom,λk e he=>?_,h.low,h.inj⟩;have hk:k=0:=by have:=h.dom k e he;simpa using this
 subst hk;have hok:=h.ok 0 e he;have hrow:[row].getD 0 SO.dead=row:=rfl;rw[hrow]at hok⊢;cases row<;>simp only[bo0]at hf
 rename_i ver len n g T;cases e with
 |blk b=>exact hok
 |slc ver' v us=>
  obtain⟨h1,xs,h2,h3⟩:=hok;exact⟨h1,xs,h2,λi j hi hj=>⟨(h3 i j hi hj).1,b02 (hf i j hi hj) (h3 i j hi hj).2⟩⟩
def bZ1(f:FuncId){γ:Type}(dec:List SV->Option γ)(args:γ->List SV)(pre:γ->Prop)(row:γ->SO):FSpec:=
 {f:=f,eff:=false,run:=λl H nm=>match ay9 H l with
  | some l'=>match dec l' with
    |some g=>some ⟨aa9.leArgs l' (args g)/\Aq (pre g),big [.dead] [nm] (.osl 0 0),.new (bigO [.dead] [nm] 0 (row g))⟩
    |none=>none
  |none=>none}
theorem bc6{P:Program}{specs:List FSpec}(hspecs:∀s∈specs,aa5 P s){eqs:List (TypeId×List CK)}(heqs:∀t n,(t,n)∈eqs->EqOK P t n)(hm:P.follows .mixedOrders=true)
  {f:FuncId}{fn:Func}{body:Code}(hf:P.funcs[f]?=some fn) (hb:fn.body=some body) (_:al7 (effS specs) body=true) (hent:∀args w,(callFunc f args).run P w=.ok (.enter f args) w)
  {γ:Type}{dec:List SV->Option γ}{args:γ->List SV}{pre:γ->Prop}{row:γ->SO}(A:γ->Ann) (k:γ->Nat) (hlen:∀g,(args g).length<=fn.ntmps) (hflat:∀g,bo0 (row g))
  (h:∀g,pre g->vc P specs eqs fn.ntmps 0 false (A g) body (retN P fn (k g) (.osl 0 0) (row g)) ⟨as7 0 (args g),[]⟩):aa5 P (bZ1 f dec args pre row):=by
 refine⟨hent,λl H HF nm y he _ hrun=>?_,λl H nm y hrun hp w0 X0 E w hrep hfree vals ha=>?_⟩
 ·simp only[bZ1]at hrun⊢;split at hrun
  case h_2=>cases hrun
  rename_i l' hl';rw[aP4 he hl'];exact hrun
 simp only[bZ1]at hrun;split at hrun
 case h_2=>cases hrun
 rename_i l' hl';split at hrun
 case h_2=>cases hrun
 rename_i g hdec;cases hrun;obtain⟨hle,⟨hpre⟩⟩:=hp;obtain⟨hll,hle⟩:=am1 hle;obtain⟨p1,p2⟩:=aC1 hrep hl';have hr:∀i<l'.length,R w (λ_=>False) E0 (l'.getD i .any) (vals.getD i undef):=λi hi=>p2 i _ (by omega) (ha.2 i (by omega))
 have hsz:=ha.1;have hxo:Xo (Fr.of λ_=>False) E0 []=λ_=>False:=by
  funext b;apply propext;exact⟨λhb=>hb.elim id (λ⟨k,e,he,_⟩=>(nomatch he)),λhb=>hb.elim⟩
 have hT:=am2 fn.ntmps vals (args g) w (λ_=>False) E0 (by omega) (hlen g) (λi hi=>bA3 (λ_ hb=>hb) (hle i hi) (hr i (by omega)));refine an2 (w0:=w) (X0:=Fr.of λ_=>False) (G:=bb4 P fn (k g) (.osl 0 0) (row g)) hf hb (aZ4 (w0:=w) (X0:=Fr.of λ_=>False) hspecs heqs hm body (.inl rfl) (λ_=>rfl) (λk hk=>absurd rfl hk) _ _ _ _ (h g hpre) (λe s a w' hk hs=>?walk) _ w ?start) (λs a w' hk _ hs=>?fin)
 case walk=>
  cases e with
  |normal=>exact⟨s,hk,hs⟩
  |ret=>exact⟨s,hk,hs⟩
  |exit id=>exact hk.elim
 case fin=>
   obtain⟨E1,hrep1,htr⟩:=hs;unfold bb4 at hk;split at hk
   case h_2=>exact hk.elim
   rename_i p l hres;obtain⟨hp,hk⟩:=hk;obtain⟨v,hv1,hv2⟩:=aj3 rfl hrep1 htr hres hp;split at hk
   case h_2=>exact hk.elim
   rename_i hal;have hal':(aa4 s.H [k g]).all aq5=true:=by simp only[aa4,xQ,List.map_nil,lao,hal,List.all_nil,Bool.and_self]
   obtain⟨p1,p2⟩:=hrep1.pick (ks:=[k g]) rfl hal';obtain⟨p3,p4⟩:=p1.le (m:=0) hk.2 (λk hk=>absurd rfl hk) (by simp[NmLe,uI (lB _)]);have hsv:=ah1 p4 (λk ver v us he ver' hr=>ax4 (p1.ok k _ he) hr) (ao8 hk.1 0) (bj7 p2 (hrep1.aZ3 hal') hv2);have p5:=p3.hide (X:=Xo X0 E H) (λb hb=>hrep.xlt b hb) (hflat g);refine⟨v,hv1,v,rfl,Goes.b58 hrep hfree p5 ?_⟩;cases hsv with
   |osl he hv=>exact .osl he hv
   |oslOld he hl hv=>exact .oslOld he hl hv
 case start=>
  refine⟨E0,⟨Bel.refl _ _,λb hb=>hb.elim,λk e he=>(nomatch he),λk e he=>(nomatch he),λk e he=>(nomatch he),λk e b he=>(nomatch he),λk k' e e' b he=>(nomatch he)⟩,hT.1,aA4.nil _ _ _,λt ht=>?_⟩;rw[hxo];exact hT.2 t ht
end Sx
end Go.Proofs.YtnhecfkpiojmhaaGreat
