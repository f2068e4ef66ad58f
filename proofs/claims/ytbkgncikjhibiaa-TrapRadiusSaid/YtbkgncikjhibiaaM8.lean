import Derived.Test.YtbkgncikjhibiaaM7
set_option linter.unusedSimpArgs false
set_option linter.unusedVariables false
set_option linter.unusedSectionVars false
/- Part 8 of the texts that the law's proof leans on. -/
namespace Go.Proofs.Ytbkgncikjhibiaa
namespace Cel
open Go.RowKit Sx Num Aff Con Rga Gat Gar
set_option maxRecDepth 100000
theorem eight {a b:Vec}(h:∀ j,j<8->a j=b j):((((((a 0=b 0/\a 1=b 1)/\a 2=b 2)/\a 3=b 3)/\a 4=b 4)/\a 5=b 5)/\a 6=b 6)/\a 7=b 7:=
 ⟨⟨⟨⟨⟨⟨⟨h 0 (by omega),h 1 (by omega)⟩,h 2 (by omega)⟩,h 3 (by omega)⟩,h 4 (by omega)⟩,h 5 (by omega)⟩,h 6 (by omega)⟩,h 7 (by omega)⟩
structure CeG where
 w:Nat
 h:Nat
 P:Pcs
def put (c:Nat->Vec) (a b:Nat) (v:Vec) (i:Nat):Vec:=bif decide (a<=i/\i<b) then v else c i
def rwAt (w:Nat) (r:Rn):Nat:=r.y.toNat*(16*w)
def putR (w:Nat) (c:Nat->Vec) (r:Rn) (v:Vec):Nat->Vec:=put c (rwAt w r+r.x0.toNat) (rwAt w r+r.x1.toNat) v
def ceR (g:CeG) (c:Nat->Vec) (k:Nat):Nat->Nat->Vec
 | 0=>c
 | r+1=>putR g.w (ceR g c k r) (g.P.p k r) (g.P.ink k)
def ceP (g:CeG):Nat->Nat->Vec
 | 0=>fun _ _=>0
 | k+1=>ceR g (ceP g k) k (g.P.m k)
def ceB (g:CeG):Nat->Vec:=ceP g g.P.n
structure CeG.Ok (g:CeG):Prop where
 w:1<=g.w/\g.w<=256
 h:1<=g.h/\g.h<=256
 n:g.P.n<=4096
 m:∀ k,k<g.P.n->g.P.m k<=4294967296
 r:∀ k r,k<g.P.n->r<g.P.m k->(0<=(g.P.p k r).y/\(g.P.p k r).y<16*g.h)/\(0<=(g.P.p k r).x0/\(g.P.p k r).x0<(g.P.p k r).x1)/\(g.P.p k r).x1<=16*g.w
def ceO (g:CeG) (c:Nat->Vec):SO:= .row 0 (256*g.w*g.h) 8 (fun i j=> .int .u8 (c i j)) 33
def ce1 (g:CeG):Inv:=⟨Nat,fun k=>k<=g.P.n,fun k=>⟨[(0,.int .i64 g.w),(7,.osl 0 0),(19,pcS g.P),(20,.int .i64 g.P.n),(21,.int .i64 k)],[ceO g (ceP g k)]⟩,fun k=>g.P.n-k⟩
def ce2 (g:CeG) (k:Nat):Inv:=⟨Nat,fun r=>k<g.P.n/\r<=g.P.m k,fun r=>⟨[(0,.int .i64 g.w),(7,.osl 0 0),(19,pcS g.P),(20,.int .i64 g.P.n),(21,.int .i64 k),(9,.own 1 0),(26,rgS ⟨g.P.m k,g.P.p k⟩),(27,.int .i64 (g.P.m k)),(28,.int .i64 r)],
 [ceO g (ceR g (ceP g k) k r),.cells 9 (pcC g.P k) 35]⟩,fun r=>g.P.m k-r⟩
def ce3 (g:CeG) (k r:Nat):Inv:=⟨Nat,fun x=>(k<g.P.n/\r<g.P.m k)/\(g.P.p k r).x0<=x/\x<=(g.P.p k r).x1,
 fun x=>⟨[(0,.int .i64 g.w),(7,.osl 0 0),(19,pcS g.P),(20,.int .i64 g.P.n),(21,.int .i64 k),(9,.own 1 0),(26,rgS ⟨g.P.m k,g.P.p k⟩),(27,.int .i64 (g.P.m k)),(28,.int .i64 r),(11,.own 2 0),(12,.win 0 0 8 (rwAt g.w (g.P.p k r)) (256*g.w*g.h-rwAt g.w (g.P.p k r))),(13,.int .i64 x)],
 [ceO g (put (ceR g (ceP g k) k r) (rwAt g.w (g.P.p k r)+(g.P.p k r).x0.toNat) (rwAt g.w (g.P.p k r)+x) (g.P.ink k)),.cells 9 (pcC g.P k) 35,.cells 3 (lst (rnL (g.P.p k r))) 43]⟩,fun x=>((g.P.p k r).x1-x).toNat⟩
def bA0:FSpec:=bg3 23 (γ:=CeG) (fun | [.int _ w,.int _ h,p]=>some ⟨w.toNat,h.toNat,pcD p⟩ | _=>none) (fun g=>[.int .i64 g.w,.int .i64 g.h,pcS g.P])
 (fun g=>g.Ok) (fun _=> .osl 0 0) (fun g=>ceO g (ceB g))
theorem bM8:aa9 Tw.prog bA0:=by
 refine bf3 (specs:=[]) (ac7 trivial) (eqs:=[]) (fun _ _ h=>(lx h).elim) Aff.mixed Tw.func23 rfl (by kernel_rfl) (fun _ _=>by kernel_rfl)
  (fun g=>(⟨[(3,.nest (ce1 g) (fun k=>[(6,.nest (ce2 g k) (fun r=>[(10,.inv (ce3 g k r))]))]))],[]⟩:Ann)) (fun _=>0) (fun g=>li (by kernel_rfl)) ?_
 rintro g hg;refine af7 (B:=let T4:=fun p:Prop=>True/\True/\True/\True/\p;let K:=Int.ofNat;let A:=Sx.Ask;let z45:=(1:Int);let z44:=(8:Nat);let z43:=(16:Int);let z37:=(↑g.h:Int);let z36:=(256:Int);let z34:=(0:Int);let z30:=(7:Nat);let z29:=(6:Nat);let z28:=(5:Nat);let z27:=(4:Nat);let z26:=(3:Nat);let z25:=(2:Nat);let z24:=(1:Nat);let z20:=(↑g.w:Int);let z19:=(256:Nat);let z35:=(z19*g.w*g.h);let z18:=(-9223372036854775808:Int);let z17:=(9223372036854775807:Int);let z14:=(z19*g.w*g.h=z19*g.w*g.h);let z11:=(0:Nat);let z46:=(z11=z11);let z4:=(IntKind.i64=IntKind.i64);let q4:=fun p:Int=>A z4/\A (p=p);let z15:=(q4 z20);let z10:=(q4 ((↑g.P.n:Int)));let z2:=(IntKind.u8=IntKind.u8);let q2:=fun p:Int=>A z2/\A (p=p);let z0:=(A (g.P.n=g.P.n)/\∀ i:Nat,i<g.P.n->(chp (True/\A (g.P.m i=g.P.m i)/\∀ i_1:Nat,let z39:=(g.P.p i i_1); i_1<g.P.m i->((True/\q4 z39.y)/\q4 z39.x0)/\q4 z39.x1) (fun j:Nat=>q2 (g.P.ink i j)) 7)/\q2 (g.P.ink i z30));True/\True/\A (z18<=z36*z20/\z36*z20<=z17)/\True/\A (z18<=z36*z20*z37/\z36*z20*z37<=z17)/\A (z34<=z36*z20*z37/\z36*z20*z37<=z36*z20*z37/\(↑z44:Int)*(z36*z20*z37)<=(140737488355328:Int)/\z36*z20*z37<=z17)/\T4 ((∃ g_1:Nat,A ((ce1 g).pre g_1)/\(z15/\True/\z0/\z10/\(A z4/\A (z34=(↑g_1:Int)))/\True)/\(A ((z36*z20*z37).toNat=z19*g.w*g.h)/\∀ i:Nat,i<z19*g.w*g.h->(chp True (fun j:Nat=>A z2/\A (z34=ceP g g_1 i j)) 7)/\A z2/\A (z34=ceP g g_1 i z30))/\True)/\∀ g_1:Nat,let z21:=(↑(g.P.m g_1):Int);let z38:=(q4 z21);let z16:=(ceP g g_1);let z12:=(↑g_1:Int);let z32:=(q4 z12);let z9:=(g.P.ink g_1);let z7:=(A (g.P.m g_1=g.P.m g_1)/\∀ i:Nat,let z40:=(g.P.p g_1 i); i<g.P.m g_1->((True/\q4 z40.y)/\q4 z40.x0)/\q4 z40.x1);let z1:=(chp (True/\A (g.P.m g_1=g.P.m g_1)/\∀ i:Nat,let z41:=(g.P.p g_1 i); i<g.P.m g_1->((True/\q4 z41.y)/\q4 z41.x0)/\q4 z41.x1) (fun j:Nat=>q2 (g.P.ink g_1 j)) 8); (ce1 g).pre g_1->True/\Br (decide (z12<(↑g.P.n:Int))) (A (z34<=z12/\z12<(↑g.P.n:Int))/\T4 (True/\True/\True/\(∃ g_2:Nat,A ((ce2 g g_1).pre g_2)/\(z15/\True/\z0/\z10/\z32/\A z46/\(A (g.P.m z12.toNat=g.P.m g_1)/\∀ i:Nat,i<g.P.m g_1->((True/\A z4/\A ((g.P.p z12.toNat i).y=(g.P.p g_1 i).y))/\A z4/\A ((g.P.p z12.toNat i).x0=(g.P.p g_1 i).x0))/\A z4/\A ((g.P.p z12.toNat i).x1=(g.P.p g_1 i).x1))/\(A z4/\A ((↑(g.P.m z12.toNat):Int)=z21))/\(A z4/\A (z34=(↑g_2:Int)))/\True)/\(A z14/\∀ i:Nat,i<z19*g.w*g.h->(((((((True/\A z2/\A (ceP g g_1 i z11=ceR g z16 g_1 g_2 i z11))/\A z2/\A (ceP g g_1 i z24=ceR g z16 g_1 g_2 i z24))/\A z2/\A (ceP g g_1 i z25=ceR g z16 g_1 g_2 i z25))/\A z2/\A (ceP g g_1 i z26=ceR g z16 g_1 g_2 i z26))/\A z2/\A (ceP g g_1 i z27=ceR g z16 g_1 g_2 i z27))/\A z2/\A (ceP g g_1 i z28=ceR g z16 g_1 g_2 i z28))/\A z2/\A (ceP g g_1 i z29=ceR g z16 g_1 g_2 i z29))/\A z2/\A (ceP g g_1 i z30=ceR g z16 g_1 g_2 i z30))/\(((((((((True/\A (g.P.m z12.toNat=g.P.m g_1)/\∀ i:Nat,i<g.P.m g_1->((True/\A z4/\A ((g.P.p z12.toNat i).y=(g.P.p g_1 i).y))/\A z4/\A ((g.P.p z12.toNat i).x0=(g.P.p g_1 i).x0))/\A z4/\A ((g.P.p z12.toNat i).x1=(g.P.p g_1 i).x1))/\A z2/\A (g.P.ink z12.toNat z11=g.P.ink g_1 z11))/\A z2/\A (g.P.ink z12.toNat z24=g.P.ink g_1 z24))/\A z2/\A (g.P.ink z12.toNat z25=g.P.ink g_1 z25))/\A z2/\A (g.P.ink z12.toNat z26=g.P.ink g_1 z26))/\A z2/\A (g.P.ink z12.toNat z27=g.P.ink g_1 z27))/\A z2/\A (g.P.ink z12.toNat z28=g.P.ink g_1 z28))/\A z2/\A (g.P.ink z12.toNat z29=g.P.ink g_1 z29))/\A z2/\A (g.P.ink z12.toNat z30=g.P.ink g_1 z30))/\True)/\∀ g_2:Nat,let z42:=(ce3 g g_1 g_2);let z33:=(↑g_2:Int);let z8:=(g.P.p g_1 z33.toNat);let z6:=(g.P.p g_1 g_2);let z5:=(ceR g z16 g_1 g_2);let z3:=(rwAt g.w z6+z6.x0.toNat); (ce2 g g_1).pre g_2->True/\Br (decide (z33<z21)) (A (z34<=z33/\z33<z21)/\T4 (True/\True/\A (z18<=z8.y*z43/\z8.y*z43<=z17)/\True/\A (z18<=z8.y*z43*z20/\z8.y*z43*z20<=z17)/\A (z34<=z8.y*z43*z20/\z8.y*z43*z20<=K z35/\K z35<=K z35/\K z35<=(↑z35:Int))/\T4 ((∃ g_3:Nat,let z22:=(rwAt g.w z6+g_3); A (z42.pre g_3)/\(z15/\True/\z0/\z10/\z32/\A z46/\z7/\z38/\(q4 z33)/\A z46/\(A ((z8.y*z43*z20).toNat=rwAt g.w z6)/\A ((K z35-z8.y*z43*z20).toNat=z19*g.w*g.h-rwAt g.w z6))/\(A z4/\A (z8.x0=(↑g_3:Int)))/\True)/\(A z14/\∀ i:Nat,i<z19*g.w*g.h->(((((((True/\A z2/\A (ceR g z16 g_1 g_2 i z11=put z5 z3 z22 z9 i z11))/\A z2/\A (ceR g z16 g_1 g_2 i z24=put z5 z3 z22 z9 i z24))/\A z2/\A (ceR g z16 g_1 g_2 i z25=put z5 z3 z22 z9 i z25))/\A z2/\A (ceR g z16 g_1 g_2 i z26=put z5 z3 z22 z9 i z26))/\A z2/\A (ceR g z16 g_1 g_2 i z27=put z5 z3 z22 z9 i z27))/\A z2/\A (ceR g z16 g_1 g_2 i z28=put z5 z3 z22 z9 i z28))/\A z2/\A (ceR g z16 g_1 g_2 i z29=put z5 z3 z22 z9 i z29))/\A z2/\A (ceR g z16 g_1 g_2 i z30=put z5 z3 z22 z9 i z30))/\z1/\(((True/\A z4/\A (z8.y=z6.y))/\A z4/\A (z8.x0=z6.x0))/\A z4/\A (z8.x1=z6.x1))/\True)/\∀ g_3:Nat,let z23:=(↑g_3:Int);let z13:=(rwAt g.w z6+g_3); z42.pre g_3->T4 (Br (decide (z23<z6.x1)) (T4 (A (z34<=z23/\z23<(↑(z19*g.w*g.h-rwAt g.w z6):Int))/\A (rwAt g.w z6+z23.toNat<z19*g.w*g.h)/\True/\A (z18<=z23+z45/\z23+z45<=z17)/\True/\∃ (g':Nat),let z31:=(rwAt g.w z6+g'); A (z42.pre g')/\((z15/\True/\z0/\z10/\z32/\A z46/\z7/\z38/\(q4 z33)/\A z46/\(A (rwAt g.w z6=rwAt g.w z6)/\A (z19*g.w*g.h-rwAt g.w z6=z19*g.w*g.h-rwAt g.w z6))/\(A z4/\A (z23+z45=(↑g':Int)))/\True)/\(A z14/\∀ i:Nat,i<z19*g.w*g.h->(((((((True/\A z2/\A ((bif decide (i=rwAt g.w z6+z23.toNat/\z11<=z11/\z11<z11+z44) then g.P.ink g_1 z11 else put z5 z3 z13 z9 i z11)=put z5 z3 z31 z9 i z11))/\A z2/\A ((bif decide (i=rwAt g.w z6+z23.toNat/\z11<=z24/\z24<z11+z44) then g.P.ink g_1 z24 else put z5 z3 z13 z9 i z24)=put z5 z3 z31 z9 i z24))/\A z2/\A ((bif decide (i=rwAt g.w z6+z23.toNat/\z11<=z25/\z25<z11+z44) then g.P.ink g_1 z25 else put z5 z3 z13 z9 i z25)=put z5 z3 z31 z9 i z25))/\A z2/\A ((bif decide (i=rwAt g.w z6+z23.toNat/\z11<=z26/\z26<z11+z44) then g.P.ink g_1 z26 else put z5 z3 z13 z9 i z26)=put z5 z3 z31 z9 i z26))/\A z2/\A ((bif decide (i=rwAt g.w z6+z23.toNat/\z11<=z27/\z27<z11+z44) then g.P.ink g_1 z27 else put z5 z3 z13 z9 i z27)=put z5 z3 z31 z9 i z27))/\A z2/\A ((bif decide (i=rwAt g.w z6+z23.toNat/\z11<=z28/\z28<z11+z44) then g.P.ink g_1 z28 else put z5 z3 z13 z9 i z28)=put z5 z3 z31 z9 i z28))/\A z2/\A ((bif decide (i=rwAt g.w z6+z23.toNat/\z11<=z29/\z29<z11+z44) then g.P.ink g_1 z29 else put z5 z3 z13 z9 i z29)=put z5 z3 z31 z9 i z29))/\A z2/\A ((bif decide (i=rwAt g.w z6+z23.toNat/\z11<=z30/\z30<z11+z44) then g.P.ink g_1 z30 else put z5 z3 z13 z9 i z30)=put z5 z3 z31 z9 i z30))/\z1/\(((True/\q4 z6.y)/\q4 z6.x0)/\q4 z6.x1)/\True)/\A (z42.meas g'<z42.meas g_3))) (A (z18<=z33+z45/\z33+z45<=z17)/\True/\∃ (g':Nat),A ((ce2 g g_1).pre g')/\((z15/\True/\z0/\z10/\z32/\A z46/\z7/\z38/\(A z4/\A (z33+z45=(↑g':Int)))/\True)/\(A z14/\∀ i:Nat,i<z19*g.w*g.h->(((((((True/\A z2/\A (put z5 z3 z13 z9 i z11=ceR g z16 g_1 g' i z11))/\A z2/\A (put z5 z3 z13 z9 i z24=ceR g z16 g_1 g' i z24))/\A z2/\A (put z5 z3 z13 z9 i z25=ceR g z16 g_1 g' i z25))/\A z2/\A (put z5 z3 z13 z9 i z26=ceR g z16 g_1 g' i z26))/\A z2/\A (put z5 z3 z13 z9 i z27=ceR g z16 g_1 g' i z27))/\A z2/\A (put z5 z3 z13 z9 i z28=ceR g z16 g_1 g' i z28))/\A z2/\A (put z5 z3 z13 z9 i z29=ceR g z16 g_1 g' i z29))/\A z2/\A (put z5 z3 z13 z9 i z30=ceR g z16 g_1 g' i z30))/\z1/\True)/\A ((ce2 g g_1).meas g'<(ce2 g g_1).meas g_2)))))) (A (z18<=z12+z45/\z12+z45<=z17)/\True/\∃ (g':Nat),A ((ce1 g).pre g')/\((z15/\True/\z0/\z10/\(A z4/\A (z12+z45=(↑g':Int)))/\True)/\(A z14/\∀ i:Nat,i<z19*g.w*g.h->(((((((True/\A z2/\A (ceR g z16 g_1 g_2 i z11=ceP g g' i z11))/\A z2/\A (ceR g z16 g_1 g_2 i z24=ceP g g' i z24))/\A z2/\A (ceR g z16 g_1 g_2 i z25=ceP g g' i z25))/\A z2/\A (ceR g z16 g_1 g_2 i z26=ceP g g' i z26))/\A z2/\A (ceR g z16 g_1 g_2 i z27=ceP g g' i z27))/\A z2/\A (ceR g z16 g_1 g_2 i z28=ceP g g' i z28))/\A z2/\A (ceR g z16 g_1 g_2 i z29=ceP g g' i z29))/\A z2/\A (ceR g z16 g_1 g_2 i z30=ceP g g' i z30))/\True)/\A ((ce1 g).meas g'<(ce1 g).meas g_1)))) (True/\True/\True/\(True/\True)/\(A z14/\∀ i:Nat,i<z19*g.w*g.h->(((((((True/\A z2/\A (ceP g g_1 i z11=ceB g i z11))/\A z2/\A (ceP g g_1 i z24=ceB g i z24))/\A z2/\A (ceP g g_1 i z25=ceB g i z25))/\A z2/\A (ceP g g_1 i z26=ceB g i z26))/\A z2/\A (ceP g g_1 i z27=ceB g i z27))/\A z2/\A (ceP g g_1 i z28=ceB g i z28))/\A z2/\A (ceP g g_1 i z29=ceB g i z29))/\A z2/\A (ceP g g_1 i z30=ceB g i z30))/\True))) (by kernel_rfl) ?_;simp only [chp];simp only [cln,ly,xb];simp only [xm];have hw:=hg.w;have hh:=hg.h;have hn:=hg.n;have e3:256*g.w*g.h<=256*256*256:=uX (Nat.mul_le_mul_left _ hw.2) hh.2;have c1:(256*(g.w:Int)*g.h)=((256*g.w*g.h:Nat):Int):=by simp
 rw [c1];refine ⟨by omega,by omega,by omega,⟨0,lE _,rfl,ly _,fun i _=>eight (a:=fun _=>0) (b:=ceP g 0 i) (fun j _=>rfl)⟩,fun k hk=>⟨fun hlt=>⟨by omega,⟨0,⟨by omega,lE _⟩,rfl,fun i _=>eight (fun j _=>rfl)⟩,fun r hr=>⟨fun hlt2=>?_,fun hge2=>?_⟩⟩,fun hge=>?_⟩⟩
 ·have hkn:k<g.P.n:=by omega
  have hrn:r<g.P.m k:=by omega
  obtain ⟨hy,hx,hx1⟩:=hg.r k r hkn hrn;have hm:=hg.m k hkn;generalize hrun:g.P.p k r=R at hy hx hx1;have ey:((R.y.toNat:Nat):Int)=R.y:=Int.toNat_of_nonneg hy.1;have c2:R.y*16*g.w=((rwAt g.w R:Nat):Int):=by
   unfold rwAt;rw [<-ey];simp [Int.mul_assoc]
  have h1:(R.y.toNat+1)*(16*g.w)<=256*g.w*g.h:=by
   refine xc (lj _ (show R.y.toNat+1<=16*g.h by omega)) (Nat.le_of_eq ?_);grind
  have h2:rwAt g.w R+16*g.w<=256*g.w*g.h:=by
   unfold rwAt;rw [lL,uC] at h1;exact h1
  rw [c2];refine ⟨by omega,by omega,by omega,by omega,⟨R.x0.toNat,⟨⟨hkn,hrn⟩,by rw [hrun]; omega,by rw [hrun]; omega⟩,⟨⟨ly _,by omega⟩,by omega⟩,fun i _=>eight (fun j _=>?_)⟩,fun x hx'=>?_⟩
  ·unfold put;rw [lm (by omega)];rfl
  ·obtain ⟨_,hxx⟩:=hx';rw [hrun] at hxx;refine ⟨fun hlt3=>⟨by omega,by omega,by omega,x+1,⟨⟨hkn,hrn⟩,by rw [hrun]; omega,by rw [hrun]; omega⟩,⟨by omega,fun i _=>?_⟩,?_⟩,fun hge3=>⟨by omega,r+1,⟨hkn,hrn⟩,⟨by omega,fun i _=>eight (fun j _=>?_)⟩,by show g.P.m k-(r+1)<g.P.m k-r; omega⟩⟩
   ·refine eight (a:=fun j=>bif decide (i=rwAt g.w R+x/\0<=j/\j<8) then g.P.ink k j else put (ceR g (ceP g k) k r) (rwAt g.w R+R.x0.toNat) (rwAt g.w R+x) (g.P.ink k) i j) (fun j hj=>?_);simp only [put];by_cases hi:i=rwAt g.w R+x
    ·rw [lk (show i=rwAt g.w R+x/\0<=j/\j<8 from ⟨hi,lE _,hj⟩),lk (show rwAt g.w R+R.x0.toNat<=i/\i<rwAt g.w R+(x+1) by omega)];rfl
    ·rw [lm (show ¬ (i=rwAt g.w R+x/\0<=j/\j<8) from fun h=>hi h.1)];simp only [cond_false];rw [show decide (rwAt g.w R+R.x0.toNat<=i/\i<rwAt g.w R+x)=decide (rwAt g.w R+R.x0.toNat<=i/\i<rwAt g.w R+(x+1)) from xG.2 (by omega)]
   ·show ((g.P.p k r).x1-((x+1:Nat):Int)).toNat<((g.P.p k r).x1-(x:Int)).toNat;rw [hrun];omega
   ·show _=put (ceR g (ceP g k) k r) (rwAt g.w (g.P.p k r)+(g.P.p k r).x0.toNat) (rwAt g.w (g.P.p k r)+(g.P.p k r).x1.toNat) (g.P.ink k) i j;rw [hrun,show R.x1.toNat=x by omega]
 ·have hr2:r<=g.P.m k:=hr.2;have hkn:k<g.P.n:=by omega
  refine ⟨by omega,k+1,hkn,⟨by omega,fun i _=>eight (fun j _=>?_)⟩,by show g.P.n-(k+1)<g.P.n-k; omega⟩;show _=ceR g (ceP g k) k (g.P.m k) i j;rw [show g.P.m k=r by omega]
 ·have hk2:k<=g.P.n:=hk;intro i _;refine eight (fun j _=>?_);show _=ceP g g.P.n i j;rw [show g.P.n=k by omega]
end Cel
namespace Ttr
open Go.RowKit Sx Num Aff Con Rga Rgl Rgm Rgn Rgc Gat Gar Ows Apl Apt Cel Wid Trp Tsp Tpn Tco
set_option maxRecDepth 100000
structure TrG where
 w:Nat
 h:Nat
 P:Pcs
 m:Nat
 o:Nat->Nat
 r:Nat
def TrG.ce (g:TrG):CeG:=⟨g.w,g.h,g.P⟩
def TrG.N (g:TrG):Nat:=256*g.w*g.h
def TrG.c (g:TrG):Nat->Vec:=ceB g.ce
def TrG.pl (g:TrG):PlG:=⟨16*g.w,16*g.h,g.c,g.m,g.o,g.r⟩
def dk (v:Vec) (m:Nat) (o:Nat->Nat):Nat->Bool
 | 0=>false
 | s+1=>dk v m o s||decide (v (o (m-1-s))≠0)
def tcF (v:Vec) (W:Nat->Int) (m:Nat) (o:Nat->Nat):Nat->Vec
 | 0=>v
 | s+1=>fun j=>bif (bif decide (v (o (m-1-s))=0) then dk v m o s else false)&&decide (j=o (m-1-s)) then W (m-1-s) else tcF v W m o s j
def TrG.W (g:TrG) (i k:Nat):Int:=spr (g.pl.sp k) i
def TrG.t (g:TrG) (i:Nat):Vec:=tcF (g.c i) (g.W i) g.m g.o g.m
def TrG.d (g:TrG) (a i:Nat):Vec:=fun j=>bif decide (i<a) then g.t i j else g.c i j
def TrG.of (g:TrG):OfG:=⟨g.w,g.h,g.N,g.d g.N⟩
structure TrG.Ok (g:TrG):Prop where
 w:1<=g.w/\g.w<=256
 h:1<=g.h/\g.h<=256
 ce:g.ce.Ok
 pl:g.pl.Ok
def trR (g:TrG) (f:Nat->Vec):SO:= .row 0 (256*g.w*g.h) 8 (fun i j=> .int .u8 (f i j)) 33
def trT (g:TrG) (a:Nat):List (Nat×SV):=[(0,.int .i64 g.w),(1,.int .i64 g.h),(3,orS g.m g.o),(14,.osl 0 0),(15,wiS g.pl),(34,.osl 0 0),(35,.int .i64 (256*g.w*g.h)),(36,.int .i64 a)]
def tr1 (g:TrG):Inv:=⟨Nat,fun a=>a<=g.N,fun a=>⟨trT g a,[trR g (g.d a)]⟩,fun a=>g.N-a⟩
def TrG.e (g:TrG) (a s i:Nat):Vec:=fun j=>bif decide (i=a) then tcF (g.c i) (g.W i) g.m g.o s j else g.d a i j
def trO (g:TrG) (a s:Nat):List SO:=[trR g (g.e a s),.cells 8 (fun j=> .int .u8 (g.c a j)) 33]
def tr2 (g:TrG) (a:Nat):Inv:=⟨Nat,fun s=>a<g.N/\s<=g.m,fun s=>⟨trT g a++[(16,.int .i64 a),(17,.own 1 0),(18,.bool (dk (g.c a) g.m g.o s)),(19,.int .i64 (g.m-1-s))],trO g a s⟩,fun s=>g.m-s⟩
def tr3 (g:TrG) (a s:Nat):Inv:=⟨Unit,fun _=>a<g.N/\s<g.m,fun _=>⟨trT g a++[(16,.int .i64 a),(17,.own 1 0),(18,.bool (dk (g.c a) g.m g.o s)),(19,.int .i64 (g.m-1-s)),(20,.int .i64 (g.o (g.m-1-s)))],trO g a (s+1)⟩,fun _=>0⟩
theorem ar5 (v:Vec) (W:Nat->Int) (m:Nat) (o:Nat->Nat) (s j:Nat):tcF v W m o (s+1) j=if (v (o (m-1-s))=0/\dk v m o s=true)/\j=o (m-1-s) then W (m-1-s) else tcF v W m o s j:=by
 show (bif (bif decide (v (o (m-1-s))=0) then dk v m o s else false)&&decide (j=o (m-1-s)) then W (m-1-s) else tcF v W m o s j)=_;by_cases h1:v (o (m-1-s))=0
 ·rw [lk h1,uh];cases h2:dk v m o s with
  | false=>rw [lr fun h=>by cases h.1.2]; rfl
  | true=>
   by_cases h3:j=o (m-1-s)
   ·rw [ln ⟨⟨h1,rfl⟩,h3⟩,lk h3]; rfl
   ·rw [lr fun h=>h3 h.2,lm h3]; rfl
 ·rw [lm h1,lr fun h=>h1 h.1.1]; rfl
theorem bV4 {g:TrG}{a s i j:Nat}(h:¬ (g.c a (g.o (g.m-1-s))=0/\dk (g.c a) g.m g.o s=true)):g.e a s i j=g.e a (s+1) i j:=by
 unfold TrG.e;by_cases hi:i=a
 ·subst hi;rw [lk rfl,uh,uh,ar5,lr fun hc=>h hc.1]
 ·rw [lm hi]; rfl
theorem e_set {g:TrG}{a s i j k:Nat}(hk:g.m-1-s=k) (h1:g.c a (g.o k)=0) (h2:dk (g.c a) g.m g.o s=true) {p:Prop}{inst:Decidable p}(hp:p<->i=a/\g.o k<=j/\j<g.o k+1):(bif @decide p inst then spr (g.pl.sp k) a else g.e a s i j)=g.e a (s+1) i j:=by
 subst hk;refine bW0 (fun h=>?_) (fun h=>?_)
 ·obtain ⟨rfl,h3,h4⟩:=hp.1 h;unfold TrG.e;rw [lk rfl,uh,ar5,ln ⟨⟨h1,h2⟩,by omega⟩];rfl
 ·unfold TrG.e;by_cases hi:i=a
  ·subst hi;rw [lk rfl,uh,uh,ar5,lr fun hc=>h (hp.2 ⟨rfl,by omega,by omega⟩)]
  ·rw [lm hi]; rfl
theorem bi3 {v:Vec}{m:Nat}{o:Nat->Nat}{s:Nat}:dk v m o (s+1)=(dk v m o s||decide (v (o (m-1-s))≠0)):=rfl
noncomputable def spTr:FSpec:=ac8 33 (γ:=TrG) (fun | [.int _ w,.int _ h,s,.sl m _ o,.int _ r,_]=>some ⟨w.toNat,h.toNat,pcD s,m,fun k=>(Sx.intOf (o k 0)).toNat,r.toNat⟩ | _=>none)
 (fun g=>[.int .i64 g.w,.int .i64 g.h,pcS g.P,orS g.m g.o,.int .i64 g.r,.int .i64 1]) TrG.Ok (fun g=>pcA (ofA g.of))
theorem ok_tr:aa9 Tw.prog spTr:=by
 refine ab0 (specs:=[bA0,spPl,giv spOf]) (ac7 (⟨bM8,ok_pl,bV1 cc9,trivial⟩)) (eqs:=[]) (fun _ _ h=>(lx h).elim) Aff.mixed Tw.func33 rfl (by kernel_rfl) (fun _ _=>by kernel_rfl) (fun g=>(⟨[(4,.nest (tr1 g) (fun a=>[(8,.nest (tr2 g a) (fun s=>[(13,.cut (tr3 g a s))]))]))],[]⟩:Ann)) (fun g=>li (by kernel_rfl)) ?_;rintro g hg;refine af7 (B:=let T5:=fun p:Prop=>True/\True/\True/\True/\True/\p;let K:=Br;let A:=Sx.Ask;let z52:=(16:Nat);let z42:=(ofA g.of);let z41:=(0:Int);let z40:=(z52*g.h);let z39:=(9223372036854775807:Int);let z37:=(-9223372036854775808:Int);let z34:=(16:Int);let z32:=(7:Nat);let z31:=(6:Nat);let z30:=(5:Nat);let z29:=(4:Nat);let z28:=(3:Nat);let z27:=(2:Nat);let z23:=(256:Nat);let z22:=(1:Int);let z21:=(↑g.m:Int);let z18:=(Gar.Gt.P z42);let z17:=(z23*g.w*g.h=z23*g.w*g.h);let z16:=(↑g.h:Int);let z50:=(z34*z16);let z15:=(↑g.w:Int);let z49:=(z34*z15);let z14:=(0:Nat);let z10:=(1:Nat);let z6:=(IntKind.i64=IntKind.i64);let q6:=fun p:Int=>A z6/\A (p=p);let z47:=(A z6/\A (z16=(↑z16.toNat:Int)));let z46:=(A z6/\A (z15=(↑z15.toNat:Int)));let z25:=(q6 z16);let z24:=(q6 z15);let z11:=(q6 ((256:Int)*z15*z16));let z9:=(A (g.m=g.m)/\∀ i:Nat,i<g.m->True/\q6 ((↑(g.o i):Int)));let z4:=(CeG.mk z15.toNat z16.toNat g.P);let z26:=(PlG.mk z49.toNat z50.toNat (ceB z4) g.m (fun (k:Nat)=>(↑(g.o k):Int).toNat) (↑g.r:Int).toNat);let z0:=(IntKind.u8=IntKind.u8);let q0:=fun p:Int=>A z0/\A (p=p);let z7:=(A (g.m=g.m)/\∀ i:Nat,i<g.m->True/\A (z52*g.w*z40=z52*g.w*z40)/\∀ i_1:Nat,i_1<z52*g.w*z40->True/\q0 (spr (g.pl.sp i) i_1));T5 (((z46/\z47/\(A (g.P.n=g.P.n)/\∀ i:Nat,i<g.P.n->(chp (True/\A (g.P.m i=g.P.m i)/\∀ i_1:Nat,let z44:=(g.P.p i i_1); i_1<g.P.m i->((True/\q6 z44.y)/\q6 z44.x0)/\q6 z44.x1) (fun j:Nat=>q0 (g.P.ink i j)) 7)/\q0 (g.P.ink i z32))/\True)/\A z4.Ok)/\True/\True/\True/\A (z37<=z34*z15/\z34*z15<=z39)/\True/\A (z37<=z34*z16/\z34*z16<=z39)/\True/\True/\True/\((True/\(True/\(A z6/\A (z34*z15=(↑z49.toNat:Int)))/\(A z6/\A (z34*z16=(↑z50.toNat:Int)))/\(A (g.m=g.m)/\∀ i:Nat,i<g.m->True/\A z6/\A ((↑(g.o i):Int)=(↑(↑(g.o i):Int).toNat:Int)))/\(A z6/\A ((↑g.r:Int)=(↑(↑g.r:Int).toNat:Int)))/\(q6 z22)/\True)/\(A (z23*z15.toNat*z16.toNat=z49.toNat*z50.toNat)/\∀ i:Nat,i<z49.toNat*z50.toNat->(chp True (fun j:Nat=>q0 (ceB z4 i j)) 7)/\q0 (ceB z4 i z32))/\True)/\A z26.Ok)/\True/\True/\True/\True/\(∃ g_1:Nat,A ((tr1 g).pre g_1)/\(z24/\z25/\z9/\True/\(A (g.m=g.m)/\∀ i:Nat,i<g.m->True/\A (z49.toNat*z50.toNat=z52*g.w*z40)/\∀ i_1:Nat,i_1<z52*g.w*z40->True/\A z0/\A (spr (z26.sp i) i_1=spr (g.pl.sp i) i_1))/\True/\(A z6/\A ((↑(z49.toNat*z50.toNat):Int)=(256:Int)*z15*z16))/\(A z6/\A (z41=(↑g_1:Int)))/\True)/\(A (z49.toNat*z50.toNat=z23*g.w*g.h)/\∀ i:Nat,i<z23*g.w*g.h->(((((((True/\A z0/\A (ceB z4 i z14=g.d g_1 i z14))/\A z0/\A (ceB z4 i z10=g.d g_1 i z10))/\A z0/\A (ceB z4 i z27=g.d g_1 i z27))/\A z0/\A (ceB z4 i z28=g.d g_1 i z28))/\A z0/\A (ceB z4 i z29=g.d g_1 i z29))/\A z0/\A (ceB z4 i z30=g.d g_1 i z30))/\A z0/\A (ceB z4 i z31=g.d g_1 i z31))/\A z0/\A (ceB z4 i z32=g.d g_1 i z32))/\True)/\∀ g_1:Nat,let z43:=(tr2 g g_1);let z12:=(↑g_1:Int);let z51:=(z41<=z12/\z12<(↑(z23*g.w*g.h):Int));let z20:=(q6 z12);let z5:=(ofA (OfG.mk z15.toNat z16.toNat (z23*g.w*g.h) (g.d g_1)));let z36:=(Gar.Gt.P z5);let z2:=(chp True (fun j:Nat=>q0 (g.c g_1 j)) 8); (tr1 g).pre g_1->True/\K (decide (z12<(256:Int)*z15*z16)) (True/\A z51/\A (z12.toNat<z23*g.w*g.h)/\T5 (True/\A (z37<=z21-z22/\z21-z22<=z39)/\True/\(∃ g_2:Nat,A (z43.pre g_2)/\(z24/\z25/\z9/\True/\z7/\True/\z11/\z20/\z20/\A (z14=z14)/\A (false=dk (g.c g_1) g.m g.o g_2)/\(A z6/\A (z21-z22=z21-z22-(↑g_2:Int)))/\True)/\(A z17/\∀ i:Nat,i<z23*g.w*g.h->(((((((True/\A z0/\A (g.d g_1 i z14=g.e g_1 g_2 i z14))/\A z0/\A (g.d g_1 i z10=g.e g_1 g_2 i z10))/\A z0/\A (g.d g_1 i z27=g.e g_1 g_2 i z27))/\A z0/\A (g.d g_1 i z28=g.e g_1 g_2 i z28))/\A z0/\A (g.d g_1 i z29=g.e g_1 g_2 i z29))/\A z0/\A (g.d g_1 i z30=g.e g_1 g_2 i z30))/\A z0/\A (g.d g_1 i z31=g.e g_1 g_2 i z31))/\A z0/\A (g.d g_1 i z32=g.e g_1 g_2 i z32))/\((((((((True/\A z0/\A (g.d g_1 z12.toNat (z14+z14)=g.c g_1 z14))/\A z0/\A (g.d g_1 z12.toNat (z14+z10)=g.c g_1 z10))/\A z0/\A (g.d g_1 z12.toNat (z14+z27)=g.c g_1 z27))/\A z0/\A (g.d g_1 z12.toNat (z14+z28)=g.c g_1 z28))/\A z0/\A (g.d g_1 z12.toNat (z14+z29)=g.c g_1 z29))/\A z0/\A (g.d g_1 z12.toNat (z14+z30)=g.c g_1 z30))/\A z0/\A (g.d g_1 z12.toNat (z14+z31)=g.c g_1 z31))/\A z0/\A (g.d g_1 z12.toNat (z14+z32)=g.c g_1 z32))/\True)/\∀ g_2:Nat,let z53:=(tr3 g g_1 g_2);let z38:=(↑g_2:Int);let z48:=(z41<=z21-z22-z38/\z21-z22-z38<z21);let z35:=(↑(g.o (g.m-z10-g_2)):Int);let z33:=(z37<=z21-z22-z38-z22/\z21-z22-z38-z22<=z39);let z19:=(g_2+z10);let z13:=(g.pl.sp (z21-z22-z38).toNat);let z8:=(A z17/\∀ i:Nat,i<z23*g.w*g.h->(((((((True/\A z0/\A (g.e g_1 g_2 i z14=g.e g_1 z19 i z14))/\A z0/\A (g.e g_1 g_2 i z10=g.e g_1 z19 i z10))/\A z0/\A (g.e g_1 g_2 i z27=g.e g_1 z19 i z27))/\A z0/\A (g.e g_1 g_2 i z28=g.e g_1 z19 i z28))/\A z0/\A (g.e g_1 g_2 i z29=g.e g_1 z19 i z29))/\A z0/\A (g.e g_1 g_2 i z30=g.e g_1 z19 i z30))/\A z0/\A (g.e g_1 g_2 i z31=g.e g_1 z19 i z31))/\A z0/\A (g.e g_1 g_2 i z32=g.e g_1 z19 i z32));let z3:=(↑(g.o (z21-z22-z38).toNat):Int);let z54:=(z41<=z3/\z3<(↑(8:Nat):Int));let z45:=(decide (z14+z3.toNat*z10+z10<=(8:Nat)));let z1:=(z24/\z25/\z9/\True/\z7/\True/\z11/\z20/\z20/\A (z14=z14)/\A (dk (g.c g_1) g.m g.o g_2=dk (g.c g_1) g.m g.o g_2)/\(q6 (z21-z22-z38))/\(A z6/\A (z3=z35))/\True); z43.pre g_2->True/\True/\K (decide (z41<=z21-z22-z38)) (True/\True/\A z48/\True/\True/\(True/\A z54/\K z45 True False/\True/\True/\K (decide (g.c g_1 (z14+z3.toNat*z10)=z41)) (True/\True/\K (dk (g.c g_1) g.m g.o g_2) (T5 (A z48/\True/\True/\A (z41<=z12/\z12<(↑(z52*g.w*z40):Int))/\True/\A z51/\A z54/\K z45 (A (z12.toNat<z23*g.w*g.h)) False/\∃ g_3:Unit,A (z53.pre g_3)/\z1/\(A z17/\∀ i:Nat,i<z23*g.w*g.h->(((((((True/\A z0/\A ((bif decide (i=z12.toNat/\z14+z3.toNat*z10<=z14/\z14<z14+z3.toNat*z10+z10) then spr z13 z12.toNat else g.e g_1 g_2 i z14)=g.e g_1 z19 i z14))/\A z0/\A ((bif decide (i=z12.toNat/\z14+z3.toNat*z10<=z10/\z10<z14+z3.toNat*z10+z10) then spr z13 z12.toNat else g.e g_1 g_2 i z10)=g.e g_1 z19 i z10))/\A z0/\A ((bif decide (i=z12.toNat/\z14+z3.toNat*z10<=z27/\z27<z14+z3.toNat*z10+z10) then spr z13 z12.toNat else g.e g_1 g_2 i z27)=g.e g_1 z19 i z27))/\A z0/\A ((bif decide (i=z12.toNat/\z14+z3.toNat*z10<=z28/\z28<z14+z3.toNat*z10+z10) then spr z13 z12.toNat else g.e g_1 g_2 i z28)=g.e g_1 z19 i z28))/\A z0/\A ((bif decide (i=z12.toNat/\z14+z3.toNat*z10<=z29/\z29<z14+z3.toNat*z10+z10) then spr z13 z12.toNat else g.e g_1 g_2 i z29)=g.e g_1 z19 i z29))/\A z0/\A ((bif decide (i=z12.toNat/\z14+z3.toNat*z10<=z30/\z30<z14+z3.toNat*z10+z10) then spr z13 z12.toNat else g.e g_1 g_2 i z30)=g.e g_1 z19 i z30))/\A z0/\A ((bif decide (i=z12.toNat/\z14+z3.toNat*z10<=z31/\z31<z14+z3.toNat*z10+z10) then spr z13 z12.toNat else g.e g_1 g_2 i z31)=g.e g_1 z19 i z31))/\A z0/\A ((bif decide (i=z12.toNat/\z14+z3.toNat*z10<=z32/\z32<z14+z3.toNat*z10+z10) then spr z13 z12.toNat else g.e g_1 g_2 i z32)=g.e g_1 z19 i z32))/\z2/\True)) (∃ g_3:Unit,A (z53.pre g_3)/\z1/\z8/\z2/\True)) (True/\∃ g_3:Unit,A (z53.pre g_3)/\z1/\z8/\z2/\True))/\∀ g_3:Unit,z53.pre g_3->True/\True/\K (dk (g.c g_1) g.m g.o g_2) (True/\True/\True/\A z33/\True/\∃ (g':Nat),A (z43.pre g')/\((z24/\z25/\z9/\True/\z7/\True/\z11/\z20/\z20/\A (z14=z14)/\A (true=dk (g.c g_1) g.m g.o g')/\(A z6/\A (z21-z22-z38-z22=z21-z22-(↑g':Int)))/\True)/\(A z17/\∀ i:Nat,i<z23*g.w*g.h->(((((((True/\A z0/\A (g.e g_1 z19 i z14=g.e g_1 g' i z14))/\A z0/\A (g.e g_1 z19 i z10=g.e g_1 g' i z10))/\A z0/\A (g.e g_1 z19 i z27=g.e g_1 g' i z27))/\A z0/\A (g.e g_1 z19 i z28=g.e g_1 g' i z28))/\A z0/\A (g.e g_1 z19 i z29=g.e g_1 g' i z29))/\A z0/\A (g.e g_1 z19 i z30=g.e g_1 g' i z30))/\A z0/\A (g.e g_1 z19 i z31=g.e g_1 g' i z31))/\A z0/\A (g.e g_1 z19 i z32=g.e g_1 g' i z32))/\z2/\True)/\A (z43.meas g'<z43.meas g_2)) (True/\A (z41<=z35/\z35<(↑(8:Nat):Int))/\K (decide (z14+z35.toNat*z10+z10<=(8:Nat))) True False/\True/\True/\True/\True/\A z33/\True/\∃ (g':Nat),A (z43.pre g')/\((z24/\z25/\z9/\True/\z7/\True/\z11/\z20/\z20/\A (z14=z14)/\A (decide (g.c g_1 (z14+z35.toNat*z10)≠z41)=dk (g.c g_1) g.m g.o g')/\(A z6/\A (z21-z22-z38-z22=z21-z22-(↑g':Int)))/\True)/\(A z17/\∀ i:Nat,i<z23*g.w*g.h->(((((((True/\A z0/\A (g.e g_1 z19 i z14=g.e g_1 g' i z14))/\A z0/\A (g.e g_1 z19 i z10=g.e g_1 g' i z10))/\A z0/\A (g.e g_1 z19 i z27=g.e g_1 g' i z27))/\A z0/\A (g.e g_1 z19 i z28=g.e g_1 g' i z28))/\A z0/\A (g.e g_1 z19 i z29=g.e g_1 g' i z29))/\A z0/\A (g.e g_1 z19 i z30=g.e g_1 g' i z30))/\A z0/\A (g.e g_1 z19 i z31=g.e g_1 g' i z31))/\A z0/\A (g.e g_1 z19 i z32=g.e g_1 g' i z32))/\z2/\True)/\A (z43.meas g'<z43.meas g_2))) (A (z37<=z12+z22/\z12+z22<=z39)/\True/\∃ (g':Nat),A ((tr1 g).pre g')/\((z24/\z25/\z9/\True/\z7/\True/\z11/\(A z6/\A (z12+z22=(↑g':Int)))/\True)/\(A z17/\∀ i:Nat,i<z23*g.w*g.h->(((((((True/\A z0/\A (g.e g_1 g_2 i z14=g.d g' i z14))/\A z0/\A (g.e g_1 g_2 i z10=g.d g' i z10))/\A z0/\A (g.e g_1 g_2 i z27=g.d g' i z27))/\A z0/\A (g.e g_1 g_2 i z28=g.d g' i z28))/\A z0/\A (g.e g_1 g_2 i z29=g.d g' i z29))/\A z0/\A (g.e g_1 g_2 i z30=g.d g' i z30))/\A z0/\A (g.e g_1 g_2 i z31=g.d g' i z31))/\A z0/\A (g.e g_1 g_2 i z32=g.d g' i z32))/\True)/\A ((tr1 g).meas g'<(tr1 g).meas g_1)))) (True/\True/\True/\((z46/\z47/\(A z17/\∀ i:Nat,i<z23*g.w*g.h->(chp True (fun j:Nat=>q0 (g.d g_1 i j)) 7)/\q0 (g.d g_1 i z32))/\True)/\A ((z10<=z15.toNat/\z15.toNat<=z23)/\(z10<=z16.toNat/\z16.toNat<=z23)/\z23*g.w*g.h=z23*z15.toNat*z16.toNat))/\T5 ((True/\A ((bif z5.full then z14 else z5.n)=bif z42.full then z14 else z42.n)/\∀ i:Nat,(i<bif z42.full then z14 else z42.n)->((((((((True/\A (z36.m i=z18.m i)/\∀ i_1:Nat,i_1<z18.m i->((True/\A z6/\A ((z36.p i i_1).y=(z18.p i i_1).y))/\A z6/\A ((z36.p i i_1).x0=(z18.p i i_1).x0))/\A z6/\A ((z36.p i i_1).x1=(z18.p i i_1).x1))/\A z0/\A (z36.ink i z14=z18.ink i z14))/\A z0/\A (z36.ink i z10=z18.ink i z10))/\A z0/\A (z36.ink i z27=z18.ink i z27))/\A z0/\A (z36.ink i z28=z18.ink i z28))/\A z0/\A (z36.ink i z29=z18.ink i z29))/\A z0/\A (z36.ink i z30=z18.ink i z30))/\A z0/\A (z36.ink i z31=z18.ink i z31))/\A z0/\A (z36.ink i z32=z18.ink i z32))/\A z6/\A ((bif z5.full then (2:Int) else z41)=bif z42.full then (2:Int) else z41))))) (by kernel_rfl) ?_;simp only [chp];simp only [cln,ly,xb,xm];have hw:=hg.w;have hh:=hg.h;have hm:=hg.pl.m;have hm:g.m<=8:=hm;have ew:(16*(g.w:Int)).toNat=16*g.w:=by omega
 have eh:(16*(g.h:Int)).toNat=16*g.h:=by omega
 have eN:16*g.w*(16*g.h)=256*g.w*g.h:=by grind
 have eI:256*(g.w:Int)*(g.h:Int)=((256*g.w*g.h:Nat):Int):=by simp
 have hN:256*g.w*g.h<=256*256*256:=uX (Nat.mul_le_mul_left _ hw.2) hh.2;have hNd:g.N=256*g.w*g.h:=rfl;rw [ew,eh,eI];refine ⟨hg.ce,by omega,by omega,⟨⟨⟨by omega,by omega⟩,eN.symm⟩,hg.pl⟩,⟨0,lE _,⟨fun i _=>⟨rfl,fun _ _=>rfl⟩,by rw [eN],rfl⟩,eN,fun i _=>eight (a:=ceB ⟨g.w,g.h,g.P⟩ i) (fun j _=>?_)⟩,fun a ha=>⟨fun hlt=>?_,fun hge=>?_⟩⟩
 ·show _=bif decide (i<0) then _ else _
  rw [lm (lw _)];rfl
 ·have han:a<g.N:=by omega
  refine ⟨by omega,by omega,by omega,⟨0,⟨han,lE _⟩,⟨rfl,by omega⟩,fun i _=>eight (fun j _=>?_),eight (a:=g.d a a) (fun j _=>?_)⟩,fun s hs=>⟨fun hs1=>?_,fun hs1=>?_⟩⟩
  ·unfold TrG.e;by_cases hi:i=a
   ·subst hi;rw [lk rfl,uh];show (bif decide (i<i) then _ else _)=_;rw [lm (ul _)];rfl
   ·rw [lm hi]; rfl
  ·show (bif decide (a<a) then _ else _)=_;rw [lm (ul _)];rfl
  ·obtain ⟨_,hsm⟩:=hs;have hsm:s<g.m:=by omega
   have ek:((g.m:Int)-1-(s:Int)).toNat=g.m-1-s:=by omega
   rw [ek];generalize hk:g.m-1-s=k;have hkm:k<g.m:=by omega
   have ho:g.o k<8:=hg.pl.o k hkm;have han':a<256*g.w*g.h:=han;have hpre:(tr3 g a s).pre ():=⟨han,hsm⟩
   have hms:(tr2 g a).meas (s+1)<(tr2 g a).meas s:=by show g.m-(s+1)<g.m-s; omega
   have hpre2:(tr2 g a).pre (s+1):=⟨han,hsm⟩
   have fin:∀ i,i<256*g.w*g.h->_:=fun i _=>eight (a:=g.e a (s+1) i) (b:=g.e a (s+1) i) (fun _ _=>rfl)
   refine ⟨by omega,⟨by omega,fun h=>h (by omega),fun hz=>⟨fun hd=>⟨by omega,by omega,by omega,by omega,⟨fun _=>han',fun h=>h (by omega)⟩,(),hpre,rfl,fun i _=>?_⟩,fun hd=>⟨(),hpre,rfl,fun i _=>eight fun j _=>bV4 fun hc=>by rw [hd] at hc; cases hc.2⟩⟩,fun hz=>⟨(),hpre,rfl,fun i _=>eight fun j _=>bV4 fun hc=>hz (by rw [<-hk]; exact hc.1)⟩⟩,fun _ _=>⟨fun hd=>⟨by omega,s+1,hpre2,⟨⟨by rw [bi3,hd]; rfl,by omega⟩,fin⟩,hms⟩,fun hd=>⟨by omega,fun h=>h (by omega),by omega,s+1,hpre2,⟨⟨by rw [bi3,hd,hk]; rfl,by omega⟩,fin⟩,hms⟩⟩⟩;have es:=fun j (p:Prop) (inst:Decidable p) (hp:p<->i=a/\g.o k<=j/\j<g.o k+1)=>e_set (inst:=inst) hk hz hd (i:=i) (j:=j) hp
   exact ⟨⟨⟨⟨⟨⟨⟨es 0 _ _ uI,es 1 _ _ uI⟩,es 2 _ _ uI⟩,es 3 _ _ uI⟩,es 4 _ _ uI⟩,es 5 _ _ uI⟩,es 6 _ _ uI⟩,es 7 _ _ uI⟩
  ·obtain ⟨_,hsm⟩:=hs;obtain rfl:s=g.m:=by omega
   refine ⟨by omega,a+1,han,⟨rfl,fun i _=>eight (fun j _=>?_)⟩,by show g.N-(a+1)<g.N-a; omega⟩;unfold TrG.e TrG.d;by_cases hi:i=a
   ·subst hi;rw [lk rfl,lk (xF _)];rfl
   ·rw [lm hi,show decide (i<a+1)=decide (i<a) from xG.2 (by omega)];rfl
 ·have ha:a<=g.N:=ha;obtain rfl:a=g.N:=by omega
  refine ⟨⟨hw,hh⟩,⟨rfl,fun i _=>?_⟩,rfl⟩;exact ⟨⟨⟨⟨⟨⟨⟨⟨⟨rfl,fun _ _=>⟨⟨rfl,rfl⟩,rfl⟩⟩,rfl⟩,rfl⟩,rfl⟩,rfl⟩,rfl⟩,rfl⟩,rfl⟩,rfl⟩
def TrG.ck (g:TrG):CkG:=⟨g.w,g.h,⟨g.P,g.m,g.o⟩,g.r⟩
noncomputable def bX4 (dec:List SV->Option TrG):FSpec:=ac8 14 (γ:=TrG) dec
 (fun g=>[.int .i64 g.w,.int .i64 g.h,pcS g.P,orS g.m g.o,.int .i64 g.r]) (fun g=>g.Ok/\g.ck.Ok) (fun g=>pcA (ofA g.of))
theorem bm3 (dec:List SV->Option TrG):aa9 Tw.prog (bX4 dec):=by
 refine ab0 (specs:=[spCk,spTr]) (ac7 (⟨ok_ck,ok_tr,trivial⟩)) (eqs:=[]) (fun _ _ h=>(lx h).elim) Aff.mixed Tw.func14 rfl (by kernel_rfl) (fun _ _=>by kernel_rfl) (fun g=>A0) (fun g=>li (by kernel_rfl)) ?_;rintro g ⟨hg,hc⟩;refine af7 (B:=let A:=Sx.Ask;let z11:=(ofA g.of);let z6:=(TrG.mk (↑g.w:Int).toNat (↑g.h:Int).toNat g.P g.m (fun (k:Nat)=>(↑(g.o k):Int).toNat) (↑g.r:Int).toNat);let z4:=(Gar.Gt.P z11);let z3:=(IntKind.u8=IntKind.u8);let q3:=fun p:Int=>A z3/\A (p=p);let z2:=(IntKind.i64=IntKind.i64);let q2:=fun p:Int=>A z2/\A (p=p);let z10:=(A z2/\A ((↑g.r:Int)=(↑(↑g.r:Int).toNat:Int)));let z9:=(A z2/\A ((↑g.h:Int)=(↑(↑g.h:Int).toNat:Int)));let z8:=(A z2/\A ((↑g.w:Int)=(↑(↑g.w:Int).toNat:Int)));let z5:=(A (g.m=g.m)/\∀ i:Nat,i<g.m->True/\A z2/\A ((↑(g.o i):Int)=(↑(↑(g.o i):Int).toNat:Int)));let z1:=(A (g.P.n=g.P.n)/\∀ i:Nat,i<g.P.n->(chp (True/\A (g.P.m i=g.P.m i)/\∀ i_1:Nat,let z12:=(g.P.p i i_1); i_1<g.P.m i->((True/\q2 z12.y)/\q2 z12.x0)/\q2 z12.x1) (fun j:Nat=>q3 (g.P.ink i j)) 7)/\q3 (g.P.ink i (7:Nat)));let z0:=(ofA z6.of);let z7:=(Gar.Gt.P z0);True/\True/\True/\True/\True/\True/\True/\((z8/\z9/\z1/\z5/\z10/\True)/\A (CkG.mk (↑g.w:Int).toNat (↑g.h:Int).toNat (CoG.mk g.P g.m fun (k:Nat)=>(↑(g.o k):Int).toNat) (↑g.r:Int).toNat).Ok)/\True/\True/\True/\True/\True/\True/\True/\True/\((z8/\z9/\z1/\z5/\z10/\(q2 ((1:Int)))/\True)/\A z6.Ok)/\True/\True/\True/\True/\True/\(True/\A ((bif z0.full then (0:Nat) else z0.n)=bif z11.full then (0:Nat) else z11.n)/\∀ i:Nat,(i<bif z11.full then (0:Nat) else z11.n)->((((((((True/\A (z7.m i=z4.m i)/\∀ i_1:Nat,i_1<z4.m i->((True/\A z2/\A ((z7.p i i_1).y=(z4.p i i_1).y))/\A z2/\A ((z7.p i i_1).x0=(z4.p i i_1).x0))/\A z2/\A ((z7.p i i_1).x1=(z4.p i i_1).x1))/\A z3/\A (z7.ink i (0:Nat)=z4.ink i (0:Nat)))/\A z3/\A (z7.ink i (1:Nat)=z4.ink i (1:Nat)))/\A z3/\A (z7.ink i (2:Nat)=z4.ink i (2:Nat)))/\A z3/\A (z7.ink i (3:Nat)=z4.ink i (3:Nat)))/\A z3/\A (z7.ink i (4:Nat)=z4.ink i (4:Nat)))/\A z3/\A (z7.ink i (5:Nat)=z4.ink i (5:Nat)))/\A z3/\A (z7.ink i (6:Nat)=z4.ink i (6:Nat)))/\A z3/\A (z7.ink i (7:Nat)=z4.ink i (7:Nat)))/\A z2/\A ((bif z0.full then (2:Int) else (0:Int))=bif z11.full then (2:Int) else (0:Int))) (by kernel_rfl) ?_;simp only [chp];simp only [cln,ly,xb,xm];exact ⟨hc,hg⟩
noncomputable def bR3:FSpec:=bX4 (fun | [.int _ w,.int _ h,s,.sl m _ o,.int _ r]=>some ⟨w.toNat,h.toNat,pcD s,m,fun k=>(Sx.intOf (o k 0)).toNat,r.toNat⟩ | _=>none)
theorem b14:aa9 Tw.prog bR3:=bm3 _
end Ttr
namespace Ofl
open Go.RowKit Go.Lib Go.Sort Sx Num Aff Con Rga Rgl Rgm Rgn Rgf Gat Gar Ows Apl Apt
set_option maxRecDepth 100000
theorem bI9 {L:List Rn}(h:L≠[]) (r:Rn):(rI (addR L r) 0).y=(rI L 0).y/\(rI (addR L r) 0).x0=(rI L 0).x0:=by
 rcases al7 L with rfl | ⟨P,s,rfl⟩
 ·exact absurd rfl h
 rw [aB2];cases P with
 | nil=>
  split
  ·split<;>exact ⟨rfl,rfl⟩
  ·exact ⟨rfl,rfl⟩
 | cons q P=>
  split
  ·split<;>exact ⟨rfl,rfl⟩
  ·exact ⟨rfl,rfl⟩
theorem cg8 {L:List Rn}{r:Rn}(h:r.x0<r.x1):0<(addR L r).length:=by
 rcases al7 L with rfl | ⟨P,s,rfl⟩
 ·rw [add_nil,ln h]; exact uj
 ·rw [aB2,ln h];split<;>simp
theorem aB1 {L:List Rn}{y x y' x':Int}(h:aftE L y x) (hh:y<y'\/(y=y'/\x<=x')):aftE L y' x':=fun s hs=>by
 have:=h s hs
 omega
def Gt.Q (G:Gt):Pcs:=⟨G.n,G.m,G.p,G.ink⟩
theorem au9 (G:Gt) (k:Nat) (L:List Rn):Pcs.L (Gt.Q (putP G k L)) k=L:=by
 show Lf (fun j=>bif decide (k=k) then rI L j else G.p k j) (updN G.m k L.length k)=L;rw [ah5];have:(fun j=>bif decide (k=k) then rI L j else G.p k j)=rI L:=by funext j; rw [lk rfl]; rfl
 rw [this,Lf_rI]
theorem aI9 (G:Gt) {k j:Nat}(L:List Rn) (h:j≠k):Pcs.L (Gt.Q (putP G k L)) j=Pcs.L (Gt.Q G) j:=by
 show Lf (fun i=>bif decide (j=k) then rI L i else G.p j i) (updN G.m k L.length j)=_;rw [aq0 (xy h)];have:(fun i=>bif decide (j=k) then rI L i else G.p j i)=G.p j:=by funext i; rw [lm h]; rfl
 rw [this];rfl
def ck (f:Nat->Vec) (W:Nat) (y x:Int):List Int:=kOf (f (y.toNat*W+x.toNat))
def Dn (W:Nat) (y x:Nat) (y' x':Int):Prop:=0<=y'/\(0<=x'/\x'<W)/\(y'<y\/(y'=y/\x'<x))
structure GJ (f:Nat->Vec) (W y x:Nat) (G:Gt):Prop where
 has:∀ l,G.has l=true<->∃ k,k<G.n/\kOf (G.ink k)=l
 val:∀ k,k<G.n->G.val (kOf (G.ink k))=k
 nz:∀ k,k<G.n->kOf (G.ink k)≠nul
 from':∀ k,k<G.n->∃ i,G.ink k=f i
 v:∀ k,k<G.n->vld (Pcs.L (Gt.Q G) k)
 ne:∀ k,k<G.n->0<G.m k
 e:∀ k,k<G.n->aftE (Pcs.L (Gt.Q G) k) y x
 m:∀ k,k<G.n->∀ y' x',mem (Pcs.L (Gt.Q G) k) y' x'=true<->Dn W y x y' x'/\ck f W y' x'=kOf (G.ink k)
 cov:∀ y' x',Dn W y x y' x'->ck f W y' x'≠nul->∃ k,k<G.n/\kOf (G.ink k)=ck f W y' x'
 ord:∀ k,k+1<G.n->(G.p k 0).y<(G.p (k+1) 0).y\/((G.p k 0).y=(G.p (k+1) 0).y/\(G.p k 0).x0<=(G.p (k+1) 0).x0)
structure GI (f:Nat->Vec) (W y x cnt:Nat) (G:Gt):Prop where
 nf:G.full=true->4096<cnt
 nc:G.n<=cnt
 n4:G.n<=4096
 tot:(al (Gt.Q G) G.n).length<=cnt
 j:G.full=false->GJ f W y x G
theorem GI.mono {f W y x c d G} (h:GI f W y x c G) (hc:c<=d):GI f W y x d G:=⟨fun hf=>lN (h.nf hf) hc,xc h.nc hc,h.n4,xc h.tot hc,h.j⟩
theorem at5 {P Q:Pcs}:∀ n,(∀ k,k<n->P.m k=Q.m k)->(al P n).length=(al Q n).length
 | 0,_=>rfl
 | n+1,h=>by
  show (al P n++alr P n (P.m n)).length=(al Q n++alr Q n (Q.m n)).length;rw [lB,lB,an9,an9,at5 n (fun k hk=>h k (by omega)),h n (by omega)]
theorem aT9 {P Q:Pcs}{c:Nat}:∀ n,c<n->(∀ k,k<n->k≠c->P.m k=Q.m k)->P.m c<=Q.m c+1->(al P n).length<=(al Q n).length+1
 | n+1,hc,h,h1=>by
  show (al P n++alr P n (P.m n)).length<=(al Q n++alr Q n (Q.m n)).length+1;rw [lB,lB,an9,an9];by_cases hcn:c=n
  ·subst hcn;rw [at5 (Q:=Q) c (fun k hk=>h k (by omega) (by omega))];omega
  ·have:=aT9 (P:=P) (Q:=Q) n (by omega) (fun k hk hne=>h k (by omega) hne) h1
   rw [h n (by omega) (xy hcn)];omega
section
variable {f:Nat->Vec}{W y x to cnt:Nat}{G:Gt}
theorem aD6 (hto:x<to) (hW:to<=W) (y' x':Int):Dn W y to y' x'<->(Dn W y x y' x'\/(y'=y/\(x:Int)<=x'/\x'<to)):=by
 unfold Dn;omega
theorem aF1 (hs:∀ k,x<=k->k<to->kOf (f (y*W+k))=kOf (f (y*W+x))) {y' x':Int}(h:y'=y/\(x:Int)<=x'/\x'<to):ck f W y' x'=kOf (f (y*W+x)):=by
 obtain ⟨rfl,h1,h2⟩:=h;unfold ck;rw [ly];exact hs x'.toNat (by omega) (by omega)
theorem bL7 (J:GJ f W y x G) (hy:y<8192) (hW:W<=8192) (hto:x<to) (htW:to<=W) (hs:∀ k,x<=k->k<to->kOf (f (y*W+k))=kOf (f (y*W+x))) {k:Nat}(hk:k<G.n) (hv:kOf (G.ink k)=kOf (f (y*W+x))) :
  GJ f W y to (putP G k (grw G k ⟨y,x,to⟩)):=by
 have hr:okR ⟨(y:Int),x,to⟩:=⟨⟨⟨by show -8192<=(y:Int); omega,by show (y:Int)<8192; omega⟩,⟨by show -8192<=(x:Int); omega,by show (x:Int)<=8192; omega⟩,by show -8192<=(to:Int); omega,by show (to:Int)<=8192; omega⟩,by show (x:Int)<to; omega⟩
 have hL:grw G k ⟨y,x,to⟩=addR (Pcs.L (Gt.Q G) k) ⟨y,x,to⟩:=rfl;have hadd:=cg7 (J.v k hk) (r:=⟨y,x,to⟩) (fun _=>hr) (cg6 (J.v k hk) (J.e k hk));have hnd:∀ j,j<G.n->kOf (G.ink j)=kOf (f (y*W+x))->j=k:=fun j hj he=>by
  have h1:=J.val j hj;have h2:=J.val k hk;rw [he] at h1;rw [hv,h1] at h2;omega
 have hne0:Pcs.L (Gt.Q G) k≠[]:=fun hc=>by
  have:=J.ne k hk
  have e:(Pcs.L (Gt.Q G) k).length=G.m k:=av7 _ _;rw [hc] at e;simp at e;omega
 have first:∀ j,j<G.n->((putP G k (grw G k ⟨y,x,to⟩)).p j 0).y=(G.p j 0).y/\((putP G k (grw G k ⟨y,x,to⟩)).p j 0).x0=(G.p j 0).x0:=fun j hj=>by
  show (bif decide (j=k) then rI (grw G k ⟨y,x,to⟩) 0 else G.p j 0:Rn).y=_/\(bif decide (j=k) then rI (grw G k ⟨y,x,to⟩) 0 else G.p j 0:Rn).x0=_;by_cases hjk:j=k
  ·subst hjk;rw [lk rfl,hL];simp only [uh];have h1:=bI9 hne0 ⟨y,x,to⟩;have h2:rI (Pcs.L (Gt.Q G) j) 0=G.p j 0:=be0 _ (J.ne j hj);rw [h2] at h1;exact h1
  ·rw [lm hjk];exact ⟨rfl,rfl⟩
 refine ⟨J.has,J.val,J.nz,J.from',fun j hj=>?_,fun j hj=>?_,fun j hj=>?_,fun j hj y' x'=>?_,fun y' x' hd hz=>?_,fun j hj=>?_⟩
 ·by_cases hjk:j=k
  ·subst hjk; rw [au9,hL]; exact hadd.1
  ·rw [aI9 _ _ hjk]; exact J.v j hj
 ·show 0<updN G.m k _ j;by_cases hjk:j=k
  ·subst hjk; rw [ah5,hL]; exact cg8 (by show (x:Int)<to; omega)
  ·rw [aq0 (xy hjk)]; exact J.ne j hj
 ·by_cases hjk:j=k
  ·subst hjk; rw [au9,hL]; exact b67 (J.e j hj) (by show (x:Int)<=to; omega)
  ·rw [aI9 _ _ hjk]; exact aB1 (J.e j hj) (by omega)
 ·show _<->_/\ck f W y' x'=kOf (G.ink j);rw [aD6 hto htW];by_cases hjk:j=k
  ·subst hjk;rw [au9,hL,hadd.2.1,xe,J.m j hj,ah4];constructor
   ·rintro (⟨h1,h2⟩ | ⟨h1,h2,h3⟩)
    ·exact ⟨.inl h1,h2⟩
    ·exact ⟨.inr ⟨h1.symm,h2,h3⟩,by rw [aF1 hs ⟨h1.symm,h2,h3⟩,hv]⟩
   ·rintro ⟨h1 | h1,h2⟩
    ·exact .inl ⟨h1,h2⟩
    ·exact .inr ⟨h1.1.symm,h1.2⟩
  ·rw [aI9 _ _ hjk,J.m j hj];constructor
   ·rintro ⟨h1,h2⟩; exact ⟨.inl h1,h2⟩
   ·rintro ⟨h1 | h1,h2⟩
    ·exact ⟨h1,h2⟩
    ·rw [aF1 hs h1] at h2;exact absurd (hnd j hj h2.symm) hjk
 ·rcases (aD6 hto htW y' x').1 hd with h1 | h1
  ·exact J.cov y' x' h1 hz
  ·exact ⟨k,hk,by show kOf (G.ink k)=_; rw [hv,aF1 hs h1]⟩
 ·have hj:j+1<G.n:=hj;have f1:=first j (by omega)
  have f2:=first (j+1) hj
  rw [f1.1,f1.2,f2.1,f2.2];exact J.ord j hj
theorem bv4 (G:Gt) (v:Vec) {j:Nat}(h:j≠G.n):Pcs.L (Gt.Q (fresh G v)) j=Pcs.L (Gt.Q G) j:=by
 show Lf (G.p j) (updN G.m G.n 0 j)=_;rw [aq0 (xy h)];rfl
theorem b71 (G:Gt) (v:Vec):Pcs.L (Gt.Q (fresh G v)) G.n=[]:=by
 show Lf (G.p G.n) (updN G.m G.n 0 G.n)=_;rw [ah5];rfl
theorem ba3 (G:Gt) (v:Vec) {j:Nat}(h:j<G.n):(fresh G v).ink j=G.ink j:=by
 show (fun i=>bif decide (j<G.n) then G.ink j i else v i)=_;rw [lk h];rfl
theorem bE8 (G:Gt) (v:Vec):(fresh G v).ink G.n=v:=by
 show (fun i=>bif decide (G.n<G.n) then G.ink G.n i else v i)=_;rw [lm (ul _)];rfl
theorem bM9 (J:GJ f W y x G) (hy:y<8192) (hW:W<=8192) (hto:x<to) (htW:to<=W) (hs:∀ k,x<=k->k<to->kOf (f (y*W+k))=kOf (f (y*W+x))) (hz:kOf (f (y*W+x))≠nul) (hh:G.has (kOf (f (y*W+x)))=false) :
  GJ f W y to (putP (fresh G (f (y*W+x))) G.n (grw (fresh G (f (y*W+x))) G.n ⟨y,x,to⟩)):=by
 generalize hvv:f (y*W+x)=v at *
 have hr:okR ⟨(y:Int),x,to⟩:=⟨⟨⟨by show -8192<=(y:Int); omega,by show (y:Int)<8192; omega⟩,⟨by show -8192<=(x:Int); omega,by show (x:Int)<=8192; omega⟩,by show -8192<=(to:Int); omega,by show (to:Int)<=8192; omega⟩,by show (x:Int)<to; omega⟩
 have hL:grw (fresh G v) G.n ⟨y,x,to⟩=[⟨y,x,to⟩]:=by
  show addR (Pcs.L (Gt.Q (fresh G v)) G.n) ⟨y,x,to⟩=_;rw [b71,add_nil,ln (by show (x:Int)<to; omega)]
 have hno:∀ j,j<G.n->kOf (G.ink j)≠kOf v:=fun j hj he=>by
  have:=(J.has (kOf v)).2 ⟨j,hj,he⟩
  rw [hh] at this;cases this
 have inkL:∀ j,j<G.n->(putP (fresh G v) G.n (grw (fresh G v) G.n ⟨y,x,to⟩)).ink j=G.ink j:=fun j hj=>ba3 G v hj
 have inkN:(putP (fresh G v) G.n (grw (fresh G v) G.n ⟨y,x,to⟩)).ink G.n=v:=bE8 G v;have LL:∀ j,j<G.n->Pcs.L (Gt.Q (putP (fresh G v) G.n (grw (fresh G v) G.n ⟨y,x,to⟩))) j=Pcs.L (Gt.Q G) j:=fun j hj=>by
  rw [aI9 _ _ (by omega:j≠G.n),bv4 G v (by omega)]
 have LN:Pcs.L (Gt.Q (putP (fresh G v) G.n (grw (fresh G v) G.n ⟨y,x,to⟩))) G.n=[⟨y,x,to⟩]:=by rw [au9,hL]
 have valE:∀ l,(putP (fresh G v) G.n (grw (fresh G v) G.n ⟨y,x,to⟩)).val l=bif decide (l=kOf v) then (G.n:Int) else G.val l:=fun l=>rfl
 have hasE:∀ l,(putP (fresh G v) G.n (grw (fresh G v) G.n ⟨y,x,to⟩)).has l=(decide (l=kOf v)||G.has l):=fun l=>rfl
 have split:∀ {j},j<G.n+1->j<G.n\/j=G.n:=fun h=>by omega
 refine ⟨fun l=>?_,fun j hj=>?_,fun j hj=>?_,fun j hj=>?_,fun j hj=>?_,fun j hj=>?_,fun j hj=>?_,fun j hj y' x'=>?_,fun y' x' hd hz'=>?_,fun j hj=>?_⟩
 ·rw [hasE,xe,lM,J.has];constructor
  ·rintro (h | ⟨j,h1,h2⟩)
   ·exact ⟨G.n,xF _,by rw [inkN]; exact h.symm⟩
   ·exact ⟨j,Nat.lt_succ_of_lt h1,by rw [inkL j h1]; exact h2⟩
  ·rintro ⟨j,h1,h2⟩;rcases split h1 with h | rfl
   ·exact .inr ⟨j,h,by rw [inkL j h] at h2; exact h2⟩
   ·exact .inl (by rw [inkN] at h2; exact h2.symm)
 ·rw [valE];rcases split hj with h | rfl
  ·rw [inkL j h,lm (hno j h)]; exact J.val j h
  ·rw [inkN,lk rfl]; rfl
 ·rcases split hj with h | rfl
  ·rw [inkL j h]; exact J.nz j h
  ·rw [inkN]; exact hz
 ·rcases split hj with h | rfl
  ·rw [inkL j h]; exact J.from' j h
  ·rw [inkN]; exact ⟨_,hvv.symm⟩
 ·rcases split hj with h | rfl
  ·rw [LL j h]; exact J.v j h
  ·rw [LN]; exact af1.2 ⟨hr,fun _ h=>(lx h).elim,be4⟩
 ·rcases split hj with h | rfl
  ·show 0<updN (updN G.m G.n 0) G.n _ j;rw [aq0 (by omega),aq0 (by omega)]; exact J.ne j h
  ·show 0<updN _ G.n _ G.n;rw [ah5,hL]; exact uj
 ·rcases split hj with h | rfl
  ·rw [LL j h]; exact aB1 (J.e j h) (by omega)
  ·rw [LN]; exact (ap8 (P:=[])).2 (.inr ⟨rfl,xC _⟩)
 ·rw [aD6 hto htW];rcases split hj with h | rfl
  ·rw [LL j h,inkL j h,J.m j h];constructor
   ·rintro ⟨h1,h2⟩; exact ⟨.inl h1,h2⟩
   ·rintro ⟨h1 | h1,h2⟩
    ·exact ⟨h1,h2⟩
    ·rw [aF1 (by rw [hvv]; exact hs) h1,hvv] at h2;exact absurd h2.symm (hno j h)
  ·rw [LN,inkN,aC2,ah4];constructor
   ·rintro ⟨h1,h2,h3⟩;exact ⟨.inr ⟨h1.symm,h2,h3⟩,by rw [aF1 (by rw [hvv]; exact hs) ⟨h1.symm,h2,h3⟩,hvv]⟩
   ·rintro ⟨h1 | h1,h2⟩
    ·obtain ⟨j,h3,h4⟩:=J.cov y' x' h1 (by rw [h2]; exact hz);exact absurd (h4.trans h2) (hno j h3)
    ·exact ⟨h1.1.symm,h1.2⟩
 ·rcases (aD6 hto htW y' x').1 hd with h1 | h1
  ·obtain ⟨j,h2,h3⟩:=J.cov y' x' h1 hz';exact ⟨j,Nat.lt_succ_of_lt h2,by rw [inkL j h2]; exact h3⟩
  ·exact ⟨G.n,xF _,by rw [inkN,aF1 (by rw [hvv]; exact hs) h1,hvv]⟩
 ·have hj:j+1<G.n+1:=hj;have pE:∀ i,i<G.n->(putP (fresh G v) G.n (grw (fresh G v) G.n ⟨y,x,to⟩)).p i 0=G.p i 0:=fun i hi=>by
   show (bif decide (i=G.n) then _ else G.p i 0:Rn)=_;rw [lm (by omega)];rfl
  rcases split hj with h | h
  ·rw [pE j (by omega),pE (j+1) h]; exact J.ord j h
  ·have pN:(putP (fresh G v) G.n (grw (fresh G v) G.n ⟨y,x,to⟩)).p G.n 0=⟨y,x,to⟩:=by
    show (bif decide (G.n=G.n) then rI (grw (fresh G v) G.n ⟨y,x,to⟩) 0 else G.p G.n 0:Rn)=_;rw [lk rfl,hL];rfl
   rw [h,pN,pE j (by omega)];have hne:=J.ne j (by omega);have okj:=(J.v j (by omega)).1 _ (aE0 (P:=Gt.Q G) hne);have hm:mem (Pcs.L (Gt.Q G) j) (G.p j 0).y (G.p j 0).x0=true:=(mem_iff _ _ _).2 ⟨_,aE0 (P:=Gt.Q G) hne,rfl,xC _,okj.2⟩;have hd:=((J.m j (by omega) _ _).1 hm).1;unfold Dn at hd;show (G.p j 0).y<(y:Int)\/((G.p j 0).y=y/\(G.p j 0).x0<=x);omega
theorem b41 (h:GI f W y x cnt G) (hy:y<8192) (hW:W<=8192) (hto:x<to) (htW:to<=W) (hs:∀ k,x<=k->k<to->kOf (f (y*W+k))=kOf (f (y*W+x))):GI f W y to (cnt+1) (nxt G (f (y*W+x)) ⟨y,x,to⟩):=by
 rw [bD0];have keep:G.full=true\/kOf (f (y*W+x))=nul->GI f W y to (cnt+1) G:=fun hc=>by
  refine ⟨fun hf=>Nat.lt_succ_of_lt (h.nf hf),xR h.nc,h.n4,xR h.tot,fun hf=>?_⟩;have J:=h.j hf;have hz:kOf (f (y*W+x))=nul:=hc.resolve_left (by rw [hf]; decide);refine ⟨J.has,J.val,J.nz,J.from',J.v,J.ne,fun k hk=>aB1 (J.e k hk) (by omega),fun k hk y' x'=>?_,fun y' x' hd hz'=>?_,J.ord⟩
  ·rw [J.m k hk,aD6 hto htW];constructor
   ·rintro ⟨h1,h2⟩; exact ⟨.inl h1,h2⟩
   ·rintro ⟨h1 | h1,h2⟩
    ·exact ⟨h1,h2⟩
    ·rw [aF1 hs h1,hz] at h2;exact absurd h2.symm (J.nz k hk)
  ·rcases (aD6 hto htW y' x').1 hd with h1 | h1
   ·exact J.cov y' x' h1 hz'
   ·exact absurd (by rw [aF1 hs h1,hz]) hz'
 unfold nxtB;by_cases hc:kOf (f (y*W+x))=nul\/G.full=true
 ·rw [ln hc];exact keep hc.symm
 rw [lr hc];have hz:kOf (f (y*W+x))≠nul:=fun e=>hc (.inl e)
 have hf:G.full=false:=by
  cases hh:G.full with
  | false=>rfl
  | true=>exact absurd (.inr hh) hc
 have J:=h.j hf;by_cases hh:G.has (kOf (f (y*W+x)))=true
 ·rw [ln hh];obtain ⟨k,hk,he⟩:=(J.has _).1 hh;have ek:(G.val (kOf (f (y*W+x)))).toNat=k:=by rw [<-he,J.val k hk]; rfl
  rw [ek];refine ⟨fun hf'=>?_,xR h.nc,h.n4,?_,fun _=>bL7 J hy hW hto htW hs hk he⟩
  ·have hf':G.full=true:=hf';rw [hf] at hf'; cases hf'
  ·refine xc (aT9 (P:=Gt.Q (putP G k (grw G k ⟨y,x,to⟩))) (Q:=Gt.Q G) (c:=k) G.n hk (fun j hj hne=>?_) ?_) (Nat.succ_le_succ h.tot)
   ·show updN G.m k _ j=G.m j;rw [aq0 (xy hne)]
   ·show updN G.m k _ k<=G.m k+1;rw [ah5];have:=a10 (Rg.L ⟨G.m k,G.p k⟩) ⟨y,x,to⟩
    rwa [Rg.len] at this
 ·rw [lr hh];by_cases h4:G.n=4096
  ·rw [ln h4];exact ⟨fun _=>by have:=h.nc; omega,xR h.nc,h.n4,xR h.tot,fun hf'=>by cases hf'⟩
  ·rw [lr h4];have hn4:=h.n4;have hnc:=h.nc;refine ⟨fun hf'=>?_,by show G.n+1<=cnt+1; omega,by show G.n+1<=4096; omega,?_,fun _=>bM9 J hy hW hto htW hs hz (by simpa using hh)⟩
   ·have hf':G.full=true:=hf';rw [hf] at hf'; cases hf'
   ·show (al _ G.n++alr _ G.n _).length<=cnt+1;rw [lB,an9];have e1:(al (Gt.Q (putP (fresh G (f (y*W+x))) G.n (grw (fresh G (f (y*W+x))) G.n ⟨y,x,to⟩))) G.n).length=(al (Gt.Q G) G.n).length:=at5 _ (fun j hj=>by
     show updN (updN G.m G.n 0) G.n _ j=G.m j;rw [aq0 (by omega),aq0 (by omega)])
    have e2:(Gt.Q (putP (fresh G (f (y*W+x))) G.n (grw (fresh G (f (y*W+x))) G.n ⟨y,x,to⟩))).m G.n<=1:=by
     show updN _ G.n _ G.n<=1;rw [ah5];have h1:=a10 (Rg.L ⟨updN G.m G.n 0 G.n,G.p G.n⟩) ⟨y,x,to⟩;rw [Rg.len] at h1;have h2:(grw (fresh G (f (y*W+x))) G.n ⟨y,x,to⟩).length<=updN G.m G.n 0 G.n+1:=h1;rw [ah5] at h2;exact h2
    have:=h.tot
    omega
end
theorem bV2 {f:Nat->Vec}{W y:Nat}(hy:y<8192) (hW:W<=8192):∀ n x cnt G,x<=W->W<=x+n->GI f W y x cnt G->GI f W y W (cnt+(W-x)) (rowG (fun i=>f (y*W+i)) y W n x G)
 | 0,x,cnt,G,h1,h2,h=>by
  obtain rfl:x=W:=by omega
  rw [ur];exact h
 | n+1,x,cnt,G,h1,h2,h=>by
  rw [as2];by_cases hx:x<W
  ·rw [ln hx];have hb:=bn9 (f:=fun i=>f (y*W+i)) hx;have hg:=b41 h hy hW hb.1.1 hb.1.2 (fun k hk1 hk2=>hb.2.1 k hk1 hk2);have:=bV2 hy hW n _ _ _ hb.1.2 (by omega) hg
   exact this.mono (by omega)
  ·rw [lr hx];obtain rfl:x=W:=by omega
   rw [ur];exact h
theorem b42 {f:Nat->Vec}{W y cnt:Nat}{G:Gt}(h:GI f W y W cnt G):GI f W (y+1) 0 cnt G:=by
 have hd:∀ y' x',Dn W (y+1) 0 y' x'<->Dn W y W y' x':=fun y' x'=>by unfold Dn; omega
 refine ⟨h.nf,h.nc,h.n4,h.tot,fun hf=>?_⟩;have J:=h.j hf;exact ⟨J.has,J.val,J.nz,J.from',J.v,J.ne,fun k hk=>aB1 (J.e k hk) (by omega),fun k hk y' x'=>by rw [hd]; exact J.m k hk y' x',fun y' x' hdd=>J.cov y' x' ((hd _ _).1 hdd),J.ord⟩
theorem cf2 (f:Nat->Vec) {W:Nat}(hW:W<=8192):∀ y,y<=8192->GI f W y 0 (y*W) (ofR f W y)
 | 0,_=>by
  refine ⟨fun h=>(by cases h),lE _,lE _,lE _,fun _=>?_⟩;refine ⟨fun l=>⟨fun h=>(by cases h),fun ⟨k,h,_⟩=>absurd h (lw _)⟩,fun k h=>absurd h (lw _),fun k h=>absurd h (lw _),fun k h=>absurd h (lw _),fun k h=>absurd h (lw _),fun k h=>absurd h (lw _),fun k h=>absurd h (lw _),fun k h=>absurd h (lw _),fun y' x' h=>?_,fun k h=>absurd h (lw _)⟩;unfold Dn at h;omega
 | y+1,hy=>by
  have h:=bV2 (f:=f) (y:=y) (by omega) hW W 0 _ _ (lE _) (by omega) (cf2 f hW y (by omega));have e:ofR f W (y+1)=rowG (fun i=>f (y*W+i)) y W W 0 (ofR f W y):=by
   show rowA _ _ _ _=_;rw [bl0];rfl
  rw [e];refine b42 (h.mono ?_);rw [lL,uC,Nat.sub_zero];exact lf _
structure OfOK (g:OfG) (P:Pcs):Prop where
 n:(ofA g).full=false
 c:ChG.Ok ⟨g.w,g.h,P⟩
 from':∀ k,k<P.n->∃ i,P.ink k=g.f i
 m:∀ k,k<P.n->∀ y x,mem (Pcs.L P k) y x=true<->((0<=y/\y<16*g.h)/\0<=x/\x<16*g.w)/\ck g.f (16*g.w) y x=kOf (P.ink k)
 cov:∀ y x,((0<=y/\y<16*(g.h:Int))/\0<=x/\x<16*(g.w:Int))->ck g.f (16*g.w) y x≠nul->∃ k,k<P.n/\kOf (P.ink k)=ck g.f (16*g.w) y x
theorem b23 {g:OfG}(hw:1<=g.w/\g.w<=256) (hh:1<=g.h/\g.h<=256) (hc:256*g.w*g.h<=4096):OfOK g (Gt.P (ofA g)):=by
 have e:ofA g=ofR g.f (16*g.w) (16*g.h):=by rw [of_eq]; rfl
 have h:=cf2 g.f (W:=16*g.w) (by omega) (16*g.h) (by omega);rw [<-e] at h;have hcnt:16*g.h*(16*g.w)=256*g.w*g.h:=by grind
 rw [hcnt] at h;have hf:(ofA g).full=false:=by
  cases hff:(ofA g).full with
  | false=>rfl
  | true=>have:=h.nf hff; omega
 have J:=h.j hf;have hP:Gt.P (ofA g)=Gt.Q (ofA g):=by
  show (⟨bif (ofA g).full then 0 else (ofA g).n,_,_,_⟩:Pcs)=_;rw [hf];rfl
 have hd:∀ y x:Int,Dn (16*g.w) (16*g.h) 0 y x<->((0<=y/\y<16*(g.h:Int))/\0<=x/\x<16*(g.w:Int)):=fun y x=>by unfold Dn; omega
 have hm:∀ k,k<(ofA g).n->∀ y x:Int,mem (Pcs.L (Gt.Q (ofA g)) k) y x=true<->((0<=y/\y<16*(g.h:Int))/\0<=x/\x<16*(g.w:Int))/\ck g.f (16*g.w) y x=kOf ((ofA g).ink k):=fun k hk y x=>by rw [J.m k hk,hd]
 have dist:∀ i j,i<j->j<(ofA g).n->kOf ((ofA g).ink i)≠kOf ((ofA g).ink j):=fun i j hij hj he=>by
  have h1:=J.val i (by omega);have h2:=J.val j hj;rw [he,h2] at h1;omega
 refine ⟨hf,?_,?_,?_,?_⟩
 ·rw [hP];refine ⟨hw,hh,⟨h.n4,xc h.tot (by omega),J.v,J.ne,dist,fun i j hij hj y x h1 h2=>?_,J.ord⟩,J.nz,fun k r hk hr=>?_⟩
  ·have a:=((hm i (by have:j<(ofA g).n:=hj; omega) y x).1 h1).2;have b:=((hm j hj y x).1 h2).2;exact dist i j hij hj (a.symm.trans b)
  ·have okr:=((J.v k hk).1 _ (aE0 (P:=Gt.Q (ofA g)) hr)).2;have a:=((hm k hk _ _).1 ((mem_iff _ _ _).2 ⟨_,aE0 (P:=Gt.Q (ofA g)) hr,rfl,xC _,okr⟩)).1;have b:=((hm k hk _ (((Gt.Q (ofA g)).p k r).x1-1)).1 ((mem_iff _ _ _).2 ⟨_,aE0 (P:=Gt.Q (ofA g)) hr,rfl,by omega,by omega⟩)).1;exact ⟨a.1,a.2.1,by have:=b.2.2; show ((Gt.Q (ofA g)).p k r).x1<=16*(g.w:Int); omega⟩
 ·rw [hP]; exact J.from'
 ·rw [hP]; exact hm
 ·rw [hP]; exact fun y x hin hz=>J.cov y x ((hd y x).2 hin) hz
end Ofl
namespace Rin
open Go.RowKit Sx Num Aff Con Rga Rgl Rgn Gat Gar Apl Apt Cel
set_option maxRecDepth 100000
structure StG where
 y:Int
 x0:Int
 x1:Int
structure BsG where
 n:Nat
 f:Nat->Rn
 s:StG
def Bfr (r:Rn) (s:StG):Prop:=r.y<s.y\/(r.y=s.y/\r.x1<=s.x0)
instance (r:Rn) (s:StG):Decidable (Bfr r s):=inferInstanceAs (Decidable (_\/_))
def ixB (f:Nat->Rn) (s:StG):Nat->Nat->Nat
 | 0,k=>k
 | m+1,k=>if Bfr (f k) s then ixB f s m (k+1) else k
theorem bU6 (f:Nat->Rn) (s:StG):∀ m k,ixB f s m k<=k+m
 | 0,k=>lf k
 | m+1,k=>by
  unfold ixB; split
  ·have:=bU6 f s m (k+1); omega
  ·omega
theorem bE6 (f:Nat->Rn) (s:StG):∀ m k j,k<=j->j<ixB f s m k->Bfr (f j) s
 | 0,k,j,h1,h2=>by unfold ixB at h2; omega
 | m+1,k,j,h1,h2=>by
  unfold ixB at h2;split at h2
  ·next he=>
   by_cases hk:j=k
   ·subst hk; exact he
   ·exact bE6 f s m (k+1) j (by omega) h2
  ·omega
theorem bE7 (f:Nat->Rn) (s:StG):∀ m k,ixB f s m k<k+m->¬ Bfr (f (ixB f s m k)) s
 | 0,k,h=>by unfold ixB at h; omega
 | m+1,k,h=>by
  unfold ixB at h ⊢;split at h
  ·next he=>rw [ln he]; exact bE7 f s m (k+1) (by omega)
  ·next he=>rw [lr he]; exact he
structure BsOK (g:BsG):Prop where
 n:g.n<=4611686018427387904
 mono:∀ i j,i<=j->j<g.n->Bfr (g.f j) g.s->Bfr (g.f i) g.s
theorem BsOK.below {g:BsG}(h:BsOK g) {j:Nat}(hj:j<g.n) (hb:Bfr (g.f j) g.s):j<ixB g.f g.s g.n 0:=by
 refine uZ.1 fun hc=>?_
 have:=bE7 g.f g.s g.n 0 (by omega)
 exact this (h.mono _ _ hc hj hb)
def sOf (r:Rn):StG:=⟨r.y,r.x0,r.x0+1⟩
structure BrG where
 n:Nat
 f:Nat->Rn
 r:Rn
def BrG.b (g:BrG):BsG:=⟨g.n,g.f,sOf g.r⟩
def b90:FSpec:=ac8 72 (γ:=Int) (fun | [.int _ x]=>some x | _=>none) (fun x=>[.int .i64 x]) (fun _=>True) (fun _=> .lit false)
theorem cc3:aa9 Tw.prog b90:=by
 refine ab0 (specs:=[]) (ac7 trivial) (eqs:=[]) (fun _ _ h=>(lx h).elim) Aff.mixed Tw.func72 rfl (by kernel_rfl) (fun _ _=>by kernel_rfl) (fun g=>A0) (fun g=>li (by kernel_rfl)) ?_;rintro x hx;refine af7 (B:=True/\True/\True/\True/\True/\True/\Sx.Ask (decide (x≠x)=false)) (by kernel_rfl) ?_;simp only [cln,ly];simp
def cmpI (x y:Int):Int:=if x<y then -1 else if y<x then 1 else 0
def bR9:FSpec:=ac8 52 (γ:=Int×Int) (fun | [.int _ a,.int _ b]=>some (a,b) | _=>none) (fun g=>[.int .i64 g.1,.int .i64 g.2]) (fun _=>True) (fun g=> .int .i64 (cmpI g.1 g.2))
theorem b21:aa9 Tw.prog bR9:=by
 refine ab0 (specs:=[b90]) (ac7 (⟨cc3,trivial⟩)) (eqs:=[]) (fun _ _ h=>(lx h).elim) Aff.mixed Tw.func52 rfl (by kernel_rfl) (fun _ _=>by kernel_rfl) (fun g=>A0) (fun g=>li (by kernel_rfl)) ?_;rintro g _;refine af7 (B:=let A:=Sx.Ask;let z0:=(IntKind.i64=IntKind.i64);True/\True/\(((A z0/\A (g.fst=g.fst))/\True)/\A True)/\True/\True/\(((A z0/\A (g.snd=g.snd))/\True)/\A True)/\True/\True/\True/\True/\True/\True/\Br (decide (g.fst<g.snd)) (True/\True/\A z0/\A ((-1:Int)=cmpI g.fst g.snd)) (True/\True/\True/\Br (decide (g.snd<g.fst)) (True/\True/\A z0/\A ((1:Int)=cmpI g.fst g.snd)) (True/\True/\A z0/\A ((0:Int)=cmpI g.fst g.snd)))) (by kernel_rfl) ?_;simp only [cln,ly];unfold cmpI;omega
def bR8:FSpec:=ac8 51 (γ:=Rn×Rn) (fun | [.agg _ r,.agg _ s]=>some (rnD r,rnD s) | _=>none) (fun g=>[rnS g.1,rnS g.2]) (fun _=>True) (fun g=> .int .i64 (if Bfr g.1 (sOf g.2) then -1 else 1))
theorem b20:aa9 Tw.prog bR8:=by
 refine ab0 (specs:=[bR9]) (ac7 (⟨b21,trivial⟩)) (eqs:=[]) (fun _ _ h=>(lx h).elim) Aff.mixed Tw.func51 rfl (by kernel_rfl) (fun _ _=>by kernel_rfl) (fun g=>A0) (fun g=>li (by kernel_rfl)) ?_;rintro g _;refine af7 (B:=let A:=Sx.Ask;let z0:=(IntKind.i64=IntKind.i64);True/\True/\True/\True/\True/\True/\True/\(((A z0/\A (g.fst.y=g.fst.y))/\(A z0/\A (g.snd.y=g.snd.y))/\True)/\A True)/\True/\True/\True/\Br (decide (cmpI g.fst.y g.snd.y≠(0:Int))) (True/\True/\True/\A z0/\A (cmpI g.fst.y g.snd.y=if Bfr g.fst (sOf g.snd) then (-1:Int) else (1:Int))) (True/\True/\True/\True/\True/\Br (decide (g.fst.x1<=g.snd.x0)) (True/\True/\A z0/\A ((-1:Int)=if Bfr g.fst (sOf g.snd) then (-1:Int) else (1:Int))) (True/\True/\A z0/\A ((1:Int)=if Bfr g.fst (sOf g.snd) then (-1:Int) else (1:Int))))) (by kernel_rfl) ?_;simp only [cln,ly];unfold Bfr sOf cmpI;simp only
 omega
def brI (g:BrG):Inv:=⟨Nat×Nat,fun q=>q.1<=ixB g.f (sOf g.r) g.n 0/\ixB g.f (sOf g.r) g.n 0<=q.2/\q.2<=g.n,
 fun q=>⟨[(0,rgS ⟨g.n,g.f⟩),(2,.fn 51 0 (lst [])),(4,.own 0 0),(8,.int .i64 g.n),(9,.int .i64 q.1),(10,.int .i64 q.2)],[.cells 3 (lst (rnL g.r)) 43]⟩,fun q=>q.2-q.1⟩
def spBr:FSpec:=ac8 50 (γ:=BrG) (fun | [r,.agg _ s,_]=>some ⟨aG6 r,rgD r,rnD s⟩ | _=>none)
 (fun g=>[rgS ⟨g.n,g.f⟩,rnS g.r,.fn 51 0 (lst [])]) (fun g=>BsOK g.b) (fun g=> .tup 2 (lst [.int .i64 (ixB g.f (sOf g.r) g.n 0),.bool false]))
theorem ok_br:aa9 Tw.prog spBr:=by
 refine ab0 (specs:=[bR8]) (ac7 (⟨b20,trivial⟩)) (eqs:=[]) (fun _ _ h=>(lx h).elim) Aff.mixed Tw.func50 rfl (by kernel_rfl) (fun _ _=>by kernel_rfl) (fun g=>(⟨[(3,.inv (brI g))],[]⟩:Ann)) (fun g=>li (by kernel_rfl)) ?_;rintro g hg;refine af7 (B:=let K:=Int.toNat;let A:=Sx.Ask;let z16:=((0:Nat)=(0:Nat));let z15:=(2:Int);let z14:=(↑g.n:Int);let z13:=(9223372036854775807:Int);let z12:=(-9223372036854775808:Int);let z8:=(1:Int);let z6:=(A ((51:Go.FuncId)=(51:Go.FuncId))/\True);let z0:=(IntKind.i64=IntKind.i64);let q0:=fun p:Int=>A z0/\A (p=p);let z7:=(q0 z14);let z3:=(A (g.n=g.n)/\∀ i:Nat,i<g.n->((True/\q0 ((g.f i).y))/\q0 ((g.f i).x0))/\q0 ((g.f i).x1));let z2:=(((True/\q0 g.r.y)/\q0 g.r.x0)/\q0 g.r.x1);True/\True/\True/\True/\True/\True/\True/\True/\True/\(∃ (g_1:Nat×Nat),A ((brI g).pre g_1)/\(z3/\z6/\A z16/\z7/\(A z0/\A ((0:Int)=(↑g_1.fst:Int)))/\(A z0/\A (z14=(↑g_1.snd:Int)))/\True)/\z2/\True)/\∀ (g_1:Nat×Nat),let z11:=(↑g_1.snd:Int);let z4:=(↑g_1.fst:Int);let z10:=(g.f z4.toNat);let z9:=(True/\A z0/\A (z4=(↑(ixB g.f (sOf g.r) g.n (0:Nat)):Int)));let z5:=(z4+z11);let z1:=(g.f (IntKind.u64.wrap z5 / z15 ^ K z8).toNat); (brI g).pre g_1->True/\True/\True/\Br (decide (z4<z11)) (True/\True/\A (z12<=z4+z11/\z4+z11<=z13)/\A True/\A ((0:Int)<=z8/\z8<=(↑IntKind.u64.bits:Int))/\A (z12<=IntKind.u64.wrap z5 / z15 ^ K z8/\IntKind.u64.wrap z5 / z15 ^ K z8<=z13)/\True/\True/\True/\True/\A ((0:Int)<=IntKind.u64.wrap z5 / z15 ^ K z8/\IntKind.u64.wrap z5 / z15 ^ K z8<z14)/\True/\True/\(((((True/\q0 z1.y)/\q0 z1.x0)/\q0 z1.x1)/\z2/\True)/\A True)/\True/\Br (decide ((if Bfr z1 (sOf g.r) then (-1:Int) else z8)<(0:Int))) (True/\A (z12<=IntKind.u64.wrap z5 / z15 ^ K z8+z8/\IntKind.u64.wrap z5 / z15 ^ K z8+z8<=z13)/\True/\∃ (g':Nat×Nat),A ((brI g).pre g')/\((z3/\z6/\A z16/\z7/\(A z0/\A (IntKind.u64.wrap z5 / z15 ^ K z8+z8=(↑g'.fst:Int)))/\(A z0/\A (z11=(↑g'.snd:Int)))/\True)/\z2/\True)/\A ((brI g).meas g'<(brI g).meas g_1)) (True/\True/\∃ (g':Nat×Nat),A ((brI g).pre g')/\((z3/\z6/\A z16/\z7/\(A z0/\A (z4=(↑g'.fst:Int)))/\(A z0/\A (IntKind.u64.wrap z5 / z15 ^ K z8=(↑g'.snd:Int)))/\True)/\z2/\True)/\A ((brI g).meas g'<(brI g).meas g_1))) (True/\True/\True/\True/\True/\Br (decide (z4<z14)) (True/\True/\True/\A ((0:Int)<=z4/\z4<z14)/\True/\True/\(((((True/\q0 z10.y)/\q0 z10.x0)/\q0 z10.x1)/\z2/\True)/\A True)/\True/\True/\True/\True/\True/\z9/\A (decide ((if Bfr z10 (sOf g.r) then (-1:Int) else z8)=(0:Int))=false)) (True/\True/\True/\True/\z9/\A (false=false)))) (by kernel_rfl) ?_;simp only [cln,ly];have hn:g.n<=4611686018427387904:=hg.n;have h1:=bU6 g.f (sOf g.r) g.n 0;refine ⟨⟨(0,g.n),⟨lE _,by omega,lf _⟩,rfl,rfl⟩,fun q hq=>?_⟩;obtain ⟨lo,hi⟩:=q;obtain ⟨q1,q2,q3⟩:lo<=ixB g.f (sOf g.r) g.n 0/\ixB g.f (sOf g.r) g.n 0<=hi/\hi<=g.n:=hq;have hw:IntKind.u64.wrap ((lo:Int)+(hi:Int)) / 2 ^ Int.toNat 1=(((lo+hi) / 2:Nat):Int):=by
  have:IntKind.u64.wrap ((lo:Int)+(hi:Int))=(lo:Int)+hi:=by
   show ((lo:Int)+hi) % 18446744073709551616=_;omega
  rw [this];show ((lo:Int)+hi) / 2=_;omega
 simp only [hw,ly];refine ⟨fun hlt=>⟨by omega,⟨by omega,by decide⟩,by omega,by omega,fun hc=>?_,fun hc=>?_⟩,fun hge=>⟨fun hl=>⟨by omega,by omega,by split<;>omega⟩,fun hl=>by omega⟩⟩
 ·have hb:Bfr (g.f ((lo+hi) / 2)) (sOf g.r):=by
   by_cases h:Bfr (g.f ((lo+hi) / 2)) (sOf g.r)
   ·exact h
   ·rw [lr h] at hc; omega
  have:(lo+hi) / 2<ixB g.f (sOf g.r) g.n 0:=hg.below (show (lo+hi) / 2<g.n by omega) hb
  exact ⟨by omega,((lo+hi) / 2+1,hi),⟨by show (lo+hi) / 2+1<=_; omega,q2,q3⟩,⟨by simp,rfl⟩,by show hi-((lo+hi) / 2+1)<hi-lo; omega⟩
 ·have hb:¬ Bfr (g.f ((lo+hi) / 2)) (sOf g.r):=fun h=>by rw [ln h] at hc; omega
  have:ixB g.f (sOf g.r) g.n 0<=(lo+hi) / 2:=ut.1 fun hc=>hb (bE6 g.f (sOf g.r) g.n 0 _ (lE _) hc)
  exact ⟨(lo,(lo+hi) / 2),⟨q1,this,by show (lo+hi) / 2<=g.n; omega⟩,⟨rfl,rfl⟩,by show (lo+hi) / 2-lo<hi-lo; omega⟩
structure InG where
 n:Nat
 f:Nat->Rn
 x:Int
 y:Int
def InG.ix (g:InG):Nat:=ixB g.f (sOf ⟨g.y,g.x,0⟩) g.n 0
def InG.is (g:InG):Prop:=g.ix<g.n/\(g.f g.ix).y=g.y/\(g.f g.ix).x0<=g.x/\g.x<(g.f g.ix).x1
instance (g:InG):Decidable g.is:=inferInstanceAs (Decidable (_/\_))
def spIn:FSpec:=ac8 34 (γ:=InG) (fun | [r,.int _ x,.int _ y]=>some ⟨aG6 r,rgD r,x,y⟩ | _=>none) (fun g=>[rgS ⟨g.n,g.f⟩,.int .i64 g.x,.int .i64 g.y]) (fun g=>BsOK ⟨g.n,g.f,sOf ⟨g.y,g.x,0⟩⟩) (fun g=> .bool (decide g.is))
theorem ok_in:aa9 Tw.prog spIn:=by
 refine ab0 (specs:=[spBr]) (ac7 (⟨ok_br,trivial⟩)) (eqs:=[]) (fun _ _ h=>(lx h).elim) Aff.mixed Tw.func34 rfl (by kernel_rfl) (fun _ _=>by kernel_rfl) (fun g=>A0) (fun g=>li (by kernel_rfl)) ?_;rintro g hg;refine af7 (B:=let T6:=fun p:Prop=>True/\True/\True/\True/\True/\True/\p;let A:=Sx.Ask;let z3:=(false=decide g.is);let z1:=(IntKind.i64=IntKind.i64);let q1:=fun p:Int=>A z1/\A (p=p);let z0:=(↑(ixB g.f (sOf (Rn.mk g.y g.x (0:Int))) g.n (0:Nat)):Int);let z2:=((0:Int)<=z0/\z0<(↑g.n:Int));True/\True/\True/\True/\True/\(((A (g.n=g.n)/\∀ i:Nat,i<g.n->((True/\q1 ((g.f i).y))/\q1 ((g.f i).x0))/\q1 ((g.f i).x1))/\(((True/\q1 g.y)/\q1 g.x)/\q1 ((0:Int)))/\(A ((51:Nat)=(51:Go.FuncId))/\True)/\True)/\A (BsOK (BrG.mk g.n g.f (Rn.mk g.y g.x (0:Int))).b))/\T6 (True/\True/\True/\True/\Br (decide (z0<(↑g.n:Int))) (True/\True/\A z2/\T6 (Br (decide ((g.f z0.toNat).y=g.y)) (True/\True/\A z2/\T6 (Br (decide ((g.f z0.toNat).x0<=g.x)) (True/\True/\True/\A z2/\T6 (A (decide (g.x<(g.f z0.toNat).x1)=decide g.is))) (True/\True/\True/\A z3))) (True/\True/\True/\True/\True/\A z3))) (T6 (True/\A z3)))) (by kernel_rfl) ?_;simp only [cln,ly];have e:ixB g.f (sOf ⟨g.y,g.x,0⟩) g.n 0=g.ix:=rfl;rw [e];refine ⟨hg,fun h1=>⟨by omega,fun h2=>⟨by omega,fun h3=>⟨by omega,?_⟩,fun h3=>?_⟩,fun h2=>?_⟩,fun h1=>?_⟩
 ·exact xG.2 ⟨fun h4=>⟨by omega,h2,h3,h4⟩,fun h4=>h4.2.2.2⟩
 ·exact (lm fun h4:g.is=>h3 h4.2.2.1).symm
 ·exact (lm fun h4:g.is=>h2 h4.2.1).symm
 ·exact (lm fun h4:g.is=>h1 (by have:=h4.1; omega)).symm
theorem ce4 {n:Nat}{f:Nat->Rn}(h:vld (Lf f n)) {i j:Nat}(hij:i<j) (hj:j<n):ltR (f i) (f j):=by
 have:=xU.1 h.2 i j (by rw [av7]; omega) (by rw [av7]; exact hj) hij
 simpa [Lf] using this
theorem lf_ok {n:Nat}{f:Nat->Rn}(h:vld (Lf f n)) {j:Nat}(hj:j<n):(f j).x0<(f j).x1:=(h.1 (f j) (xq.2 ⟨j,lP.2 hj,rfl⟩)).2
theorem bs_ok {n:Nat}{f:Nat->Rn}(h:vld (Lf f n)) (s:StG):BsOK ⟨n,f,s⟩:=by
 refine ⟨?_,fun i j hij hj hb=>?_⟩
 ·have:=aU2 h
  rw [av7] at this;show n<=_;omega
 ·rcases Nat.eq_or_lt_of_le hij with rfl | hlt
  ·exact hb
  ·have h1:=ce4 h hlt hj;have h2:=lf_ok h hj;have hb:(f j).y<s.y\/((f j).y=s.y/\(f j).x1<=s.x0):=hb;show (f i).y<s.y\/((f i).y=s.y/\(f i).x1<=s.x0);unfold ltR at h1;omega
theorem ce7 {n:Nat}{f:Nat->Rn}(h:vld (Lf f n)) {x y:Int}:(InG.mk n f x y).is<->mem (Lf f n) y x=true:=by
 rw [mem_iff];constructor
 ·rintro ⟨h1,h2,h3,h4⟩;exact ⟨f _,xq.2 ⟨_,lP.2 h1,rfl⟩,h2,h3,h4⟩
 ·rintro ⟨r,hr,h2,h3,h4⟩;obtain ⟨k,hk,rfl⟩:=xq.1 hr;have hk:=lP.1 hk;have e:ixB f (sOf ⟨y,x,0⟩) n 0=k:=by
   rcases xB (ixB f (sOf ⟨y,x,0⟩) n 0) k with hc | hc | hc
   ·have h5:=bE7 f (sOf ⟨y,x,0⟩) n 0 (by omega);have h6:=ce4 h hc hk;refine absurd ?_ h5;show (f _).y<y\/((f _).y=y/\(f _).x1<=x);unfold ltR at h6;omega
   ·exact hc
   ·have h5:(f k).y<y\/((f k).y=y/\(f k).x1<=x):=bE6 f (sOf ⟨y,x,0⟩) n 0 k (lE _) hc;omega
  show ixB f (sOf ⟨y,x,0⟩) n 0<n/\(f (ixB f (sOf ⟨y,x,0⟩) n 0)).y=y/\(f (ixB f (sOf ⟨y,x,0⟩) n 0)).x0<=x/\x<(f (ixB f (sOf ⟨y,x,0⟩) n 0)).x1;rw [e];exact ⟨hk,h2,h3,h4⟩
structure AtG where
 w:Nat
 h:Nat
 P:Pcs
 x:Nat
 y:Nat
open Classical in
noncomputable def atF (P:Pcs) (y x:Int):Nat->Nat->Vec
 | 0,_=>fun _=>0
 | f+1,k=>if mem (Pcs.L P k) y x=true then P.ink k else atF P y x f (k+1)
noncomputable def AtG.v (g:AtG):Vec:=atF g.P g.y g.x g.P.n 0
structure AtG.Ok (g:AtG):Prop where
 c:ChG.Ok ⟨g.w,g.h,g.P⟩
 x:g.x<16*g.w
 y:g.y<16*g.h
def at1 (g:AtG):Inv:=⟨Nat,fun k=>k<=g.P.n/\g.v=atF g.P g.y g.x (g.P.n-k) k,fun k=>⟨[(3,.int .i64 g.x),(4,.int .i64 g.y),(10,.own 0 0),(42,pcS g.P),(43,.int .i64 g.P.n),(44,.int .i64 k)],[.cells 8 (fun _=> .int .u8 0) 33]⟩,fun k=>g.P.n-k⟩
noncomputable def spAt:FSpec:=ac8 17 (γ:=AtG) (fun | [.int _ w,.int _ h,s,.int _ x,.int _ y]=>some ⟨w.toNat,h.toNat,pcD s,x.toNat,y.toNat⟩ | _=>none)
 (fun g=>[.int .i64 g.w,.int .i64 g.h,pcS g.P,.int .i64 g.x,.int .i64 g.y]) AtG.Ok (fun g=> .tup 2 (lst [.agg 8 (fun j=> .int .u8 (g.v j)),.int .i64 0]))
theorem ok_at:aa9 Tw.prog spAt:=by
 refine ab0 (specs:=[aW4,spIn]) (ac7 (⟨a84,ok_in,trivial⟩)) (eqs:=[]) (fun _ _ h=>(lx h).elim) Aff.mixed Tw.func17 rfl (by kernel_rfl) (fun _ _=>by kernel_rfl) (fun g=>(⟨[(7,.inv (at1 g))],[]⟩:Ann)) (fun g=>li (by kernel_rfl)) ?_;rintro g hg;refine af7 (B:=let K:=Br;let A:=Sx.Ask;let z19:=(↑g.x:Int);let z18:=(↑g.y:Int);let z17:=(↑g.h:Int);let z16:=(↑g.w:Int);let z15:=(0:Nat);let z13:=(9223372036854775807:Int);let z12:=(-9223372036854775808:Int);let z11:=(↑g.P.n:Int);let z9:=(0:Int);let z6:=(z9=z9);let z3:=(IntKind.i64=IntKind.i64);let q3:=fun p:Int=>A z3/\A (p=p);let z8:=(q3 z18);let z7:=(q3 z19);let z2:=(IntKind.u8=IntKind.u8);let q2:=fun p:Int=>A z2/\A (p=p);let z4:=((((((((True/\A z2/\A z6)/\A z2/\A z6)/\A z2/\A z6)/\A z2/\A z6)/\A z2/\A z6)/\A z2/\A z6)/\A z2/\A z6)/\A z2/\A z6);let z1:=(True/\(chp True (fun j:Nat=>A z2/\A (z9=g.v j)) 7)/\A z2/\A (z9=g.v (7:Nat)));let z0:=(A (g.P.n=g.P.n)/\∀ i:Nat,i<g.P.n->(chp (True/\A (g.P.m i=g.P.m i)/\∀ i_1:Nat,let z14:=(g.P.p i i_1); i_1<g.P.m i->((True/\q3 z14.y)/\q3 z14.x0)/\q3 z14.x1) (fun j:Nat=>q2 (g.P.ink i j)) 7)/\q2 (g.P.ink i (7:Nat)));True/\True/\True/\True/\True/\(((A z3/\A (z16=(↑z16.toNat:Int)))/\(A z3/\A (z17=(↑z17.toNat:Int)))/\z0/\True)/\A (ChG.mk z16.toNat z17.toNat g.P).Ok)/\True/\True/\True/\True/\True/\True/\True/\True/\A (z12<=(16:Int)*z16/\(16:Int)*z16<=z13)/\True/\True/\True/\K (decide ((16:Int)*z16<=z19)) (True/\True/\True/\True/\True/\True/\(True/\True)/\z1/\A z3/\A ((3:Int)=z9)) (True/\True/\True/\True/\True/\True/\A (z12<=(16:Int)*z17/\(16:Int)*z17<=z13)/\True/\True/\K (decide ((16:Int)*z17<=z18)) (True/\True/\True/\(True/\True)/\z1/\A z3/\A ((3:Int)=z9)) (True/\True/\True/\(∃ g_1:Nat,A ((at1 g).pre g_1)/\(z7/\z8/\A (z15=z15)/\z0/\(q3 z11)/\(A z3/\A (z9=(↑g_1:Int)))/\True)/\z4/\True)/\∀ g_1:Nat,let z5:=(↑g_1:Int); (at1 g).pre g_1->True/\K (decide (z5<z11)) (A (z9<=z5/\z5<z11)/\True/\True/\True/\True/\True/\True/\True/\(((A (g.P.m z5.toNat=g.P.m z5.toNat)/\∀ i:Nat,let z10:=(g.P.p z5.toNat i); i<g.P.m z5.toNat->((True/\q3 z10.y)/\q3 z10.x0)/\q3 z10.x1)/\z7/\z8/\True)/\A (BsOK (BsG.mk (g.P.m z5.toNat) (g.P.p z5.toNat) (sOf (Rn.mk z18 z19 z9)))))/\K (decide (InG.mk (g.P.m z5.toNat) (g.P.p z5.toNat) z19 z18).is) (True/\True/\True/\True/\(True/\True)/\(True/\(((((((True/\A z2/\A (g.P.ink z5.toNat z15=g.v z15))/\A z2/\A (g.P.ink z5.toNat (1:Nat)=g.v (1:Nat)))/\A z2/\A (g.P.ink z5.toNat (2:Nat)=g.v (2:Nat)))/\A z2/\A (g.P.ink z5.toNat (3:Nat)=g.v (3:Nat)))/\A z2/\A (g.P.ink z5.toNat (4:Nat)=g.v (4:Nat)))/\A z2/\A (g.P.ink z5.toNat (5:Nat)=g.v (5:Nat)))/\A z2/\A (g.P.ink z5.toNat (6:Nat)=g.v (6:Nat)))/\A z2/\A (g.P.ink z5.toNat (7:Nat)=g.v (7:Nat)))/\A z3/\A z6) (A (z12<=z5+(1:Int)/\z5+(1:Int)<=z13)/\True/\∃ (g':Nat),A ((at1 g).pre g')/\((z7/\z8/\A (z15=z15)/\z0/\(q3 z11)/\(A z3/\A (z5+(1:Int)=(↑g':Int)))/\True)/\z4/\True)/\A ((at1 g).meas g'<(at1 g).meas g_1))) (True/\True/\True/\(True/\True)/\z1/\A z3/\A z6)))) (by kernel_rfl) ?_;simp only [chp];simp only [cln,ly];have hw:=hg.c.w;have hh:=hg.c.h;have hx:=hg.x;have hy:=hg.y;have hn:=hg.c.P.n;have hw:g.w<=256:=hw.2;have hh:g.h<=256:=hh.2;have hn:g.P.n<=4096:=hn;refine ⟨hg.c,by omega,fun h=>by omega,fun _=>⟨by omega,fun h=>by omega,fun _=>⟨⟨0,⟨lE _,rfl⟩,rfl⟩,fun k hk=>⟨fun hlt=>?_,fun hge=>?_⟩⟩⟩⟩
 ·obtain ⟨hkn,hv⟩:=hk;have hk:k<g.P.n:=by omega
  have hvl:vld (Lf (g.P.p k) (g.P.m k)):=hg.c.P.v k hk;have e:atF g.P g.y g.x (g.P.n-k) k=if mem (Pcs.L g.P k) g.y g.x=true then g.P.ink k else atF g.P g.y g.x (g.P.n-(k+1)) (k+1):=by
   rw [show g.P.n-k=(g.P.n-(k+1))+1 by omega];rfl
  have hmi:(InG.mk (g.P.m k) (g.P.p k) g.x g.y).is<->mem (Pcs.L g.P k) g.y g.x=true:=ce7 hvl;refine ⟨by omega,bs_ok hvl _,fun h=>?_,fun h=>⟨by omega,k+1,⟨hk,?_⟩,rfl,by show g.P.n-(k+1)<g.P.n-k; omega⟩⟩
  ·have:g.v=g.P.ink k:=by rw [hv,e,ln (hmi.1 h)]
   exact eight fun j _=>by rw [this]
  ·rw [hv,e,lr fun hc=>h (hmi.2 hc)]
 ·obtain ⟨hkn,hv⟩:=hk;have e:g.v=fun _=>0:=by rw [hv,show g.P.n-k=0 by omega]; rfl
  exact eight (a:=fun _=>0) fun j _=>by rw [e]
end Rin
namespace Pcs
open Go.RowKit Sx Num Aff Con Rga Gat Gar Cel
set_option maxRecDepth 100000
structure PiG where
 w:Nat
 n:Nat
 f:Nat->Vec
 k:Int
def three (v:Vec):Vec:=fun j=>if j=0 then v 0 else if j=1 then v 1 else if j=2 then v 2 else 0
def PiG.at' (g:PiG) (i:Nat):Nat:=(i / (cutI g.k 1 40).toNat+i / (16*g.w) / 3) % g.n
def PiG.cel (g:PiG) (i:Nat):Vec:=if 0<g.n then three (g.f (g.at' i)) else fun _=>0
def PiG.of (g:PiG):OfG:=⟨g.w,1,256*g.w,fun i j=>if i<256*g.w then g.cel i j else 0⟩
structure PiG.Ok (g:PiG):Prop where
 w:1<=g.w/\g.w<=2
 n:g.n<=17592186044416
def piI (g:PiG):Inv:=⟨Nat,fun i=>i<=256*g.w,fun i=>⟨[(0,.int .i64 g.w),(1,bd1 g.n g.f),(2,.int .i64 (cutI g.k 1 40)),(7,.osl 0 0),(18,.int .i64 (256*g.w)),(19,.int .i64 i)],
 [.row 0 (256*g.w) 8 (fun a j=> .int .u8 (if a<i then g.cel a j else 0)) 33]⟩,fun i=>256*g.w-i⟩
noncomputable def spPc:FSpec:=ac8 8 (γ:=PiG) (fun | [.int _ w,s,.int _ k]=>some ⟨w.toNat,aG6 s,bP5 s,k⟩ | _=>none) (fun g=>[.int .i64 g.w,bd1 g.n g.f,.int .i64 g.k]) PiG.Ok (fun g=>pcS (Gt.P (ofA g.of)))
theorem ok_pc:aa9 Tw.prog spPc:=by
 refine ab0 (specs:=[b00,giv spOf]) (ac7 (⟨bT4,bV1 cc9,trivial⟩)) (eqs:=[]) (fun _ _ h=>(lx h).elim) Aff.mixed Tw.func8 rfl (by kernel_rfl) (fun _ _=>by kernel_rfl) (fun g=>(⟨[(4,.inv (piI g))],[]⟩:Ann)) (fun g=>li (by kernel_rfl)) ?_;rintro g hg;refine af7 (B:=let K:=Int.toNat;let A:=Sx.Ask;let z30:=(ofA g.of);let z29:=(↑(8:Nat):Int);let z28:=(40:Int);let z26:=(↑g.n:Int);let z25:=(7:Nat);let z24:=(6:Nat);let z23:=(5:Nat);let z22:=(4:Nat);let z21:=(3:Nat);let z20:=(2:Nat);let z18:=(1:Nat);let z16:=(256:Int);let z14:=(256:Nat);let z32:=(z14*g.w=z14*g.w);let z13:=(1:Int);let z19:=(cutI g.k z13 z28);let z11:=(-9223372036854775808:Int);let z10:=(9223372036854775807:Int);let z9:=(0:Nat);let z7:=(Gar.Gt.P z30);let z6:=(↑g.w:Int);let z5:=(IntKind.i64=IntKind.i64);let q5:=fun p:Int=>A z5/\A (p=p);let z31:=(q5 (z16*z6));let z27:=(q5 z6);let z12:=(q5 (cutI g.k z13 z28));let z3:=(0:Int);let z2:=(IntKind.u8=IntKind.u8);let q2:=fun p:Int=>A z2/\A (p=p);let z1:=(A (g.n=g.n)/\∀ i:Nat,i<g.n->(chp True (fun j:Nat=>q2 (g.f i j)) 7)/\q2 (g.f i z25));True/\True/\A (z11<=z16*z6/\z16*z6<=z10)/\A (z3<=z16*z6/\z16*z6<=z16*z6/\z29*(z16*z6)<=(140737488355328:Int)/\z16*z6<=z10)/\True/\True/\(((q5 g.k)/\(q5 z13)/\(q5 z28)/\True)/\A (((-2305843009213693952:Int)<=z13/\z13<=z28)/\z28<=(4611686018427387903:Int)/\z28-z13<=(4611686018427387903:Int)))/\True/\True/\True/\True/\(∃ g_1:Nat,A ((piI g).pre g_1)/\(z27/\z1/\z12/\True/\(A z5/\A ((↑(z16*z6).toNat:Int)=z16*z6))/\(A z5/\A (z3=(↑g_1:Int)))/\True)/\(A ((z16*z6).toNat=z14*g.w)/\∀ i:Nat,i<z14*g.w->(chp True (fun j:Nat=>A z2/\A (z3=if i<g_1 then g.cel i j else z3)) 7)/\A z2/\A (z3=if i<g_1 then g.cel i z25 else z3))/\True)/\∀ g_1:Nat,let z8:=(↑g_1:Int);let z17:=(z8.tdiv ((16:Int)*z6));let z4:=(z8.tdiv z19+z17.tdiv (3:Int));let z0:=(ofA (OfG.mk z6.toNat (K z13) (z14*g.w) fun (i j:Nat)=>if i<g_1 then g.cel i j else z3));let z15:=(Gar.Gt.P z0); (piI g).pre g_1->True/\Br (decide (z8<z16*z6)) (True/\True/\True/\True/\True/\Br (decide (z3<z26)) (True/\True/\True/\A (cutI g.k z13 z28≠z3/\z11<=z8.tdiv z19/\z8.tdiv z19<=z10)/\True/\True/\A (z11<=(16:Int)*z6/\(16:Int)*z6<=z10)/\A ((16:Int)*z6≠z3/\z11<=z8.tdiv ((16:Int)*z6)/\z8.tdiv ((16:Int)*z6)<=z10)/\A ((3:Int)≠z3/\z11<=z17.tdiv (3:Int)/\z17.tdiv (3:Int)<=z10)/\A (z11<=z8.tdiv z19+z17.tdiv (3:Int)/\z8.tdiv z19+z17.tdiv (3:Int)<=z10)/\True/\True/\A (z26≠z3)/\A (z3<=z4.tmod z26/\z4.tmod z26<z26)/\True/\True/\True/\True/\True/\A (z3<=z3/\z3<z29)/\True/\A (z3<=z13/\z13<z29)/\True/\A (z3<=(2:Int)/\(2:Int)<z29)/\True/\True/\A (z3<=z8/\z8<(↑(z14*g.w):Int))/\A (z8.toNat<z14*g.w)/\A (z11<=z8+z13/\z8+z13<=z10)/\True/\∃ (g':Nat),A ((piI g).pre g')/\((z27/\z1/\z12/\True/\z31/\(A z5/\A (z8+z13=(↑g':Int)))/\True)/\(A z32/\∀ i:Nat,i<z14*g.w->(((((((True/\A z2/\A ((bif decide (i=z8.toNat/\z9<=z9/\z9<z9+(8:Nat)) then g.f (z4.tmod z26).toNat (z9+(z9+K z3*z18)) else if i<g_1 then g.cel i z9 else z3)=if i<g' then g.cel i z9 else z3))/\A z2/\A ((bif decide (i=z8.toNat/\z9<=z18/\z18<z9+(8:Nat)) then g.f (z4.tmod z26).toNat (z9+(z9+K z13*z18)) else if i<g_1 then g.cel i z18 else z3)=if i<g' then g.cel i z18 else z3))/\A z2/\A ((bif decide (i=z8.toNat/\z9<=z20/\z20<z9+(8:Nat)) then g.f (z4.tmod z26).toNat (z9+(z9+K (2:Int)*z18)) else if i<g_1 then g.cel i z20 else z3)=if i<g' then g.cel i z20 else z3))/\A z2/\A ((bif decide (i=z8.toNat/\z9<=z21/\z21<z9+(8:Nat)) then z3 else if i<g_1 then g.cel i z21 else z3)=if i<g' then g.cel i z21 else z3))/\A z2/\A ((bif decide (i=z8.toNat/\z9<=z22/\z22<z9+(8:Nat)) then z3 else if i<g_1 then g.cel i z22 else z3)=if i<g' then g.cel i z22 else z3))/\A z2/\A ((bif decide (i=z8.toNat/\z9<=z23/\z23<z9+(8:Nat)) then z3 else if i<g_1 then g.cel i z23 else z3)=if i<g' then g.cel i z23 else z3))/\A z2/\A ((bif decide (i=z8.toNat/\z9<=z24/\z24<z9+(8:Nat)) then z3 else if i<g_1 then g.cel i z24 else z3)=if i<g' then g.cel i z24 else z3))/\A z2/\A ((bif decide (i=z8.toNat/\z9<=z25/\z25<z9+(8:Nat)) then z3 else if i<g_1 then g.cel i z25 else z3)=if i<g' then g.cel i z25 else z3))/\True)/\A ((piI g).meas g'<(piI g).meas g_1)) (A (z11<=z8+z13/\z8+z13<=z10)/\True/\∃ (g':Nat),A ((piI g).pre g')/\((z27/\z1/\z12/\True/\z31/\(A z5/\A (z8+z13=(↑g':Int)))/\True)/\(A z32/\∀ i:Nat,i<z14*g.w->(((((((True/\A z2/\A ((if i<g_1 then g.cel i z9 else z3)=if i<g' then g.cel i z9 else z3))/\A z2/\A ((if i<g_1 then g.cel i z18 else z3)=if i<g' then g.cel i z18 else z3))/\A z2/\A ((if i<g_1 then g.cel i z20 else z3)=if i<g' then g.cel i z20 else z3))/\A z2/\A ((if i<g_1 then g.cel i z21 else z3)=if i<g' then g.cel i z21 else z3))/\A z2/\A ((if i<g_1 then g.cel i z22 else z3)=if i<g' then g.cel i z22 else z3))/\A z2/\A ((if i<g_1 then g.cel i z23 else z3)=if i<g' then g.cel i z23 else z3))/\A z2/\A ((if i<g_1 then g.cel i z24 else z3)=if i<g' then g.cel i z24 else z3))/\A z2/\A ((if i<g_1 then g.cel i z25 else z3)=if i<g' then g.cel i z25 else z3))/\True)/\A ((piI g).meas g'<(piI g).meas g_1))) (True/\True/\(((A z5/\A (z6=(↑z6.toNat:Int)))/\(A z5/\A (z13=(↑(K z13):Int)))/\(A z32/\∀ i:Nat,i<z14*g.w->(((((((True/\A z2/\A ((if i<g_1 then g.cel i z9 else z3)=if i<g_1 then g.cel i z9 else z3))/\A z2/\A ((if i<g_1 then g.cel i z18 else z3)=if i<g_1 then g.cel i z18 else z3))/\A z2/\A ((if i<g_1 then g.cel i z20 else z3)=if i<g_1 then g.cel i z20 else z3))/\A z2/\A ((if i<g_1 then g.cel i z21 else z3)=if i<g_1 then g.cel i z21 else z3))/\A z2/\A ((if i<g_1 then g.cel i z22 else z3)=if i<g_1 then g.cel i z22 else z3))/\A z2/\A ((if i<g_1 then g.cel i z23 else z3)=if i<g_1 then g.cel i z23 else z3))/\A z2/\A ((if i<g_1 then g.cel i z24 else z3)=if i<g_1 then g.cel i z24 else z3))/\A z2/\A ((if i<g_1 then g.cel i z25 else z3)=if i<g_1 then g.cel i z25 else z3))/\True)/\A ((z18<=z6.toNat/\z6.toNat<=z14)/\(z18<=K z13/\K z13<=z14)/\z14*g.w=z14*z6.toNat*K z13))/\True/\True/\True/\True/\True/\True/\True/\True/\A ((bif z0.full then z9 else z0.n)=bif z30.full then z9 else z30.n)/\∀ i:Nat,(i<bif z30.full then z9 else z30.n)->((((((((True/\A (z15.m i=z7.m i)/\∀ i_1:Nat,i_1<z7.m i->((True/\A z5/\A ((z15.p i i_1).y=(z7.p i i_1).y))/\A z5/\A ((z15.p i i_1).x0=(z7.p i i_1).x0))/\A z5/\A ((z15.p i i_1).x1=(z7.p i i_1).x1))/\A z2/\A (z15.ink i z9=z7.ink i z9))/\A z2/\A (z15.ink i z18=z7.ink i z18))/\A z2/\A (z15.ink i z20=z7.ink i z20))/\A z2/\A (z15.ink i z21=z7.ink i z21))/\A z2/\A (z15.ink i z22=z7.ink i z22))/\A z2/\A (z15.ink i z23=z7.ink i z23))/\A z2/\A (z15.ink i z24=z7.ink i z24))/\A z2/\A (z15.ink i z25=z7.ink i z25))) (by kernel_rfl) ?_;simp only [chp];simp only [cln,ly,xb];obtain ⟨hw,hn⟩:=hg;have hc:=ak0 g.k 1 40 (by omega);obtain ⟨c,ec,hc1,hc2⟩:∃ c:Nat,cutI g.k 1 40=(c:Int)/\1<=c/\c<=40:=⟨(cutI g.k 1 40).toNat,by omega,by omega,by omega⟩
 refine ⟨by omega,by omega,by omega,⟨0,lE _,⟨by omega,rfl⟩,by omega,fun i _=>eight (a:=fun _=>0) (b:=fun j=>if i<0 then g.cel i j else 0) (fun j _=>rfl)⟩,fun a ha=>?_⟩;replace ha:a<=256*g.w:=ha
 refine ⟨fun hlt=>⟨fun hpos=>?_,fun hz=>⟨by omega,a+1,(by show a+1<=256*g.w; omega),⟨by omega,fun i _=>?_⟩,(by show 256*g.w-(a+1)<256*g.w-a; omega)⟩⟩,fun hge=>?_⟩
 ·have e1:(a:Int).tdiv (cutI g.k 1 40)=((a / c:Nat):Int):=by rw [ec]; exact (Int.ofNat_tdiv a c).symm
  have e2:(a:Int).tdiv (16*(g.w:Int))=((a / (16*g.w):Nat):Int):=by rw [show (16:Int)*(g.w:Int)=((16*g.w:Nat):Int) by omega]; exact (Int.ofNat_tdiv a _).symm
  have e3:((a / (16*g.w):Nat):Int).tdiv 3=((a / (16*g.w) / 3:Nat):Int):=(Int.ofNat_tdiv _ 3).symm;have e4:(((a / c:Nat):Int)+((a / (16*g.w) / 3:Nat):Int)).tmod (g.n:Int)=(((a / c+a / (16*g.w) / 3) % g.n:Nat):Int):=by rw [<-Int.natCast_add]; exact (Int.ofNat_tmod _ _).symm
  have b1:a / c<=a:=Nat.div_le_self _ _;have b2:a / (16*g.w)<=a:=Nat.div_le_self _ _;have b3:a / (16*g.w) / 3<=a / (16*g.w):=Nat.div_le_self _ _;have b4:(a / c+a / (16*g.w) / 3) % g.n<g.n:=xP _ (by omega);have en:(a / c+a / (16*g.w) / 3) % g.n=g.at' a:=by unfold PiG.at'; rw [ec]; rfl
  rw [e1,e2,e3,e4];generalize a / c=q1 at *
  generalize a / (16*g.w)=q2 at *
  generalize q2 / 3=q3 at *
  generalize (q1+q3) % g.n=q4 at *
  refine ⟨⟨by omega,by omega⟩,by omega,⟨by omega,by omega⟩,⟨by omega,by omega⟩,by omega,by omega,by omega,by omega,by omega,by omega,by omega,by omega,by omega,a+1,(by show a+1<=256*g.w; omega),⟨by omega,fun i _=>?_⟩,(by show 256*g.w-(a+1)<256*g.w-a; omega)⟩;rw [ly,en];by_cases hi:i=a
  ·subst hi;have h:=eight (a:=fun j=>if j<3 then g.f (g.at' i) j else 0) (b:=fun j=>if i<i+1 then g.cel i j else 0) (fun j hj=>by
    show (if j<3 then g.f (g.at' i) j else 0)=if i<i+1 then g.cel i j else 0
    rw [ln (xF i)];unfold PiG.cel;rw [ln (show 0<g.n by omega)];unfold three;match j,hj with
    | 0,_=>rfl
    | 1,_=>rfl
    | 2,_=>rfl
    | 3,_=>rfl
    | 4,_=>rfl
    | 5,_=>rfl
    | 6,_=>rfl
    | 7,_=>rfl)
   simpa using h
  ·have e:∀ j,(if i<a then g.cel i j else 0)=if i<a+1 then g.cel i j else 0:=fun j=>by
    by_cases h:i<a
    ·rw [ln h,ln (by omega)]
    ·rw [lr h,lr (by omega)]
   have:=eight (a:=fun j=>if i<a then g.cel i j else 0) (b:=fun j=>if i<a+1 then g.cel i j else 0) (fun j _=>e j)
   simpa [hi] using this
 ·refine eight (a:=fun j=>if i<a then g.cel i j else 0) (b:=fun j=>if i<a+1 then g.cel i j else 0) (fun j _=>?_);show (if i<a then g.cel i j else 0)=if i<a+1 then g.cel i j else 0
  unfold PiG.cel;rw [lr (show ¬ 0<g.n by omega)];show (if i<a then (0:Int) else 0)=if i<a+1 then (0:Int) else 0
  rw [ite_self,ite_self]
 ·have ea:a=256*g.w:=by omega
  subst ea;rw [show (⟨g.w,Int.toNat 1,256*g.w,fun i j=>if i<256*g.w then g.cel i j else 0⟩:OfG)=g.of from rfl];refine ⟨⟨rfl,⟨hw.1,by omega⟩,by decide,(ud _).symm⟩,?_⟩;simp
end Pcs
namespace Eqp
open Go.RowKit Sx Num Aff Con Rga Rgl Rgm Rgn Rgc Gat Gar
set_option maxRecDepth 100000
structure I8 where
 a0:Int
 a1:Int
 a2:Int
 a3:Int
 a4:Int
 a5:Int
 a6:Int
 a7:Int
structure PcG where
 m:Nat
 p:Nat->Rn
 v:I8
def pcX (g:PcG):Nat->SV:=lst [.sl g.m 3 (fun k=>lst (rnL (g.p k))),.int .u8 g.v.a0,.int .u8 g.v.a1,.int .u8 g.v.a2,.int .u8 g.v.a3,.int .u8 g.v.a4,.int .u8 g.v.a5,.int .u8 g.v.a6,.int .u8 g.v.a7]
def bR4:FSpec:=ac8 16 (γ:=PcG) (fun | [.agg _ x,_]=>some ⟨aG6 (x 0),rgD (x 0),⟨Sx.intOf (x 1),Sx.intOf (x 2),Sx.intOf (x 3),Sx.intOf (x 4),Sx.intOf (x 5),Sx.intOf (x 6),Sx.intOf (x 7),Sx.intOf (x 8)⟩⟩ | _=>none) (fun g=>[.agg 9 (pcX g),.agg 9 (pcX g)]) (fun g=>vld (Rg.L ⟨g.m,g.p⟩)) (fun _=> .bool true)
theorem b16:aa9 Tw.prog bR4:=by
 refine ab0 (specs:=[Rgc.b92]) (ac7 ⟨cc7,trivial⟩) (eqs:=eqI) (all_eq bc5) Aff.mixed Tw.func16 rfl (by kernel_rfl) (fun _ _=>by kernel_rfl) (fun g=>A0) (fun g=>li (by kernel_rfl)) ?_;rintro g hg;refine af7 (B:=let A:=Sx.Ask;let z1:=(IntKind.i64=IntKind.i64);let q1:=fun p:Int=>A z1/\A (p=p);let z0:=(A (g.m=g.m)/\∀ i:Nat,i<g.m->((True/\q1 ((g.p i).y))/\q1 ((g.p i).x0))/\q1 ((g.p i).x1));True/\True/\True/\True/\True/\True/\True/\True/\True/\Br (decide (g.v.a0=g.v.a0)&&(decide (g.v.a1=g.v.a1)&&(decide (g.v.a2=g.v.a2)&&(decide (g.v.a3=g.v.a3)&&(decide (g.v.a4=g.v.a4)&&(decide (g.v.a5=g.v.a5)&&(decide (g.v.a6=g.v.a6)&&(decide (g.v.a7=g.v.a7)&&true)))))))) (True/\True/\True/\True/\((z0/\z0/\True)/\A (EqG.mk (Rg.mk g.m g.p) (Rg.mk g.m g.p)).ok)/\True/\True/\True/\A (true=true)) (True/\True/\True/\A (false=true))) (by kernel_rfl) ?_;simp only [cln,ly,xb];exact ⟨fun _=>⟨hg,rfl⟩,fun hc=>by simp at hc⟩
def eqfI (P:Gar.Pcs):Inv:=⟨Nat,fun i=>i<=P.n,fun i=>⟨[(0,pcS P),(1,pcS P),(2,.fn 16 0 (fun _=> .any)),(15,pcS P),(16,.int .i64 P.n),(17,.int .i64 i)],[]⟩,fun i=>P.n-i⟩
def b93:FSpec:=ac8 15 (γ:=Gar.Pcs) (fun | [p,_,_]=>some (pcD p) | _=>none) (fun P=>[pcS P,pcS P,.fn 16 0 (fun _=> .any)]) (fun P=>P.n<=4294967296/\∀ k,k<P.n->vld (Rg.L ⟨P.m k,P.p k⟩)) (fun _=> .bool true)
theorem cc8:aa9 Tw.prog b93:=by
 refine ab0 (specs:=[bR4]) (ac7 (⟨b16,trivial⟩)) (eqs:=[]) (fun _ _ h=>(lx h).elim) Aff.mixed Tw.func15 rfl (by kernel_rfl) (fun _ _=>by kernel_rfl) (fun g=>(⟨[(4,.inv (eqfI g))],[]⟩:Ann)) (fun g=>li (by kernel_rfl)) ?_;rintro g hg;refine af7 (B:=let T6:=fun p:Prop=>True/\True/\True/\True/\True/\True/\p;let A:=Sx.Ask;let z7:=(A ((16:Go.FuncId)=(16:Go.FuncId))/\True);let z5:=(↑g.n:Int);let z4:=(IntKind.i64=IntKind.i64);let q4:=fun p:Int=>A z4/\A (p=p);let z2:=(IntKind.u8=IntKind.u8);let q2:=fun p:Int=>A z2/\A (p=p);let z0:=(A (g.n=g.n)/\∀ i:Nat,i<g.n->(chp (True/\A (g.m i=g.m i)/\∀ i_1:Nat,let z8:=(g.p i i_1); i_1<g.m i->((True/\q4 z8.y)/\q4 z8.x0)/\q4 z8.x1) (fun j:Nat=>q2 (g.ink i j)) 7)/\q2 (g.ink i (7:Nat)));T6 (Br (decide (z5≠z5)) (True/\True/\A (false=true)) (True/\True/\True/\(∃ g_1:Nat,A ((eqfI g).pre g_1)/\(z0/\z0/\z7/\z0/\(q4 z5)/\(A z4/\A ((0:Int)=(↑g_1:Int)))/\True)/\True)/\∀ g_1:Nat,let z3:=(↑g_1:Int);let z1:=(chp (True/\A (g.m z3.toNat=g.m z3.toNat)/\∀ i:Nat,let z6:=(g.p z3.toNat i); i<g.m z3.toNat->((True/\q4 z6.y)/\q4 z6.x0)/\q4 z6.x1) (fun j:Nat=>q2 (g.ink z3.toNat j)) 8); (eqfI g).pre g_1->True/\Br (decide (z3<z5)) (True/\A ((0:Int)<=z3/\z3<z5)/\T6 (A ((0:Int)<=z3/\z3<z5)/\T6 (((z1/\z1/\True)/\A (vld (Rg.mk (g.m z3.toNat) (g.p z3.toNat)).L))/\True/\A ((-9223372036854775808:Int)<=z3+(1:Int)/\z3+(1:Int)<=(9223372036854775807:Int))/\True/\∃ (g':Nat),A ((eqfI g).pre g')/\((z0/\z0/\z7/\z0/\(q4 z5)/\(A z4/\A (z3+(1:Int)=(↑g':Int)))/\True)/\True)/\A ((eqfI g).meas g'<(eqfI g).meas g_1)))) (True/\True/\A (true=true))))) (by kernel_rfl) ?_;simp only [chp];simp only [cln,ly,xb];obtain ⟨hn,hv⟩:=hg;refine ⟨fun hc=>absurd trivial hc,fun _=>⟨⟨0,lE _,rfl⟩,fun k hk hlt=>?_⟩⟩;have hk:k<=g.n:=hk;exact ⟨⟨by omega,by omega⟩,⟨by omega,by omega⟩,hv k (by omega),⟨by omega,by omega⟩,k+1,by show k+1<=g.n; omega,by omega,by show g.n-(k+1)<g.n-k; omega⟩
end Eqp
namespace Ftp
open Go.RowKit Sx Num Aff Con Rga Gat Gar
theorem aT5 {f f':Nat->Vec}{len x:Nat}(h:∀ k,k<len->f k=f' k) (hx:x<len):∀ n to,brkG f len x n to=brkG f' len x n to
 | 0,_=>rfl
 | n+1,to=>by
  unfold brkG;by_cases ht:to<len
  ·rw [h to ht,h x hx,aT5 h hx n (to+1)]
  ·rw [lr (fun hc=>ht hc.1),lr (fun hc=>ht hc.1)]
theorem bH6 {f f':Nat->Vec}{len x:Nat}(h:∀ k,k<len->f k=f' k) (hx:x<len):brk f len x=brk f' len x:=aT5 h hx _ _
theorem aS0 {f f':Nat->Vec}{y:Int}{len:Nat}(h:∀ k,k<len->f k=f' k):∀ n x G,rowG f y len n x G=rowG f' y len n x G
 | 0,_,_=>rfl
 | n+1,x,G=>by
  rw [as2,as2];by_cases hx:x<len
  ·rw [ln hx,ln hx,bH6 h hx,h x hx];exact aS0 h n _ _
  ·rw [lr hx,lr hx]
theorem br4 {f f':Nat->Vec}{y:Int}{len:Nat}(h:∀ k,k<len->f k=f' k) (G:Gt):rowA G y len f=rowA G y len f':=by
 rw [bl0];exact aS0 h _ _ _
theorem a88 {f f':Nat->Vec}{W:Nat}:∀ y,(∀ i,i<y*W->f i=f' i)->ofR f W y=ofR f' W y
 | 0,_=>rfl
 | y+1,h=>by
  show rowA (ofR f W y) y W (fun x=>f (y*W+x))=rowA (ofR f' W y) y W (fun x=>f' (y*W+x));have e:(y+1)*W=y*W+W:=uS y W;rw [a88 y fun i hi=>h i (by omega)];exact br4 (fun k hk=>h _ (by omega)) _
end Ftp
namespace Cof
open Go.RowKit Sx Num Aff Con Rga Rgl Rgm Rgn Gat Gar Ows Apl Apt Cel Ofl Ftp
set_option maxRecDepth 100000
theorem ce_ok {g:ChG}(h:g.Ok):(⟨g.w,g.h,g.P⟩:CeG).Ok where
 w:=h.w
 h:=h.h
 n:=h.P.n
 m k hk:=by
  have hl:=aU2 (h.P.v k hk);have e:(Pcs.L g.P k).length=g.P.m k:=av7 _ _;rw [e] at hl;show g.P.m k<=_;omega
 r k r hk hr:=by
  have h1:=h.r k r hk hr;have h2:=((h.P.v k hk).1 _ (aE0 hr)).2;exact ⟨h1.1,⟨h1.2.1,h2⟩,h1.2.2⟩
theorem b36 {W y R x a b:Nat}(hx:x<W) (hb:b<=W):(R*W+a<=y*W+x/\y*W+x<R*W+b)<->(R=y/\a<=x/\x<b):=by
 constructor
 ·rintro ⟨h1,h2⟩;rcases xB R y with h | h | h
  ·have:=lj W h
   rw [uS] at this;omega
  ·subst h; omega
  ·have:=lj W h
   rw [uS] at this;omega
 ·rintro ⟨rfl,h1,h2⟩; omega
def ix (w:Nat) (y x:Int):Nat:=y.toNat*(16*w)+x.toNat
theorem b08 {w:Nat}{c:Nat->Vec}{r:Rn}{v:Vec}{y x:Int}(hy:0<=y) (hx:0<=x/\x<16*w) (hr:0<=r.y/\0<=r.x0/\r.x1<=16*w):putR w c r v (ix w y x)=if inR r y x=true then v else c (ix w y x):=by
 unfold putR put rwAt ix;have h:=b36 (W:=16*w) (y:=y.toNat) (R:=r.y.toNat) (x:=x.toNat) (a:=r.x0.toNat) (b:=r.x1.toNat) (by omega) (by omega);by_cases hin:inR r y x=true
 ·rw [ln hin,lk (h.2 (by rw [ah4] at hin; omega))];rfl
 ·rw [lr hin,lm (fun hc=>hin (by rw [ah4]; have:=h.1 hc; omega))];rfl
theorem bV5 {g:ChG}(hg:g.Ok) {c:Nat->Vec}{k:Nat}(hk:k<g.P.n) {y x:Int}(hy:0<=y) (hx:0<=x/\x<16*g.w):∀ j,j<=g.P.m k->ceR ⟨g.w,g.h,g.P⟩ c k j (ix g.w y x)=if mem (Lf (g.P.p k) j) y x=true then g.P.ink k else c (ix g.w y x)
 | 0,_=>rfl
 | j+1,hj=>by
  have hr:=hg.r k j hk hj;show putR g.w (ceR ⟨g.w,g.h,g.P⟩ c k j) (g.P.p k j) (g.P.ink k) (ix g.w y x)=_;rw [b08 hy hx ⟨hr.1.1,hr.2.1,hr.2.2⟩,bV5 hg hk hy hx j (by omega),a11,aX6,aC2];cases hm:mem (Lf (g.P.p k) j) y x<;>cases hi:inR (g.P.p k j) y x<;>rfl
theorem bV6 {g:ChG}(hg:g.Ok) {y x:Int}(hy:0<=y) (hx:0<=x/\x<16*g.w):∀ n,n<=g.P.n->(∀ k,k<n->mem (Pcs.L g.P k) y x=true->ceP ⟨g.w,g.h,g.P⟩ n (ix g.w y x)=g.P.ink k)/\((∀ k,k<n->¬ mem (Pcs.L g.P k) y x=true)->ceP ⟨g.w,g.h,g.P⟩ n (ix g.w y x)=fun _=>0)
 | 0,_=>⟨fun k hk=>absurd hk (lw _),fun _=>rfl⟩
 | n+1,hn=>by
  obtain ⟨h1,h2⟩:=bV6 hg hy hx n (by omega);have e:ceP ⟨g.w,g.h,g.P⟩ (n+1) (ix g.w y x)=if mem (Pcs.L g.P n) y x=true then g.P.ink n else ceP ⟨g.w,g.h,g.P⟩ n (ix g.w y x):=bV5 hg (by omega) hy hx (g.P.m n) (lf _)
  rw [e];refine ⟨fun k hk hm=>?_,fun hno=>?_⟩
  ·by_cases hkn:k=n
   ·subst hkn; rw [ln hm]
   ·rw [lr (fun hc=>hg.P.disj k n (by omega) (by omega) y x hm hc)];exact h1 k (by omega) hm
  ·rw [lr (hno n (by omega))];exact h2 fun k hk=>hno k (by omega)
theorem cf9 {g:OfG}{P:Pcs}(h:OfOK g P) {y x:Int}(hin:(0<=y/\y<16*(g.h:Int))/\0<=x/\x<16*(g.w:Int)):kOf (ceB ⟨g.w,g.h,P⟩ (ix g.w y x))=kOf (g.f (ix g.w y x)):=by
 obtain ⟨h1,h2⟩:=bV6 h.c hin.1.1 hin.2 P.n (lf _);show kOf (ceP ⟨g.w,g.h,P⟩ P.n (ix g.w y x))=ck g.f (16*g.w) y x;by_cases hz:ck g.f (16*g.w) y x=nul
 ·rw [h2 fun k hk hm=>?_,hz]
  ·rfl
  ·have:=((h.m k hk y x).1 hm).2
   exact h.c.nz k hk (this.symm.trans hz)
 ·obtain ⟨k,hk,he⟩:=h.cov y x hin hz;rw [h1 k hk ((h.m k hk y x).2 ⟨hin,he.symm⟩),he]
theorem bC9 {g g':OfG}(hw:g.w=g'.w) (hh:g.h=g'.h) (h:∀ i,i<16*g.h*(16*g.w)->g.f i=g'.f i):ofA g=ofA g':=by
 obtain ⟨w,hh0,n,f⟩:=g;obtain ⟨w',h',n',f'⟩:=g';simp only at hw hh h
 subst hw;subst hh;rw [of_eq];exact a88 _ h
def hi0 (v:Vec):Prop:=∀ j,8<=j->v j=0
theorem bU9 {g:CeG}{c:Nat->Vec}{k:Nat}(hk:hi0 (g.P.ink k)) (hc:∀ i,hi0 (c i)):∀ j i,hi0 (ceR g c k j i)
 | 0,i=>hc i
 | j+1,i=>by
  show hi0 (putR g.w (ceR g c k j) (g.P.p k j) (g.P.ink k) i);unfold putR put;cases decide (rwAt g.w (g.P.p k j)+(g.P.p k j).x0.toNat<=i/\i<rwAt g.w (g.P.p k j)+(g.P.p k j).x1.toNat)
  ·exact bU9 hk hc j i
  ·exact hk
theorem bV0 {g:CeG}(hP:∀ k,k<g.P.n->hi0 (g.P.ink k)):∀ n,n<=g.P.n->∀ i,hi0 (ceP g n i)
 | 0,_,_=>fun _ _=>rfl
 | n+1,hn,i=>bU9 (hP n (by omega)) (bV0 hP n (by omega)) _ i
theorem aX9 {u v:Vec}(h:kOf u=kOf v) {j:Nat}(hj:j<8):u j=v j:=by
 unfold kOf at h;simp only [List.cons.injEq,and_true] at h;obtain ⟨e0,e1,e2,e3,e4,e5,e6,e7⟩:=h;match j,hj with
 | 0,_=>exact e0
 | 1,_=>exact e1
 | 2,_=>exact e2
 | 3,_=>exact e3
 | 4,_=>exact e4
 | 5,_=>exact e5
 | 6,_=>exact e6
 | 7,_=>exact e7
theorem ix_of {w i:Nat}(hw:1<=w):ix w ((i / (16*w):Nat):Int) ((i % (16*w):Nat):Int)=i:=by
 unfold ix;rw [ly,ly,uk];exact Nat.div_add_mod i _
theorem cg0 {g:OfG}{P:Pcs}(h:OfOK g P) (hf:∀ i,hi0 (g.f i)) {i:Nat}(hi:i<256*g.w*g.h):ceB ⟨g.w,g.h,P⟩ i=g.f i:=by
 have hw:=h.c.w;have hw:1<=g.w:=hw.1;have hy:i / (16*g.w)<16*g.h:=by
  rw [Nat.div_lt_iff_lt_mul (by omega)];have:16*g.h*(16*g.w)=256*g.w*g.h:=by grind
  omega
 have hx:i % (16*g.w)<16*g.w:=xP _ (by omega);have key:∀ a b:Nat,a<16*g.h->b<16*g.w->kOf (ceB ⟨g.w,g.h,P⟩ (ix g.w (a:Int) (b:Int)))=kOf (g.f (ix g.w (a:Int) (b:Int))):=fun a b ha hb=>cf9 h ⟨by omega,by omega⟩
 have h1:=key _ _ hy hx;rw [ix_of hw] at h1;funext j;by_cases hj:j<8
 ·exact aX9 h1 hj
 ·have hP:∀ k,k<P.n->hi0 (P.ink k):=fun k hk=>by
   obtain ⟨a,e⟩:=h.from' k hk;rw [e]; exact hf a
  rw [hf i j (by omega)];exact bV0 (g:=⟨g.w,g.h,P⟩) hP _ (lf _) i j (by omega)
end Cof
namespace Trq
open Go.RowKit Sx Num Aff Con Rga Rgl Rgm Rgn Gat Gar Ows Apl Apt Cel Ofl Ftp Cof Wid Trp Tsp Tpn Tco Ttr Rin
set_option maxRecDepth 100000
structure Tk (og:OfG) (m:Nat) (o:Nat->Nat) (r:Nat):Prop where
 wB:1<=og.w/\og.w<=2
 hB:1<=og.h/\og.h<=2
 fB:∀ i j,j<8->0<=og.f i j
 mL:m<=8
 oL:∀ k,k<m->o k<8
 dO:∀ i j,i<j->j<m->o i≠o j
 cO:∀ i j,j<8->og.f i j≠0->∃ k,k<m/\o k=j
 rL:r<=64
def tk (og:OfG) (P:Pcs) (m:Nat) (o:Nat->Nat) (r:Nat):TrG:=⟨og.w,og.h,P,m,o,r⟩
theorem bU0 {g:CeG}{c:Nat->Vec}{k j:Nat}(hk:0<=g.P.ink k j) (hc:∀ i,0<=c i j):∀ a i,0<=ceR g c k a i j
 | 0,i=>hc i
 | a+1,i=>by
  show 0<=putR g.w (ceR g c k a) (g.P.p k a) (g.P.ink k) i j;unfold putR put;cases decide (rwAt g.w (g.P.p k a)+(g.P.p k a).x0.toNat<=i/\i<rwAt g.w (g.P.p k a)+(g.P.p k a).x1.toNat)
  ·exact bU0 hk hc a i
  ·exact hk
theorem bU1 {g:CeG}{j:Nat}(hP:∀ k,k<g.P.n->0<=g.P.ink k j):∀ n,n<=g.P.n->∀ i,0<=ceP g n i j
 | 0,_,_=>xC _
 | n+1,hn,i=>bU0 (hP n (by omega)) (bU1 hP n (by omega)) _ i
section
variable {og:OfG}{P:Pcs}{m:Nat}{o:Nat->Nat}{r:Nat}
theorem small (h:Tk og m o r):256*og.w*og.h<=1024:=uX (show 256*og.w<=512 by have:=h.wB; omega) h.hB.2
theorem tk_of (h:Tk og m o r):OfOK og (Gt.P (ofA og)):=b23 ⟨h.wB.1,by have:=h.wB.2; omega⟩ ⟨h.hB.1,by have:=h.hB.2; omega⟩ (by have:=small h; omega)
theorem b79 (h:Tk og m o r) (ho:OfOK og P) (i:Nat) {j:Nat}(hj:j<8):0<=(tk og P m o r).c i j:=bU1 (g:=⟨og.w,og.h,P⟩) (fun k hk=>by
 obtain ⟨a,e⟩:=ho.from' k hk;rw [show P.ink k j=og.f a j from congrFun e j];exact h.fB a j hj) _ (lf _) i
theorem bp9 (h:Tk og m o r) (ho:OfOK og P):(tk og P m o r).Ok:=by
 have hw:=h.wB;have hh:=h.hB;refine ⟨⟨hw.1,?_⟩,⟨hh.1,?_⟩,ce_ok ho.c,h.mL,⟨?_,?_⟩,⟨?_,?_⟩,h.oL,?_,fun i j _ hj=>b79 h ho i hj⟩
 ·show og.w<=256; omega
 ·show og.h<=256; omega
 ·show 1<=16*og.w; omega
 ·show 16*og.w<=4096; omega
 ·show 1<=16*og.h; omega
 ·show 16*og.h<=4096; omega
 ·show r<=_; have:=h.rL; omega
theorem bK0 (h:Tk og m o r) (ho:OfOK og P):(tk og P m o r).ck.Ok:=by
 refine ⟨ho.c,⟨ho.c.P.n,h.mL,h.oL,h.dO,fun k j hk hj hne=>?_⟩,h.rL⟩;obtain ⟨i,e⟩:=ho.from' k hk;rw [show (tk og P m o r).ck.c.P.ink k j=og.f i j from congrFun e j] at hne;exact h.cO i j hj hne
theorem aU9 {i:Nat}(hi:i<(tk og P m o r).N):(tk og P m o r).of.f i=tcF ((tk og P m o r).c i) ((tk og P m o r).W i) m o m:=by
 funext j;show (bif decide (i<(tk og P m o r).N) then (tk og P m o r).t i j else _)=_;rw [lk hi];rfl
theorem aJ4 (h:Tk og m o r) (ho:OfOK og P):OfOK (tk og P m o r).of (Gt.P (ofA (tk og P m o r).of)):=b23 (bp9 h ho).w (bp9 h ho).h (by have:=small h; show 256*og.w*og.h<=_; omega)
theorem bL2 {g:SpG}(hr:g.r=0) (hw:1<=g.w) {j:Nat}(hj:j<g.w*g.h) (hc:∀ i,0<=g.c i g.ink):spr g j=g.c j g.ink:=by
 obtain ⟨a,b,hb,rfl⟩:=bu8 hw j;have ha:=bG7 hj;unfold spr;rw [aA9 hb,aG1 hb];unfold bf6;rw [hr,bj2 (f:=fun y=>Tsp.ak9 g y b) ha (bj3 _ _ _ _)];unfold Tsp.ak9;rw [hr,bj2 hb (hc _)]
theorem bL3 {g g':SpG}(hw:g.w=g'.w) (hh:g.h=g'.h) (hc:g.c=g'.c) (hi:g.ink=g'.ink) (hr:g.r<=g'.r) (j:Nat):spr g j<=spr g' j:=by
 obtain ⟨w,h,c,ink,r⟩:=g;obtain ⟨w',h',c',ink',r'⟩:=g';simp only at hw hh hc hi hr
 subst hw hh hc hi;exact aH1 hr fun y _=>aH1 hr fun x _=>xC _
theorem bx1 {v:Vec}{W:Nat->Int}{m:Nat}{o:Nat->Nat}(h:∀ k,k<m->W k=v (o k)):∀ s,s<=m->tcF v W m o s=v
 | 0,_=>rfl
 | s+1,hs=>by
  funext j;rw [ar5];split
  ·rename_i hc;rw [h _ (by omega),hc.2]
  ·exact congrFun (bx1 h s (by omega)) j
theorem bx2 {v:Vec}{W W':Nat->Int}{m:Nat}{o:Nat->Nat}(h:∀ k,W k<=W' k) (j:Nat):∀ s,tcF v W m o s j<=tcF v W' m o s j
 | 0=>xC _
 | s+1=>by
  rw [ar5,ar5];split
  ·exact h _
  ·exact bx2 h j s
theorem bX8 (h:Tk og m o 0) (ho:OfOK og P) (hz:∀ i,hi0 (og.f i)):ofA (tk og P m o 0).of=ofA og:=by
 refine bC9 rfl rfl fun i hi=>?_
 have hi:i<16*og.h*(16*og.w):=hi;have e:16*og.h*(16*og.w)=256*og.w*og.h:=by grind
 have hN:i<(tk og P m o 0).N:=by show i<256*og.w*og.h; omega
 have ec:(tk og P m o 0).c i=og.f i:=cg0 ho hz hN;rw [aU9 hN,ec];refine bx1 (fun k hk=>?_) m (lf _);have e2:16*og.w*(16*og.h)=256*og.w*og.h:=by grind
 have hw:=h.wB;have:=bL2 (g:=(tk og P m o 0).pl.sp k) (j:=i) rfl (by show 1<=16*og.w; omega) (by show i<16*og.w*(16*og.h); omega) (fun a=>b79 h ho a (h.oL k hk))
 show spr _ i=_;rw [this];show (tk og P m o 0).c i (o k)=_;rw [ec]
theorem bX9 {s:Nat}(hr:r<=s) {i:Nat}(hi:i<(tk og P m o r).N) (j:Nat):(tk og P m o r).of.f i j<=(tk og P m o s).of.f i j:=by
 rw [aU9 hi,aU9 (r:=s) hi];refine bx2 (fun k=>?_) j m;exact bL3 (g:=(tk og P m o r).pl.sp k) (g':=(tk og P m o s).pl.sp k) rfl rfl rfl rfl hr i
end
theorem pEq {P Q:Pcs}(h:P=Q):P.n=Q.n/\∀ i,i<Q.n->((((((((P.m i=Q.m i/\∀ a,a<Q.m i->((P.p i a).y=(Q.p i a).y/\(P.p i a).x0=(Q.p i a).x0)/\(P.p i a).x1=(Q.p i a).x1)/\P.ink i 0=Q.ink i 0)/\P.ink i 1=Q.ink i 1)/\P.ink i 2=Q.ink i 2)/\P.ink i 3=Q.ink i 3)/\P.ink i 4=Q.ink i 4)/\P.ink i 5=Q.ink i 5)/\P.ink i 6=Q.ink i 6)/\P.ink i 7=Q.ink i 7:=by
 subst h;exact ⟨rfl,fun _ _=>⟨⟨⟨⟨⟨⟨⟨⟨⟨rfl,fun _ _=>⟨⟨rfl,rfl⟩,rfl⟩⟩,rfl⟩,rfl⟩,rfl⟩,rfl⟩,rfl⟩,rfl⟩,rfl⟩,rfl⟩⟩
theorem bW1 {P:Pcs}{y x:Int}:∀ f k,(∀ i,k<=i->i<k+f->¬ mem (Pcs.L P i) y x=true)->atF P y x f k=fun _=>0
 | 0,_,_=>rfl
 | f+1,k,h=>by
  show (if _ then _ else _)=_;rw [lr (h k (lf _) (by omega))];exact bW1 f (k+1) fun i h1 h2=>h i (by omega) (by omega)
theorem bo4 {P:Pcs}{y x:Int}:∀ f k,(∃ i,(k<=i/\i<k+f)/\mem (Pcs.L P i) y x=true)->∃ i,(k<=i/\i<k+f)/\mem (Pcs.L P i) y x=true/\atF P y x f k=P.ink i
 | 0,k,⟨i,h,_⟩=>by omega
 | f+1,k,⟨i,h1,h2⟩=>by
  by_cases hk:mem (Pcs.L P k) y x=true
  ·exact ⟨k,⟨lf _,by omega⟩,hk,ln hk⟩
  ·have hik:i≠k:=fun e=>hk (e▸h2)
   obtain ⟨a,h3,h4,h5⟩:=bo4 f (k+1) ⟨i,⟨by omega,by omega⟩,h2⟩;exact ⟨a,⟨by omega,by omega⟩,h4,by rw [<-h5]; exact lr hk⟩
theorem at_of {g:OfG}{P:Pcs}(h:OfOK g P) {x y:Nat}(hy:y<16*g.h) (hx:x<16*g.w) {j:Nat}(hj:j<8):AtG.v ⟨g.w,g.h,P,x,y⟩ j=g.f (ix g.w y x) j:=by
 have hin:((0:Int)<=y/\(y:Int)<16*(g.h:Int))/\(0:Int)<=x/\(x:Int)<16*(g.w:Int):=by omega
 have hck:ck g.f (16*g.w) y x=kOf (g.f (ix g.w y x)):=rfl;have e:kOf (AtG.v ⟨g.w,g.h,P,x,y⟩)=kOf (g.f (ix g.w y x)):=by
  by_cases hs:∃ i,(0<=i/\i<0+P.n)/\mem (Pcs.L P i) y x=true
  ·obtain ⟨i,h1,h2,h3⟩:=bo4 P.n 0 hs;have h4:=((h.m i (by omega) y x).1 h2).2;show kOf (atF P y x P.n 0)=_;rw [h3,<-h4];exact hck
  ·have hno:∀ i,0<=i->i<0+P.n->¬ mem (Pcs.L P i) y x=true:=fun i h1 h2 hc=>hs ⟨i,⟨h1,h2⟩,hc⟩
   show kOf (atF P y x P.n 0)=_;rw [bW1 P.n 0 hno,<-hck];by_cases hz:ck g.f (16*g.w) y x=nul
   ·rw [hz]; rfl
   ·obtain ⟨k,hk,he⟩:=h.cov y x hin hz;exact absurd ((h.m k hk y x).2 ⟨hin,he.symm⟩) (hno k (lE _) (by omega))
 exact aX9 e hj
end Trq
namespace Trt
open Go.RowKit Sx Num Aff Con Rga Rgl Rgm Rgn Rgd Gat Gar Ows Apl Apt Cel Ofl Ftp Cof Wid Trp Tsp Tpn Tco Ttr Rin Trq
set_option maxRecDepth 100000
theorem bl4 (g:ReG) (y x:Int):mem (Lf g.f g.n) y x=decide ((g.y0<=y/\y<g.y1)/\g.x0<=x/\x<g.x1):=by
 rw [Bool.eq_iff_iff,mem_iff,lM];constructor
 ·rintro ⟨r,hr,h1,h2,h3⟩;obtain ⟨k,hk,rfl⟩:=xq.1 hr;have hk:=lP.1 hk;have hk:k<(g.y1-g.y0).toNat:=hk;have h1:g.y0+k=y:=h1;have h2:g.x0<=x:=h2;have h3:x<g.x1:=h3;omega
 ·rintro ⟨⟨h1,h2⟩,h3,h4⟩;refine ⟨g.f (y-g.y0).toNat,xq.2 ⟨_,lP.2 (show (y-g.y0).toNat<(g.y1-g.y0).toNat by omega),rfl⟩,show g.y0+((y-g.y0).toNat:Int)=y by omega,h3,h4⟩
theorem bl3 {g:ReG}(h:g.ok) (h2:g.y1<=8192):vld (Lf g.f g.n):=by
 obtain ⟨⟨a1,a2⟩,⟨b1,b2⟩,⟨c1,c2⟩,⟨d1,d2⟩,hx,hy⟩:=h;have go:∀ m,m<=g.n->vld (Lf g.f m):=by
  intro m;induction m with
  | zero=>intro _; exact be4
  | succ m ih=>
   intro hm;have hm:m+1<=(g.y1-g.y0).toNat:=hm;rw [a11,ay0];refine ⟨ih (by show m<=(g.y1-g.y0).toNat; omega),⟨⟨⟨by show -8192<=g.y0+m; omega,by show g.y0+(m:Int)<8192; omega⟩,⟨a1,a2⟩,c1,c2⟩,hx⟩,fun s hs=>?_⟩;obtain ⟨k,hk,rfl⟩:=xq.1 hs;have hk:=lP.1 hk;exact .inl (by show g.y0+(k:Int)<g.y0+m; omega)
 exact go _ (lf _)
def v8 (a b c d e f g h:Int) (j:Nat):Int:=match j with
 | 0=>a
 | 1=>b
 | 2=>c
 | 3=>d
 | 4=>e
 | 5=>f
 | 6=>g
 | 7=>h
 | _=>0
def lrc:ReG:=⟨0,0,8,16⟩
def rrc:ReG:=⟨8,0,16,16⟩
theorem bU2:lrc.ok:=⟨by decide,by decide,by decide,by decide,by decide,by decide⟩
theorem bS5:rrc.ok:=⟨by decide,by decide,by decide,by decide,by decide,by decide⟩
def vL:Vec:=v8 255 0 0 0 0 0 0 0
def vR:Vec:=v8 0 200 0 0 0 0 0 0
def o01 (k:Nat):Nat:=(bif decide (k=1) then (1:Int) else 0).toNat
structure Two (P:Pcs):Prop where
 n:P.n=2
 m0:P.m 0=16
 m1:P.m 1=16
 p0:∀ r,r<16->P.p 0 r=lrc.f r
 p1:∀ r,r<16->P.p 1 r=rrc.f r
 k0:P.ink 0=vL
 k1:P.ink 1=vR
def og2:OfG:=⟨1,1,256,fun i=>if i % 16<8 then vL else vR⟩
theorem Two.L0 {P:Pcs}(h:Two P):Pcs.L P 0=Lf lrc.f lrc.n:=by
 show Lf (P.p 0) (P.m 0)=_;rw [h.m0];exact bp0 h.p0
theorem Two.L1 {P:Pcs}(h:Two P):Pcs.L P 1=Lf rrc.f rrc.n:=by
 show Lf (P.p 1) (P.m 1)=_;rw [h.m1];exact bp0 h.p1
theorem Two.mem0 {P:Pcs}(h:Two P) (y x:Int):mem (Pcs.L P 0) y x=true<->(0<=y/\y<16)/\0<=x/\x<8:=by
 rw [h.L0,bl4,lM];exact uI
theorem Two.mem1 {P:Pcs}(h:Two P) (y x:Int):mem (Pcs.L P 1) y x=true<->(0<=y/\y<16)/\8<=x/\x<16:=by
 rw [h.L1,bl4,lM];exact uI
theorem bs4 {y x:Int}(hy:0<=y) (hx:0<=x/\x<16):og2.f (ix 1 y x)=if x<8 then vL else vR:=by
 have e:ix 1 y x % 16=x.toNat:=by unfold ix; omega
 show (if ix 1 y x % 16<8 then vL else vR)=_;rw [e];by_cases hc:x<8
 ·rw [ln (by omega),ln hc]
 ·rw [lr (by omega),lr hc]
theorem Two.of {P:Pcs}(h:Two P):OfOK og2 P:=by
 have h0:=b23 (g:=og2) ⟨lf _,by show 1<=256; decide⟩ ⟨lf _,by show 1<=256; decide⟩ (by show 256*1*1<=4096; decide);have hn:=h.n;have k01:∀ k,k<P.n->k=0\/k=1:=fun k hk=>by omega
 have hm:∀ k,k<P.n->P.m k=16:=fun k hk=>(k01 k hk).elim (fun e=>e▸h.m0) fun e=>e▸h.m1
 refine ⟨h0.n,⟨⟨lf _,by show 1<=256; decide⟩,⟨lf _,by show 1<=256; decide⟩,⟨by rw [hn]; decide,?_,fun k hk=>?_,fun k hk=>?_,fun i j hij hj=>?_,fun i j hij hj y x hi' hj'=>?_,fun k hk=>?_⟩,fun k hk=>?_,fun k r hk hr=>?_⟩,fun k hk=>?_,fun k hk y x=>?_,fun y x hin hz=>?_⟩
 ·rw [hn];show (([]++alr P 0 (P.m 0))++alr P 1 (P.m 1)).length<=_;rw [uK,lB,an9,an9,h.m0,h.m1]; decide
 ·rcases k01 k hk with rfl | rfl
  ·rw [h.L0]; exact bl3 bU2 (by decide)
  ·rw [h.L1]; exact bl3 bS5 (by decide)
 ·rw [hm k hk]; decide
 ·have hj:j<P.n:=hj;obtain ⟨rfl,rfl⟩:i=0/\j=1:=by omega
  rw [h.k0,h.k1]; decide
 ·have hj:j<P.n:=hj;obtain ⟨rfl,rfl⟩:i=0/\j=1:=by omega
  have h1:=(h.mem0 y x).1 hi';have h2:=(h.mem1 y x).1 hj';omega
 ·have hk:k+1<P.n:=hk;obtain rfl:k=0:=by omega
  show (P.p 0 0).y<(P.p 1 0).y\/((P.p 0 0).y=(P.p 1 0).y/\(P.p 0 0).x0<=(P.p 1 0).x0);rw [h.p0 0 (by decide),h.p1 0 (by decide)];exact .inr ⟨rfl,by decide⟩
 ·rcases k01 k hk with rfl | rfl
  ·show kOf (P.ink 0)≠nul;rw [h.k0]; decide
  ·show kOf (P.ink 1)≠nul;rw [h.k1]; decide
 ·have hk:k<P.n:=hk;have hr:r<P.m k:=hr;have hr16:r<16:=by rw [hm k hk] at hr; exact hr
  show (0<=(P.p k r).y/\(P.p k r).y<16*((1:Nat):Int))/\0<=(P.p k r).x0/\(P.p k r).x1<=16*((1:Nat):Int);rcases k01 k hk with rfl | rfl
  ·rw [h.p0 r hr16];show (0<=(0:Int)+r/\(0:Int)+r<16*((1:Nat):Int))/\0<=(0:Int)/\(8:Int)<=16*((1:Nat):Int);omega
  ·rw [h.p1 r hr16];show (0<=(0:Int)+r/\(0:Int)+r<16*((1:Nat):Int))/\0<=(8:Int)/\(16:Int)<=16*((1:Nat):Int);omega
 ·rcases k01 k hk with rfl | rfl
  ·exact ⟨0,h.k0⟩
  ·exact ⟨8,h.k1⟩
 ·show _<->((0<=y/\y<16*((1:Nat):Int))/\0<=x/\x<16*((1:Nat):Int))/\kOf (og2.f (ix 1 y x))=_;rcases k01 k hk with rfl | rfl
  ·rw [h.mem0,h.k0];constructor
   ·intro hc;exact ⟨by omega,by rw [bs4 (by omega) (by omega),ln (by omega)]⟩
   ·rintro ⟨hin,he⟩;rw [bs4 (by omega) (by omega)] at he;by_cases hc:x<8
    ·omega
    ·rw [lr hc] at he;exact absurd he (by decide)
  ·rw [h.mem1,h.k1];constructor
   ·intro hc;exact ⟨by omega,by rw [bs4 (by omega) (by omega),lr (by omega)]⟩
   ·rintro ⟨hin,he⟩;rw [bs4 (by omega) (by omega)] at he;by_cases hc:x<8
    ·rw [ln hc] at he;exact absurd he (by decide)
    ·omega
 ·have hin:(0<=y/\y<16*((1:Nat):Int))/\0<=x/\x<16*((1:Nat):Int):=hin;have e:ck og2.f (16*og2.w) y x=kOf (if x<8 then vL else vR):=congrArg kOf (bs4 (by omega) (by omega));rw [e];by_cases hc:x<8
  ·rw [ln hc];exact ⟨0,by omega,by rw [h.k0]⟩
  ·rw [lr hc];exact ⟨1,by omega,by rw [h.k1]⟩
theorem bm5:Tk og2 2 o01 2:=by
 refine ⟨⟨lf 1,uO 1⟩,⟨lf 1,uO 1⟩,fun i j hj=>?_,by decide,fun k hk=>?_,fun i j hij hj=>?_,fun i j hj hne=>?_,by decide⟩
 ·show 0<=(if i % 16<8 then vL else vR) j;split
  ·match j,hj with
   | 0,_ | 1,_ | 2,_ | 3,_ | 4,_ | 5,_ | 6,_ | 7,_=>decide
  ·match j,hj with
   | 0,_ | 1,_ | 2,_ | 3,_ | 4,_ | 5,_ | 6,_ | 7,_=>decide
 ·match k,hk with
  | 0,_ | 1,_=>decide
 ·obtain ⟨rfl,rfl⟩:i=0/\j=1:=by omega
  decide
 ·have hne:(if i % 16<8 then vL else vR) j≠0:=hne;match j,hj with
  | 0,_=>exact ⟨0,by decide,rfl⟩
  | 1,_=>exact ⟨1,by decide,rfl⟩
  | 2,_ | 3,_ | 4,_ | 5,_ | 6,_ | 7,_=>split at hne<;>exact absurd rfl hne
theorem tc2 (v:Vec) (W:Nat->Int) (j:Nat):tcF v W 2 o01 2 j=if (v 0=0/\v 1≠0)/\j=0 then W 0 else v j:=by
 have e0:o01 (2-1-1)=0:=rfl;have e1:o01 (2-1-0)=1:=rfl;rw [ar5,ar5,e0,e1,bi3,e1];show (if (v 0=0/\(false||decide (v 1≠0))=true)/\j=0 then W 0 else if (v 1=0/\false=true)/\j=1 then W 1 else v j)=_;rw [lr (fun hc:(v 1=0/\false=true)/\j=1=>by cases hc.1.2)];simp only [Bool.false_or,lM]
theorem bv7 {f:Nat->Int}{n r i:Nat}{K:Int}(hK:0<=K) (hi:i<n) (h:∀ j,j<n->f j=K):wid f n r i=K:=
 uy (aR1 hK fun j _ _ hj=>Int.le_of_eq (h j hj)) (by rw [<-h i hi]; exact a13 (by omega) (by omega) hi)
section
variable {P:Pcs}(h:Two P)
include h
theorem Two.c {y x:Nat}(hy:y<16) (hx:x<16):kOf ((tk og2 P 2 o01 2).c (y*16+x))=kOf (if x<8 then vL else vR):=by
 have h1:=cf9 h.of (y:=y) (x:=x) (by show ((0:Int)<=y/\(y:Int)<16*((1:Nat):Int))/\(0:Int)<=x/\(x:Int)<16*((1:Nat):Int); omega);have e:ix og2.w y x=y*16+x:=rfl;have e2:=bs4 (y:=y) (x:=x) (by omega) (by omega);have e3:ix 1 (y:Int) (x:Int)=y*16+x:=rfl;rw [e3] at e2;rw [e,e2] at h1;refine h1.trans ?_;by_cases hc:x<8
 ·rw [ln (by omega),ln hc]
 ·rw [lr (by omega),lr hc]
theorem Two.row {y x:Nat}(hy:y<16) (hx:8<=x/\x<16):Tsp.ak9 ((tk og2 P 2 o01 2).pl.sp 0) y x=if x<10 then 255 else 0:=by
 have hc:∀ j,j<16->(tk og2 P 2 o01 2).c (y*16+j) 0=if j<8 then 255 else 0:=fun j hj=>by
  rw [aX9 (h.c hy hj) (show 0<8 by decide)];by_cases hc:j<8
  ·rw [ln hc,ln hc]; rfl
  ·rw [lr hc,lr hc]; rfl
 show wid (fun j=>(tk og2 P 2 o01 2).c (y*16+j) 0) 16 2 x=_;by_cases h10:x<10
 ·rw [ln h10];refine uy (bW8 (by decide) fun j hj=>?_) ?_
  ·show (tk og2 P 2 o01 2).c (y*16+j) 0<=255;rw [hc j hj]; split<;>decide
  ·have:=a13 (f:=fun j=>(tk og2 P 2 o01 2).c (y*16+j) 0) (n:=16) (r:=2) (i:=x) (j:=7) (by omega) (by omega) (by omega)
   refine Int.le_trans ?_ this;show 255<=(tk og2 P 2 o01 2).c (y*16+7) 0;rw [hc 7 (by decide)]; decide
 ·rw [lr h10];refine uy (aR1 (by decide) fun j h1 h2 hj=>?_) (bj3 _ _ _ _);show (tk og2 P 2 o01 2).c (y*16+j) 0<=0;rw [hc j hj,lr (by omega)];decide
theorem Two.W {y x:Nat}(hy:y<16) (hx:8<=x/\x<16):(tk og2 P 2 o01 2).W (y*16+x) 0=if x<10 then 255 else 0:=by
 show spr ((tk og2 P 2 o01 2).pl.sp 0) (y*16+x)=_;unfold spr;have ew:((tk og2 P 2 o01 2).pl.sp 0).w=16:=rfl;rw [ew,aA9 (by omega),aG1 (by omega)];exact bv7 (by split<;>decide) hy fun a ha=>h.row ha hx
theorem Two.f {y x:Nat}(hy:y<16) (hx:x<16):kOf ((tk og2 P 2 o01 2).of.f (y*16+x))=if x<8 then [255,0,0,0,0,0,0,0] else if x<10 then [255,200,0,0,0,0,0,0] else [0,200,0,0,0,0,0,0]:=by
 have hN:y*16+x<(tk og2 P 2 o01 2).N:=by show y*16+x<256*1*1; omega
 rw [aU9 hN];have hc:=h.c hy hx;have hv:=fun j (hj:j<8)=>aX9 hc hj
 have et:∀ j,tcF ((tk og2 P 2 o01 2).c (y*16+x)) ((tk og2 P 2 o01 2).W (y*16+x)) 2 o01 2 j=_:=fun j=>tc2 _ _ j
 have v0:=hv 0 (by decide);have v1:=hv 1 (by decide);by_cases h8:x<8
 ·rw [ln h8] at hc v0 v1 ⊢;have:kOf (tcF ((tk og2 P 2 o01 2).c (y*16+x)) ((tk og2 P 2 o01 2).W (y*16+x)) 2 o01 2)=kOf ((tk og2 P 2 o01 2).c (y*16+x)):=congrArg kOf (funext fun j=>by
   rw [et,lr fun hc=>by rw [v0] at hc; exact absurd hc.1.1 (by decide)])
  rw [this,hc];rfl
 ·rw [lr h8] at hc v0 v1 ⊢;have hW:=h.W hy (show 8<=x/\x<16 by omega);have e0:∀ j,j≠0->tcF ((tk og2 P 2 o01 2).c (y*16+x)) ((tk og2 P 2 o01 2).W (y*16+x)) 2 o01 2 j=(tk og2 P 2 o01 2).c (y*16+x) j:=fun j hj=>by rw [et,lr fun hc=>hj hc.2]
  have e1:tcF ((tk og2 P 2 o01 2).c (y*16+x)) ((tk og2 P 2 o01 2).W (y*16+x)) 2 o01 2 0=if x<10 then 255 else 0:=by rw [et,ln ⟨⟨v0,by rw [v1]; decide⟩,rfl⟩,hW]
  have e2:kOf (tcF ((tk og2 P 2 o01 2).c (y*16+x)) ((tk og2 P 2 o01 2).W (y*16+x)) 2 o01 2)=[if x<10 then 255 else 0,200,0,0,0,0,0,0]:=by
   unfold kOf;rw [e1,e0 1 (by decide),e0 2 (by decide),e0 3 (by decide),e0 4 (by decide),e0 5 (by decide),e0 6 (by decide),e0 7 (by decide),hv 1 (by decide),hv 2 (by decide),hv 3 (by decide),hv 4 (by decide),hv 5 (by decide),hv 6 (by decide),hv 7 (by decide),lr h8];rfl
  rw [e2];split<;>rfl
theorem Two.three:(Gt.P (ofA (tk og2 P 2 o01 2).of)).n=3/\kOf ((Gt.P (ofA (tk og2 P 2 o01 2).of)).ink 1)=[255,200,0,0,0,0,0,0]:=by
 have H:=aJ4 bm5 h.of;generalize Gt.P (ofA (tk og2 P 2 o01 2).of)=Q at H;have fE:∀ y x:Int,((0<=y/\y<16)/\0<=x/\x<16)->ck (tk og2 P 2 o01 2).of.f (16*(tk og2 P 2 o01 2).of.w) y x=if x<8 then [255,0,0,0,0,0,0,0] else if x<10 then [255,200,0,0,0,0,0,0] else [0,200,0,0,0,0,0,0]:=fun y x hin=>by
  have e:=h.f (y:=y.toNat) (x:=x.toNat) (by omega) (by omega);show kOf ((tk og2 P 2 o01 2).of.f (y.toNat*16+x.toNat))=_;rw [e];by_cases h8:x<8
  ·rw [ln h8,ln (by omega)]
  ·rw [lr h8,lr (by omega)];by_cases h10:x<10
   ·rw [ln h10,ln (by omega)]
   ·rw [lr h10,lr (by omega)]
 have inE:∀ y x:Int,((0<=y/\y<16*(((tk og2 P 2 o01 2).of.h:Nat):Int))/\0<=x/\x<16*(((tk og2 P 2 o01 2).of.w:Nat):Int))<->((0<=y/\y<16)/\0<=x/\x<16):=fun y x=>by
  show ((0<=y/\y<16*((1:Nat):Int))/\0<=x/\x<16*((1:Nat):Int))<->_;omega
 obtain ⟨a,ha,ea⟩:=H.cov 0 0 ((inE 0 0).2 (by omega)) (by rw [fE 0 0 (by omega)]; decide);obtain ⟨b,hb,eb⟩:=H.cov 0 8 ((inE 0 8).2 (by omega)) (by rw [fE 0 8 (by omega)]; decide);obtain ⟨c,hc,ec⟩:=H.cov 0 10 ((inE 0 10).2 (by omega)) (by rw [fE 0 10 (by omega)]; decide);have ma:=(H.m a ha 0 0).2 ⟨(inE 0 0).2 (by omega),ea.symm⟩;have mb:=(H.m b hb 0 8).2 ⟨(inE 0 8).2 (by omega),eb.symm⟩;have mc:=(H.m c hc 0 10).2 ⟨(inE 0 10).2 (by omega),ec.symm⟩;rw [fE 0 0 (by omega),ln (by decide)] at ea;rw [fE 0 8 (by omega),lr (by decide),ln (by decide)] at eb;rw [fE 0 10 (by omega),lr (by decide),lr (by decide)] at ec;have inj:∀ i j,i<Q.n->j<Q.n->kOf (Q.ink i)=kOf (Q.ink j)->i=j:=fun i j hi hj he=>by
  rcases xB i j with hl | hl | hl
  ·exact absurd he (H.c.P.dist i j hl hj)
  ·exact hl
  ·exact absurd he.symm (H.c.P.dist j i hl hi)
 have first:∀ k,k<Q.n->∀ x0:Int,mem (Pcs.L Q k) 0 x0=true->(∀ y x,mem (Pcs.L Q k) y x=true->x0<=x)->(Q.p k 0).y=0/\(Q.p k 0).x0=x0:=fun k hk x0 hm hall=>by
  have ne:=H.c.P.ne k hk;have hv:=H.c.P.v k hk;have hr:=(H.c.r k 0 hk ne).1.1;have ne:0<Q.m k:=ne;have e:Pcs.L Q k=Q.p k 0::Lf (fun i=>Q.p k (i+1)) (Q.m k-1):=by
   show (List.range (Q.m k)).map (Q.p k)=_::(List.range (Q.m k-1)).map _;obtain ⟨m,hm⟩:∃ m,Q.m k=m+1:=⟨Q.m k-1,by omega⟩
   rw [hm,List.range_succ_eq_map,xH,List.map_map];rfl
  rw [e] at hv hm hall;have h1:=az7 hv;have h2:=aC8 hv hm;have h3:=hall _ _ h1;have hr:0<=(Q.p k 0).y:=hr;omega
 have fa:=first a ha 0 ma fun y x hm=>by have:=(inE y x).1 ((H.m a ha y x).1 hm).1; omega
 have fb:=first b hb 8 mb fun y x hm=>by
  obtain ⟨h1,h2⟩:=(H.m b hb y x).1 hm;have h1:=(inE y x).1 h1;rw [fE y x h1,eb] at h2;by_cases h8:x<8
  ·rw [ln h8] at h2; exact absurd h2 (by decide)
  ·omega
 have fc:=first c hc 10 mc fun y x hm=>by
  obtain ⟨h1,h2⟩:=(H.m c hc y x).1 hm;have h1:=(inE y x).1 h1;rw [fE y x h1,ec] at h2;by_cases h8:x<8
  ·rw [ln h8] at h2; exact absurd h2 (by decide)
  ·rw [lr h8] at h2;by_cases h10:x<10
   ·rw [ln h10] at h2; exact absurd h2 (by decide)
   ·omega
 have all:∀ k,k<Q.n->k=a\/k=b\/k=c:=fun k hk=>by
  have ne:=H.c.P.ne k hk;have hr:=aE0 (P:=Q) ne;have okr:=((H.c.P.v k hk).1 _ hr).2;obtain ⟨h1,h2⟩:=(H.m k hk _ _).1 ((mem_iff _ _ _).2 ⟨_,hr,rfl,xC _,okr⟩);have h1:=(inE _ _).1 h1;rw [fE _ _ h1] at h2;split at h2
  ·exact .inl (inj k a hk ha (h2.symm.trans ea.symm))
  ·split at h2
   ·exact .inr (.inl (inj k b hk hb (h2.symm.trans eb.symm)))
   ·exact .inr (.inr (inj k c hk hc (h2.symm.trans ec.symm)))
 have key:∀ i j,i<j->j<Q.n->(Q.p i 0).y<(Q.p j 0).y\/((Q.p i 0).y=(Q.p j 0).y/\(Q.p i 0).x0<=(Q.p j 0).x0):=fun i j hij hj=>by
  induction j with
  | zero=>omega
  | succ j ih=>
   have h1:=H.c.P.ord j hj;by_cases hji:i=j
   ·subst hji; exact h1
   ·have h2:=ih (by omega) (by have hj:j+1<Q.n:=hj; show j<Q.n; omega);have h1:(Q.p j 0).y<(Q.p (j+1) 0).y\/((Q.p j 0).y=(Q.p (j+1) 0).y/\(Q.p j 0).x0<=(Q.p (j+1) 0).x0):=h1;omega
 have ab:a<b:=by
  rcases xB a b with hl | hl | hl
  ·exact hl
  ·subst hl; omega
  ·have:=key b a hl ha; omega
 have bc:b<c:=by
  rcases xB b c with hl | hl | hl
  ·exact hl
  ·subst hl; omega
  ·have:=key c b hl hb; omega
 have h0:=all 0 (by omega);have h1:=all 1 (by omega);have h2:=all 2 (by omega);obtain ⟨rfl,rfl,rfl⟩:a=0/\b=1/\c=2:=by omega
 refine ⟨?_,eb⟩;rcases xX 3 Q.n with hlt | hge
 ·have:=all 3 hlt; omega
 ·omega
end
end Trt
namespace Trd
open Go.RowKit Sx Num Aff Con Rga Rgl Rgm Rgn Rgc Rgd Gat Gar Ows Apl Apt Cel Ofl Ftp Cof Wid Trp Tsp Tpn Tco Ttr Rin Trq Trt
set_option maxRecDepth 100000
def b88:FSpec:=ac8 13 (γ:=Unit) (fun | []=>some () | _=>none) (fun _=>[]) (fun _=>True) (fun _=> .bool true)
structure PA where
 n:Nat
 p:Nat->Rn
 m:Nat
 q:Nat->Rn
def pc8D (s:SV):Pcs:=match s with
 | .sl n _ f=>⟨n,fun i=>aG6 (f i 0),fun i=>rgD (f i 0),fun i=>v8 (Sx.intOf (f i 1)) (Sx.intOf (f i 2)) (Sx.intOf (f i 3)) (Sx.intOf (f i 4)) (Sx.intOf (f i 5)) (Sx.intOf (f i 6)) (Sx.intOf (f i 7)) (Sx.intOf (f i 8))⟩
 | _=>⟨0,fun _=>0,fun _ _=>⟨0,0,0⟩,fun _ _=>0⟩
noncomputable def bz8:FSpec:=bX4 (fun | [.int _ w,.int _ h,s,.sl m _ o,.int _ r]=>some ⟨w.toNat,h.toNat,pc8D s,m,fun k=>(Sx.intOf (o k 0)).toNat,r.toNat⟩ | _=>none)
theorem bM5:aa9 Tw.prog bz8:=bm3 _
def td3:Inv:=⟨PA,fun s=>(s.n=(Lf lrc.f lrc.n).length/\s.p=rI (Lf lrc.f lrc.n))/\s.m=(Lf rrc.f rrc.n).length/\s.q=rI (Lf rrc.f rrc.n),fun s=>⟨[(1,rgS ⟨s.n,s.p⟩),(3,rgS ⟨s.m,s.q⟩)],[]⟩,fun _=>0⟩
def td4:Inv:=⟨Pcs,fun Q=>Q.n=3/\kOf (Q.ink 1)=[255,200,0,0,0,0,0,0],fun Q=>⟨[(5,pcS Q),(6,.int .i64 0)],[]⟩,fun _=>0⟩
def twoP (s:PA):Gar.Pcs:=Gar.Pcs.mk 2 (fun i=>bif decide (i=1) then s.m else s.n) (fun i j=>Rn.mk (bif decide (i=1) then (s.q j).y else (s.p j).y) (bif decide (i=1) then (s.q j).x0 else (s.p j).x0) (bif decide (i=1) then (s.q j).x1 else (s.p j).x1))
 (fun i=>v8 (bif decide (i=1) then 0 else 255) (bif decide (i=1) then 200 else 0) (bif decide (i=1) then 0 else 0) (bif decide (i=1) then 0 else 0) (bif decide (i=1) then 0 else 0) (bif decide (i=1) then 0 else 0) (bif decide (i=1) then 0 else 0) (bif decide (i=1) then 0 else 0))
theorem b76 {s:PA}(h:td3.pre s):Two (twoP s):=by
 obtain ⟨⟨h1,h2⟩,h3,h4⟩:(s.n=(Lf lrc.f lrc.n).length/\s.p=rI (Lf lrc.f lrc.n))/\s.m=(Lf rrc.f rrc.n).length/\s.q=rI (Lf rrc.f rrc.n):=h;refine ⟨rfl,?_,?_,fun r hr=>?_,fun r hr=>?_,rfl,rfl⟩
 ·show s.n=16;rw [h1,av7]; rfl
 ·show s.m=16;rw [h3,av7]; rfl
 ·show s.p r=_;rw [h2];exact be0 lrc.f (show r<lrc.n from hr)
 ·show s.q r=_;rw [h4];exact be0 rrc.f (show r<rrc.n from hr)
theorem cc0:aa9 Tw.prog b88:=by
 refine ab0 (specs:=[bR5,bz8]) (ac7 ⟨b17,bM5,trivial⟩) (eqs:=eqI) (all_eq bc5) Aff.mixed Tw.func13 rfl (by kernel_rfl) (fun _ _=>by kernel_rfl) (fun g=>(⟨[(3,.cut td3),(4,.cut td4)],[]⟩:Ann)) (fun g=>li (by kernel_rfl)) ?_;rintro _ _;refine af7 (B:=let T5:=fun p:Prop=>True/\True/\True/\True/\True/\p;let T8:=fun p:Prop=>True/\True/\True/\True/\True/\True/\True/\True/\p;let A:=Sx.Ask;let z26:=(Int.toNat (2:Int));let z17:=(2:Nat);let z11:=(1:Nat);let z10:=(Int.toNat (1:Int));let z8:=(IntKind.u8=IntKind.u8);let z4:=(0:Int);let z16:=(fun (k:Nat)=>(bif decide (k=z11) then (1:Int) else z4).toNat);let z9:=(ReG.mk z4 z4 (8:Int) (16:Int));let z7:=(ReG.mk (8:Int) z4 (16:Int) (16:Int));let z3:=(IntKind.i64=IntKind.i64);let q3:=fun p:Int=>A z3/\A (p=p);let z25:=(q3 ((8:Int)));let z23:=(A z3/\A ((1:Int)=(↑z10:Int)));let z20:=(q3 z4);let z15:=(q3 ((16:Int)));True/\((z20/\z20/\z25/\z15/\True)/\A z9.ok)/\T5 ((((z25/\z20/\z15/\z15/\True)/\A z7.ok)/\T5 (∃ g:PA,A (td3.pre g)/\((A ((Lf z9.f z9.n).length=g.n)/\∀ i:Nat,let z21:=(Rga.rI (Lf z9.f z9.n) i); i<g.n->((True/\A z3/\A (z21.y=(g.p i).y))/\A z3/\A (z21.x0=(g.p i).x0))/\A z3/\A (z21.x1=(g.p i).x1))/\(A ((Lf z7.f z7.n).length=g.m)/\∀ i:Nat,let z22:=(Rga.rI (Lf z7.f z7.n) i); i<g.m->((True/\A z3/\A (z22.y=(g.q i).y))/\A z3/\A (z22.x0=(g.q i).x0))/\A z3/\A (z22.x1=(g.q i).x1))/\True)/\True))/\∀ g:PA,let z19:=(fun (i:Nat)=>bif decide (i=z11) then g.m else g.n);let z0:=(TrG.mk z10 z10 (Gar.Pcs.mk z17 z19 (fun (i i_1:Nat)=>Rn.mk (bif decide (i=z11) then (g.q i_1).y else (g.p i_1).y) (bif decide (i=z11) then (g.q i_1).x0 else (g.p i_1).x0) (bif decide (i=z11) then (g.q i_1).x1 else (g.p i_1).x1)) fun (i:Nat)=>let z13:=(bif decide (i=z11) then z4 else z4); Trt.v8 (bif decide (i=z11) then z4 else (255:Int)) (bif decide (i=z11) then (200:Int) else z4) z13 z13 z13 z13 z13 z13) z17 z16 z26);let z27:=(ofA z0.of);let z12:=(Gar.Gt.P z27); td3.pre g->(T8 (((z23/\z23/\(A (z17=z17)/\∀ i:Nat,let z18:=(i=z11);let z6:=(bif decide z18 then (200:Int) else z4);let z5:=(bif decide z18 then z4 else (255:Int));let z1:=(bif decide z18 then z4 else z4); i<z17->((((((((True/\A ((bif decide z18 then g.m else g.n)=bif decide z18 then g.m else g.n)/\∀ i_1:Nat,(i_1<bif decide z18 then g.m else g.n)->((True/\A z3/\A ((bif decide z18 then (g.q i_1).y else (g.p i_1).y)=bif decide z18 then (g.q i_1).y else (g.p i_1).y))/\A z3/\A ((bif decide z18 then (g.q i_1).x0 else (g.p i_1).x0)=bif decide z18 then (g.q i_1).x0 else (g.p i_1).x0))/\A z3/\A ((bif decide z18 then (g.q i_1).x1 else (g.p i_1).x1)=bif decide z18 then (g.q i_1).x1 else (g.p i_1).x1))/\A z8/\A (z5=Trt.v8 z5 z6 z1 z1 z1 z1 z1 z1 (0:Nat)))/\A z8/\A (z6=Trt.v8 z5 z6 z1 z1 z1 z1 z1 z1 z11))/\A z8/\A (z1=Trt.v8 z5 z6 z1 z1 z1 z1 z1 z1 z17))/\A z8/\A (z1=Trt.v8 z5 z6 z1 z1 z1 z1 z1 z1 (3:Nat)))/\A z8/\A (z1=Trt.v8 z5 z6 z1 z1 z1 z1 z1 z1 (4:Nat)))/\A z8/\A (z1=Trt.v8 z5 z6 z1 z1 z1 z1 z1 z1 (5:Nat)))/\A z8/\A (z1=Trt.v8 z5 z6 z1 z1 z1 z1 z1 z1 (6:Nat)))/\A z8/\A (z1=Trt.v8 z5 z6 z1 z1 z1 z1 z1 z1 (7:Nat)))/\(A (z17=z17)/\∀ i:Nat,let z24:=(bif decide (i=z11) then (1:Int) else z4); i<z17->True/\A z3/\A (z24=(↑z24.toNat:Int)))/\(A z3/\A ((2:Int)=(↑z26:Int)))/\True)/\A (z0.Ok/\z0.ck.Ok))/\T5 (∃ g_1:Gar.Pcs,A (td4.pre g_1)/\((A ((bif z27.full then (0:Nat) else z27.n)=g_1.n)/\∀ i:Nat,i<g_1.n->((((((((True/\A (z12.m i=g_1.m i)/\∀ i_1:Nat,let z2:=((Gar.Gt.P (ofA (TrG.mk z10 z10 (Gar.Pcs.mk z17 z19 (fun (i i_2:Nat)=>Rn.mk (bif decide (i=z11) then (g.q i_2).y else (g.p i_2).y) (bif decide (i=z11) then (g.q i_2).x0 else (g.p i_2).x0) (bif decide (i=z11) then (g.q i_2).x1 else (g.p i_2).x1)) fun (i:Nat)=>let z14:=(bif decide (i=z11) then z4 else z4); Trt.v8 (bif decide (i=z11) then z4 else (255:Int)) (bif decide (i=z11) then (200:Int) else z4) z14 z14 z14 z14 z14 z14) z17 z16 z26).of)).p i i_1); i_1<g_1.m i->((True/\A z3/\A (z2.y=(g_1.p i i_1).y))/\A z3/\A (z2.x0=(g_1.p i i_1).x0))/\A z3/\A (z2.x1=(g_1.p i i_1).x1))/\A z8/\A (z12.ink i (0:Nat)=g_1.ink i (0:Nat)))/\A z8/\A (z12.ink i z11=g_1.ink i z11))/\A z8/\A (z12.ink i z17=g_1.ink i z17))/\A z8/\A (z12.ink i (3:Nat)=g_1.ink i (3:Nat)))/\A z8/\A (z12.ink i (4:Nat)=g_1.ink i (4:Nat)))/\A z8/\A (z12.ink i (5:Nat)=g_1.ink i (5:Nat)))/\A z8/\A (z12.ink i (6:Nat)=g_1.ink i (6:Nat)))/\A z8/\A (z12.ink i (7:Nat)=g_1.ink i (7:Nat)))/\(A z3/\A ((bif z27.full then (2:Int) else z4)=z4))/\True)/\True)))/\∀ g:Gar.Pcs,td4.pre g->T8 (Br (decide ((↑g.n:Int)=(3:Int))) (True/\A (z4<=(1:Int)/\(1:Int)<(↑g.n:Int))/\T5 (True/\True/\A ((decide (g.ink z10 (0:Nat)=(255:Int))&&(decide (g.ink z10 z11=(200:Int))&&(decide (g.ink z10 z17=z4)&&(decide (g.ink z10 (3:Nat)=z4)&&(decide (g.ink z10 (4:Nat)=z4)&&(decide (g.ink z10 (5:Nat)=z4)&&(decide (g.ink z10 (6:Nat)=z4)&&(decide (g.ink z10 (7:Nat)=z4)&&true))))))))=true))) (True/\True/\True/\A (false=true))))) (by kernel_rfl) ?_;simp only [cln,ly,xb,xm];refine ⟨bU2,⟨bS5,⟨⟨_,rI (Lf lrc.f lrc.n),_,rI (Lf rrc.f rrc.n)⟩,⟨⟨rfl,rfl⟩,rfl,rfl⟩,⟨rfl,fun _ _=>⟨⟨rfl,rfl⟩,rfl⟩⟩,rfl,fun _ _=>⟨⟨rfl,rfl⟩,rfl⟩⟩⟩,fun s hs=>?_⟩;have h2:=b76 hs;have h3:=h2.three;have hT:=aJ4 bm5 h2.of;refine ⟨⟨⟨⟨rfl,rfl,fun i _=>⟨⟨⟨⟨⟨⟨⟨rfl,rfl⟩,rfl⟩,rfl⟩,rfl⟩,rfl⟩,rfl⟩,rfl⟩,fun i hi=>?_,rfl⟩,bp9 bm5 h2.of,bK0 bm5 h2.of⟩,Gt.P (ofA (tk og2 (twoP s) 2 o01 2).of),h3,pEq (P:=Gt.P (ofA (tk og2 (twoP s) 2 o01 2).of)) rfl,?_⟩,fun Q hQ=>⟨fun hn=>⟨by omega,?_⟩,fun hn=>?_⟩⟩
 ·match i,hi with
  | 0,_=>rfl
  | 1,_=>rfl
 ·show (bif (ofA (tk og2 (twoP s) 2 o01 2).of).full then (2:Int) else 0)=0;rw [hT.n]; rfl
 ·obtain ⟨_,hk⟩:Q.n=3/\kOf (Q.ink 1)=[255,200,0,0,0,0,0,0]:=hQ;unfold kOf at hk;simp only [List.cons.injEq,and_true] at hk;obtain ⟨e0,e1,e2,e3,e4,e5,e6,e7⟩:=hk;show (decide (Q.ink 1 0=255)&&(decide (Q.ink 1 1=200)&&(decide (Q.ink 1 2=0)&&(decide (Q.ink 1 3=0)&&(decide (Q.ink 1 4=0)&&(decide (Q.ink 1 5=0)&&(decide (Q.ink 1 6=0)&&(decide (Q.ink 1 7=0)&&true))))))))=true;rw [e0,e1,e2,e3,e4,e5,e6,e7];rfl
 ·obtain ⟨h,_⟩:Q.n=3/\kOf (Q.ink 1)=[255,200,0,0,0,0,0,0]:=hQ;omega
end Trd
namespace Trl
open Go.RowKit Sx Num Aff Con Rga Rgl Rgm Rgn Rgc Gat Gar Ows Apl Apt Cel Ofl Ftp Cof Wid Trp Tsp Tpn Tco Ttr Rin Pcs Eqp Trq Trd
set_option maxRecDepth 100000
structure LwG where
 w:Int
 n:Nat
 f:Nat->Vec
 k:Int
 a:Int
 b:Int
 x:Int
 y:Int
structure LwG.Ok (g:LwG):Prop where
 n:g.n<=17592186044416
 v:∀ i j,i<g.n->j<8->0<=g.f i j/\g.f i j<=255
noncomputable def spLaw:FSpec:=ac8 4 (γ:=LwG) (fun | [.int _ w,s,.int _ k,.int _ a,.int _ b,.int _ x,.int _ y]=>some ⟨w,aG6 s,bP5 s,k,a,b,x,y⟩ | _=>none)
 (fun g=>[.int .i64 g.w,bd1 g.n g.f,.int .i64 g.k,.int .i64 g.a,.int .i64 g.b,.int .i64 g.x,.int .i64 g.y]) LwG.Ok (fun _=> .bool true)
def LwG.W (g:LwG):Nat:=(cutI g.w 1 2).toNat
def LwG.ra (g:LwG):Nat:=(cutI g.a 0 6).toNat
def LwG.rb (g:LwG):Nat:=(cutI g.b g.ra 8).toNat
def LwG.X (g:LwG):Nat:=(cutI g.x 0 (16*g.W-1)).toNat
def LwG.Y (g:LwG):Nat:=(cutI g.y 0 15).toNat
def LwG.pg (g:LwG):PiG:=⟨g.W,g.n,g.f,g.k⟩
noncomputable def LwG.P (g:LwG):Pcs:=Gt.P (ofA g.pg.of)
def o3 (k:Nat):Nat:=bif decide (k=2) then 1 else bif decide (k=1) then 0 else 2
noncomputable def LwG.td (g:LwG) (r:Nat):TrG:=tk g.pg.of g.P 3 o3 r
noncomputable def LwG.Q (g:LwG) (r:Nat):Pcs:=Gt.P (ofA (g.td r).of)
noncomputable def LwG.c (g:LwG) (r:Nat):Vec:=(g.td r).of.f (ix g.W g.Y g.X)
def lwT0 (g:LwG):List (Nat×SV):=[(0,.int .i64 g.W),(3,.int .i64 g.ra),(5,.int .i64 g.x),(6,.int .i64 g.y)]
def i5 (g:LwG):Inv:=⟨Pcs,fun P=>P=g.P,fun P=>⟨[(0,.int .i64 g.W),(3,.int .i64 g.a),(4,.int .i64 g.b),(5,.int .i64 g.x),(6,.int .i64 g.y),(15,pcS P)],[]⟩,fun _=>0⟩
def i8 (g:LwG):Inv:=⟨Pcs,fun P=>P=g.P,fun P=>⟨lwT0 g++[(4,.int .i64 g.rb),(15,pcS P),(16,orS 3 o3)],[]⟩,fun _=>0⟩
def i9 (g:LwG):Inv:=⟨Pcs,fun P=>P=g.P,fun P=>⟨lwT0 g++[(4,.int .i64 g.rb),(15,pcS P),(16,orS 3 o3),(17,pcS P),(18,.int .i64 0)],[]⟩,fun _=>0⟩
structure PQ where
 P:Pcs
 Q:Pcs
 R:Pcs
def i10 (g:LwG):Inv:=⟨PQ,fun s=>s.P=g.P/\s.Q=g.Q g.ra,fun s=>⟨lwT0 g++[(4,.int .i64 g.rb),(15,pcS s.P),(16,orS 3 o3),(17,pcS s.P),(18,.int .i64 0),(19,pcS s.Q),(20,.int .i64 0)],[]⟩,fun _=>0⟩
def i11 (g:LwG):Inv:=⟨PQ,fun s=>s.P=g.P/\s.Q=g.Q g.ra/\s.R=g.Q g.rb,fun s=>⟨lwT0 g++[(15,pcS s.P),(17,pcS s.P),(18,.int .i64 0),(19,pcS s.Q),(20,.int .i64 0),(21,pcS s.R),(22,.int .i64 0)],[]⟩,fun _=>0⟩
def i13 (g:LwG):Inv:=⟨PQ,fun s=>s.Q=g.Q g.ra/\s.R=g.Q g.rb,fun s=>⟨lwT0 g++[(19,pcS s.Q),(21,pcS s.R)],[]⟩,fun _=>0⟩
def i14 (g:LwG):Inv:=⟨PQ,fun s=>s.Q=g.Q g.ra/\s.R=g.Q g.rb,fun s=>⟨[(0,.int .i64 g.W),(5,.int .i64 g.X),(6,.int .i64 g.Y),(19,pcS s.Q),(21,pcS s.R)],[]⟩,fun _=>0⟩
structure UR where
 u:Vec
 R:Pcs
def vecO (u:Vec):SO:= .cells 8 (fun j=> .int .u8 (u j)) 33
def i15 (g:LwG):Inv:=⟨UR,fun s=>(∀ j,j<8->s.u j=g.c g.ra j)/\s.R=g.Q g.rb,fun s=>⟨[(0,.int .i64 g.W),(5,.int .i64 g.X),(6,.int .i64 g.Y),(21,pcS s.R),(23,.own 0 0)],[vecO s.u]⟩,fun _=>0⟩
structure UV where
 u:Vec
 v:Vec
def i16 (g:LwG):Inv:=⟨UV,fun s=>∀ j,j<8->s.u j<=s.v j,fun s=>⟨[(23,.own 0 0),(25,.own 1 0)],[vecO s.u,vecO s.v]⟩,fun _=>0⟩
structure UVJ where
 u:Vec
 v:Vec
 j:Nat
def i17x:Inv:=⟨UVJ,fun s=>(∀ j,j<8->s.u j<=s.v j)/\s.j<=8,fun s=>⟨[(23,.own 0 0),(25,.own 1 0),(104,.int .i64 s.j)],[vecO s.u,vecO s.v]⟩,fun s=>8-s.j⟩
theorem o3_lt {k:Nat}(h:k<3):o3 k<3:=by
 match k,h with
 | 0,_=>decide
 | 1,_=>decide
 | 2,_=>decide
theorem W_ok (g:LwG):1<=g.W/\g.W<=2:=by
 have:=ak0 g.w 1 2 (by omega)
 unfold LwG.W;omega
theorem ce0 (g:LwG) (i:Nat) {j:Nat}(hj:3<=j):g.pg.of.f i j=0:=by
 show (if i<256*g.W then g.pg.cel i j else 0)=0;split
 ·unfold PiG.cel;split
  ·unfold three;rw [lr (by omega),lr (by omega),lr (by omega)]
  ·rfl
 ·rfl
theorem bN2 {g:LwG}(hg:g.Ok) {r:Nat}(hr:r<=64):Tk g.pg.of 3 o3 r:=by
 refine ⟨W_ok g,⟨lf 1,uO 1⟩,fun i j hj8=>?_,by decide,fun k hk=>by have:=o3_lt hk; omega,fun i j hij hj=>?_,fun i j _ hne=>?_,hr⟩
 ·show 0<=(if i<256*g.W then g.pg.cel i j else 0);split
  ·unfold PiG.cel;split
   ·rename_i hn;have hv:=fun j (hj:j<8)=>(hg.v (g.pg.at' i) j (xP _ hn) hj).1
    unfold three;split
    ·exact hv 0 (by omega)
    ·split
     ·exact hv 1 (by omega)
     ·split
      ·exact hv 2 (by omega)
      ·decide
   ·exact xC 0
  ·decide
 ·have:(i=0/\j=1)\/(i=0/\j=2)\/(i=1/\j=2):=by omega
  rcases this with ⟨rfl,rfl⟩ | ⟨rfl,rfl⟩ | ⟨rfl,rfl⟩<;>decide
 ·have hj:j<3:=Nat.lt_of_not_le fun hc=>hne (ce0 g i hc)
  match j,hj with
  | 0,_=>exact ⟨1,by decide,rfl⟩
  | 1,_=>exact ⟨2,by decide,rfl⟩
  | 2,_=>exact ⟨0,by decide,rfl⟩
theorem b29 {g:LwG}(hg:g.Ok):OfOK g.pg.of g.P:=tk_of (bN2 hg (r:=0) (by decide))
theorem ch0 {g:LwG}(hg:g.Ok):g.Q 0=g.P:=congrArg Gt.P (bX8 (bN2 hg (by decide)) (b29 hg) fun i j hj=>ce0 g i (by omega))
theorem cg2 {g:LwG}{r s:Nat}(hr:r<=s) (hx:g.X<16*g.W) (hy:g.Y<16) (j:Nat):g.c r j<=g.c s j:=by
 refine bX9 hr ?_ j;show ix g.W g.Y g.X<256*g.W*1;unfold ix;rw [ly,ly];have:=lj (16*g.W) (show g.Y+1<=16 from hy)
 rw [lL] at this;omega
theorem at_c {g:LwG}(hg:g.Ok) {r:Nat}(hr:r<=64) (hx:g.X<16*g.W) (hy:g.Y<16) {j:Nat}(hj:j<8):AtG.v ⟨g.W,1,g.Q r,g.X,g.Y⟩ j=g.c r j:=at_of (aJ4 (bN2 hg hr) (b29 hg)) (show g.Y<16*1 by omega) hx hj
theorem cc4:aa9 Tw.prog spLaw:=by
 refine ab0 (specs:=[b88,b00,spPc,bR3,b93,spAt]) (ac7 (⟨cc0,bT4,ok_pc,b14,cc8,ok_at,trivial⟩)) (eqs:=[]) (fun _ _ h=>(lx h).elim) Aff.mixed Tw.func4 rfl (by kernel_rfl) (fun _ _=>by kernel_rfl) (fun g=>(⟨[(5,.cut (i5 g)),(8,.cut (i8 g)),(9,.cut (i9 g)),(10,.cut (i10 g)),(11,.cut (i11 g)),(13,.cut (i13 g)),(14,.cut (i14 g)),(15,.cut (i15 g)),(16,.cut (i16 g)),(17,.inv i17x)],[]⟩:Ann)) (fun g=>li (by kernel_rfl)) ?_;rintro g hg;refine af7 (B:=let T4:=fun p:Prop=>True/\True/\True/\True/\p;let T5:=fun p:Prop=>True/\True/\True/\True/\True/\p;let J:=Int.toNat;let K:=Br;let A:=Sx.Ask;let z54:=(↑g.ra:Int);let z51:=(9223372036854775807:Int);let z50:=(-9223372036854775808:Int);let z49:=(16:Int);let z44:=(6:Int);let z42:=(↑g.rb:Int);let z41:=(↑g.Y:Int);let z40:=(↑g.X:Int);let z39:=(2:Int);let z38:=(fun (k:Nat)=>(↑(o3 k):Int).toNat);let z36:=(-2305843009213693952:Int);let z32:=(1:Int);let z53:=(PiG.mk (cutI g.w z32 z39).toNat g.n g.f g.k);let z43:=(J z32);let z26:=(4611686018427387903:Int);let z25:=(0:Int);let z19:=(7:Nat);let z18:=(6:Nat);let z17:=(5:Nat);let z16:=(4:Nat);let z15:=(2:Nat);let z14:=(1:Nat);let z13:=(↑g.W:Int);let z12:=(3:Nat);let z11:=(0:Nat);let z59:=(z11=z11);let z5:=(ofA z53.of);let z35:=(Gar.Gt.P z5);let z1:=(IntKind.i64=IntKind.i64);let q1:=fun p:Int=>A z1/\A (p=p);let z58:=(A z1/\A (z41=(↑z41.toNat:Int)));let z57:=(A z1/\A (z40=(↑z40.toNat:Int)));let z34:=(A (z12=z12)/\∀ i:Nat,i<z12->True/\q1 ((↑(o3 i):Int)));let z33:=(q1 z25);let z31:=(q1 z54);let z30:=(q1 z13);let z29:=(q1 g.y);let z28:=(q1 g.x);let z27:=(A z1/\A (z13=(↑z13.toNat:Int)));let z24:=(A (z12=z12)/\∀ i:Nat,i<z12->True/\A z1/\A ((↑(o3 i):Int)=(↑(↑(o3 i):Int).toNat:Int)));let z20:=(A z1/\A (z32=(↑z43:Int)));let z0:=(IntKind.u8=IntKind.u8);let q0:=fun p:Int=>A z0/\A (p=p);True/\(True/\A True)/\True/\True/\(((q1 g.w)/\(q1 z32)/\(q1 z39)/\True)/\A ((z36<=z32/\z32<=z39)/\z39<=z26/\z39-z32<=z26))/\True/\(True/\True/\True/\(((A z1/\A (cutI g.w z32 z39=(↑(cutI g.w z32 z39).toNat:Int)))/\(A (g.n=g.n)/\∀ i:Nat,i<g.n->(chp True (fun j:Nat=>q0 (g.f i j)) 7)/\q0 (g.f i z19))/\(q1 g.k)/\True)/\A z53.Ok)/\True/\∃ g_1:Gar.Pcs,A ((i5 g).pre g_1)/\((A z1/\A (cutI g.w z32 z39=z13))/\(q1 g.a)/\(q1 g.b)/\z28/\z29/\(A ((bif z5.full then z11 else z5.n)=g_1.n)/\∀ i:Nat,i<g_1.n->((((((((True/\A (z35.m i=g_1.m i)/\∀ i_1:Nat,i_1<g_1.m i->((True/\A z1/\A ((z35.p i i_1).y=(g_1.p i i_1).y))/\A z1/\A ((z35.p i i_1).x0=(g_1.p i i_1).x0))/\A z1/\A ((z35.p i i_1).x1=(g_1.p i i_1).x1))/\A z0/\A (z35.ink i z11=g_1.ink i z11))/\A z0/\A (z35.ink i z14=g_1.ink i z14))/\A z0/\A (z35.ink i z15=g_1.ink i z15))/\A z0/\A (z35.ink i z12=g_1.ink i z12))/\A z0/\A (z35.ink i z16=g_1.ink i z16))/\A z0/\A (z35.ink i z17=g_1.ink i z17))/\A z0/\A (z35.ink i z18=g_1.ink i z18))/\A z0/\A (z35.ink i z19=g_1.ink i z19))/\True)/\True)/\∀ g_1:Gar.Pcs,(i5 g).pre g_1->True/\(((q1 g.a)/\z33/\(q1 z44)/\True)/\A ((z36<=z25/\z25<=z44)/\z44<=z26/\z44-z25<=z26))/\True/\True/\True/\(((q1 g.b)/\(q1 (cutI g.a z25 z44))/\(q1 ((8:Int)))/\True)/\A ((z36<=cutI g.a z25 z44/\cutI g.a z25 z44<=(8:Int))/\(8:Int)<=z26/\(8:Int)-cutI g.a z25 z44<=z26))/\True/\(True/\True/\∃ g_2:Gar.Pcs,A ((i8 g).pre g_2)/\(z30/\(A z1/\A (cutI g.a z25 z44=z54))/\z28/\z29/\(A z1/\A (cutI g.b (cutI g.a z25 z44) (8:Int)=z42))/\(A (g_1.n=g_2.n)/\∀ i:Nat,i<g_2.n->((((((((True/\A (g_1.m i=g_2.m i)/\∀ i_1:Nat,i_1<g_2.m i->((True/\A z1/\A ((g_1.p i i_1).y=(g_2.p i i_1).y))/\A z1/\A ((g_1.p i i_1).x0=(g_2.p i i_1).x0))/\A z1/\A ((g_1.p i i_1).x1=(g_2.p i i_1).x1))/\A z0/\A (g_1.ink i z11=g_2.ink i z11))/\A z0/\A (g_1.ink i z14=g_2.ink i z14))/\A z0/\A (g_1.ink i z15=g_2.ink i z15))/\A z0/\A (g_1.ink i z12=g_2.ink i z12))/\A z0/\A (g_1.ink i z16=g_2.ink i z16))/\A z0/\A (g_1.ink i z17=g_2.ink i z17))/\A z0/\A (g_1.ink i z18=g_2.ink i z18))/\A z0/\A (g_1.ink i z19=g_2.ink i z19))/\(A (z12=z12)/\∀ i:Nat,i<z12->True/\A z1/\A ((bif decide (i=z15) then z32 else bif decide (i=z14) then z25 else z39)=(↑(o3 i):Int)))/\True)/\True)/\∀ g_2:Gar.Pcs,let z2:=(TrG.mk z13.toNat z43 g_2 z12 z38 (J z25));let z61:=(ofA z2.of);let z21:=(Gar.Gt.P z61); (i8 g).pre g_2->(True/\True/\True/\((z27/\z20/\(A (g_2.n=g_2.n)/\∀ i:Nat,i<g_2.n->(chp (True/\A (g_2.m i=g_2.m i)/\∀ i_1:Nat,let z55:=(g_2.p i i_1); i_1<g_2.m i->((True/\q1 z55.y)/\q1 z55.x0)/\q1 z55.x1) (fun j:Nat=>q0 (g_2.ink i j)) 7)/\q0 (g_2.ink i z19))/\z24/\(A z1/\A (z25=(↑(J z25):Int)))/\True)/\A (z2.Ok/\z2.ck.Ok))/\T5 (∃ g_3:Gar.Pcs,A ((i9 g).pre g_3)/\(z30/\z31/\z28/\z29/\(q1 z42)/\(A (g_2.n=g_3.n)/\∀ i:Nat,i<g_3.n->((((((((True/\A (g_2.m i=g_3.m i)/\∀ i_1:Nat,i_1<g_3.m i->((True/\A z1/\A ((g_2.p i i_1).y=(g_3.p i i_1).y))/\A z1/\A ((g_2.p i i_1).x0=(g_3.p i i_1).x0))/\A z1/\A ((g_2.p i i_1).x1=(g_3.p i i_1).x1))/\A z0/\A (g_2.ink i z11=g_3.ink i z11))/\A z0/\A (g_2.ink i z14=g_3.ink i z14))/\A z0/\A (g_2.ink i z15=g_3.ink i z15))/\A z0/\A (g_2.ink i z12=g_3.ink i z12))/\A z0/\A (g_2.ink i z16=g_3.ink i z16))/\A z0/\A (g_2.ink i z17=g_3.ink i z17))/\A z0/\A (g_2.ink i z18=g_3.ink i z18))/\A z0/\A (g_2.ink i z19=g_3.ink i z19))/\z34/\(A ((bif z61.full then z11 else z61.n)=g_3.n)/\∀ i:Nat,i<g_3.n->((((((((True/\A (z21.m i=g_3.m i)/\∀ i_1:Nat,i_1<g_3.m i->((True/\A z1/\A ((z21.p i i_1).y=(g_3.p i i_1).y))/\A z1/\A ((z21.p i i_1).x0=(g_3.p i i_1).x0))/\A z1/\A ((z21.p i i_1).x1=(g_3.p i i_1).x1))/\A z0/\A (z21.ink i z11=g_3.ink i z11))/\A z0/\A (z21.ink i z14=g_3.ink i z14))/\A z0/\A (z21.ink i z15=g_3.ink i z15))/\A z0/\A (z21.ink i z12=g_3.ink i z12))/\A z0/\A (z21.ink i z16=g_3.ink i z16))/\A z0/\A (z21.ink i z17=g_3.ink i z17))/\A z0/\A (z21.ink i z18=g_3.ink i z18))/\A z0/\A (z21.ink i z19=g_3.ink i z19))/\(A z1/\A ((bif z61.full then z39 else z25)=z25))/\True)/\True))/\∀ g_3:Gar.Pcs,let z4:=(TrG.mk z13.toNat z43 g_3 z12 z38 z54.toNat);let z62:=(ofA z4.of);let z22:=(Gar.Gt.P z62); (i9 g).pre g_3->(T4 (((z27/\z20/\(A (g_3.n=g_3.n)/\∀ i:Nat,i<g_3.n->(chp (True/\A (g_3.m i=g_3.m i)/\∀ i_1:Nat,let z56:=(g_3.p i i_1); i_1<g_3.m i->((True/\q1 z56.y)/\q1 z56.x0)/\q1 z56.x1) (fun j:Nat=>q0 (g_3.ink i j)) 7)/\q0 (g_3.ink i z19))/\z24/\(A z1/\A (z54=(↑z54.toNat:Int)))/\True)/\A (z4.Ok/\z4.ck.Ok))/\T5 (∃ g_4:PQ,let z8:=(A (g_3.n=g_4.P.n)/\∀ i:Nat,i<g_4.P.n->((((((((True/\A (g_3.m i=g_4.P.m i)/\∀ i_1:Nat,i_1<g_4.P.m i->((True/\A z1/\A ((g_3.p i i_1).y=(g_4.P.p i i_1).y))/\A z1/\A ((g_3.p i i_1).x0=(g_4.P.p i i_1).x0))/\A z1/\A ((g_3.p i i_1).x1=(g_4.P.p i i_1).x1))/\A z0/\A (g_3.ink i z11=g_4.P.ink i z11))/\A z0/\A (g_3.ink i z14=g_4.P.ink i z14))/\A z0/\A (g_3.ink i z15=g_4.P.ink i z15))/\A z0/\A (g_3.ink i z12=g_4.P.ink i z12))/\A z0/\A (g_3.ink i z16=g_4.P.ink i z16))/\A z0/\A (g_3.ink i z17=g_4.P.ink i z17))/\A z0/\A (g_3.ink i z18=g_4.P.ink i z18))/\A z0/\A (g_3.ink i z19=g_4.P.ink i z19)); A ((i10 g).pre g_4)/\(z30/\z31/\z28/\z29/\(q1 z42)/\z8/\z34/\z8/\z33/\(A ((bif z62.full then z11 else z62.n)=g_4.Q.n)/\∀ i:Nat,i<g_4.Q.n->((((((((True/\A (z22.m i=g_4.Q.m i)/\∀ i_1:Nat,i_1<g_4.Q.m i->((True/\A z1/\A ((z22.p i i_1).y=(g_4.Q.p i i_1).y))/\A z1/\A ((z22.p i i_1).x0=(g_4.Q.p i i_1).x0))/\A z1/\A ((z22.p i i_1).x1=(g_4.Q.p i i_1).x1))/\A z0/\A (z22.ink i z11=g_4.Q.ink i z11))/\A z0/\A (z22.ink i z14=g_4.Q.ink i z14))/\A z0/\A (z22.ink i z15=g_4.Q.ink i z15))/\A z0/\A (z22.ink i z12=g_4.Q.ink i z12))/\A z0/\A (z22.ink i z16=g_4.Q.ink i z16))/\A z0/\A (z22.ink i z17=g_4.Q.ink i z17))/\A z0/\A (z22.ink i z18=g_4.Q.ink i z18))/\A z0/\A (z22.ink i z19=g_4.Q.ink i z19))/\(A z1/\A ((bif z62.full then z39 else z25)=z25))/\True)/\True)))/\∀ g_4:PQ,let z3:=(TrG.mk z13.toNat z43 g_4.P z12 z38 z42.toNat);let z63:=(ofA z3.of);let z23:=(Gar.Gt.P z63); (i10 g).pre g_4->(T4 (((z27/\z20/\(A (g_4.P.n=g_4.P.n)/\∀ i:Nat,i<g_4.P.n->(chp (True/\A (g_4.P.m i=g_4.P.m i)/\∀ i_1:Nat,let z45:=(g_4.P.p i i_1); i_1<g_4.P.m i->((True/\q1 z45.y)/\q1 z45.x0)/\q1 z45.x1) (fun j:Nat=>q0 (g_4.P.ink i j)) 7)/\q0 (g_4.P.ink i z19))/\z24/\(A z1/\A (z42=(↑z42.toNat:Int)))/\True)/\A (z3.Ok/\z3.ck.Ok))/\T5 (∃ g_5:PQ,let z6:=(A (g_4.P.n=g_5.P.n)/\∀ i:Nat,i<g_5.P.n->((((((((True/\A (g_4.P.m i=g_5.P.m i)/\∀ i_1:Nat,i_1<g_5.P.m i->((True/\A z1/\A ((g_4.P.p i i_1).y=(g_5.P.p i i_1).y))/\A z1/\A ((g_4.P.p i i_1).x0=(g_5.P.p i i_1).x0))/\A z1/\A ((g_4.P.p i i_1).x1=(g_5.P.p i i_1).x1))/\A z0/\A (g_4.P.ink i z11=g_5.P.ink i z11))/\A z0/\A (g_4.P.ink i z14=g_5.P.ink i z14))/\A z0/\A (g_4.P.ink i z15=g_5.P.ink i z15))/\A z0/\A (g_4.P.ink i z12=g_5.P.ink i z12))/\A z0/\A (g_4.P.ink i z16=g_5.P.ink i z16))/\A z0/\A (g_4.P.ink i z17=g_5.P.ink i z17))/\A z0/\A (g_4.P.ink i z18=g_5.P.ink i z18))/\A z0/\A (g_4.P.ink i z19=g_5.P.ink i z19)); A ((i11 g).pre g_5)/\(z30/\z31/\z28/\z29/\z6/\z6/\z33/\(A (g_4.Q.n=g_5.Q.n)/\∀ i:Nat,i<g_5.Q.n->((((((((True/\A (g_4.Q.m i=g_5.Q.m i)/\∀ i_1:Nat,i_1<g_5.Q.m i->((True/\A z1/\A ((g_4.Q.p i i_1).y=(g_5.Q.p i i_1).y))/\A z1/\A ((g_4.Q.p i i_1).x0=(g_5.Q.p i i_1).x0))/\A z1/\A ((g_4.Q.p i i_1).x1=(g_5.Q.p i i_1).x1))/\A z0/\A (g_4.Q.ink i z11=g_5.Q.ink i z11))/\A z0/\A (g_4.Q.ink i z14=g_5.Q.ink i z14))/\A z0/\A (g_4.Q.ink i z15=g_5.Q.ink i z15))/\A z0/\A (g_4.Q.ink i z12=g_5.Q.ink i z12))/\A z0/\A (g_4.Q.ink i z16=g_5.Q.ink i z16))/\A z0/\A (g_4.Q.ink i z17=g_5.Q.ink i z17))/\A z0/\A (g_4.Q.ink i z18=g_5.Q.ink i z18))/\A z0/\A (g_4.Q.ink i z19=g_5.Q.ink i z19))/\z33/\(A ((bif z63.full then z11 else z63.n)=g_5.R.n)/\∀ i:Nat,i<g_5.R.n->((((((((True/\A (z23.m i=g_5.R.m i)/\∀ i_1:Nat,i_1<g_5.R.m i->((True/\A z1/\A ((z23.p i i_1).y=(g_5.R.p i i_1).y))/\A z1/\A ((z23.p i i_1).x0=(g_5.R.p i i_1).x0))/\A z1/\A ((z23.p i i_1).x1=(g_5.R.p i i_1).x1))/\A z0/\A (z23.ink i z11=g_5.R.ink i z11))/\A z0/\A (z23.ink i z14=g_5.R.ink i z14))/\A z0/\A (z23.ink i z15=g_5.R.ink i z15))/\A z0/\A (z23.ink i z12=g_5.R.ink i z12))/\A z0/\A (z23.ink i z16=g_5.R.ink i z16))/\A z0/\A (z23.ink i z17=g_5.R.ink i z17))/\A z0/\A (z23.ink i z18=g_5.R.ink i z18))/\A z0/\A (z23.ink i z19=g_5.R.ink i z19))/\(A z1/\A ((bif z63.full then z39 else z25)=z25))/\True)/\True)))/\∀ g_5:PQ,let z7:=(A (g_5.P.n=g_5.P.n)/\∀ i:Nat,i<g_5.P.n->(chp (True/\A (g_5.P.m i=g_5.P.m i)/\∀ i_1:Nat,let z46:=(g_5.P.p i i_1); i_1<g_5.P.m i->((True/\q1 z46.y)/\q1 z46.x0)/\q1 z46.x1) (fun j:Nat=>q0 (g_5.P.ink i j)) 7)/\q0 (g_5.P.ink i z19)); (i11 g).pre g_5->(T5 (T5 (True/\True/\True/\((z7/\z7/\(A ((16:Nat)=(16:Go.FuncId))/\True)/\True)/\A (g_5.P.n<=(4294967296:Nat)/\∀ k:Nat,k<g_5.P.n->vld (Rg.mk (g_5.P.m k) (g_5.P.p k)).L))/\True/\True/\∃ g_6:PQ,A ((i13 g).pre g_6)/\(z30/\z31/\z28/\z29/\(A (g_5.Q.n=g_6.Q.n)/\∀ i:Nat,i<g_6.Q.n->((((((((True/\A (g_5.Q.m i=g_6.Q.m i)/\∀ i_1:Nat,i_1<g_6.Q.m i->((True/\A z1/\A ((g_5.Q.p i i_1).y=(g_6.Q.p i i_1).y))/\A z1/\A ((g_5.Q.p i i_1).x0=(g_6.Q.p i i_1).x0))/\A z1/\A ((g_5.Q.p i i_1).x1=(g_6.Q.p i i_1).x1))/\A z0/\A (g_5.Q.ink i z11=g_6.Q.ink i z11))/\A z0/\A (g_5.Q.ink i z14=g_6.Q.ink i z14))/\A z0/\A (g_5.Q.ink i z15=g_6.Q.ink i z15))/\A z0/\A (g_5.Q.ink i z12=g_6.Q.ink i z12))/\A z0/\A (g_5.Q.ink i z16=g_6.Q.ink i z16))/\A z0/\A (g_5.Q.ink i z17=g_6.Q.ink i z17))/\A z0/\A (g_5.Q.ink i z18=g_6.Q.ink i z18))/\A z0/\A (g_5.Q.ink i z19=g_6.Q.ink i z19))/\(A (g_5.R.n=g_6.R.n)/\∀ i:Nat,i<g_6.R.n->((((((((True/\A (g_5.R.m i=g_6.R.m i)/\∀ i_1:Nat,i_1<g_6.R.m i->((True/\A z1/\A ((g_5.R.p i i_1).y=(g_6.R.p i i_1).y))/\A z1/\A ((g_5.R.p i i_1).x0=(g_6.R.p i i_1).x0))/\A z1/\A ((g_5.R.p i i_1).x1=(g_6.R.p i i_1).x1))/\A z0/\A (g_5.R.ink i z11=g_6.R.ink i z11))/\A z0/\A (g_5.R.ink i z14=g_6.R.ink i z14))/\A z0/\A (g_5.R.ink i z15=g_6.R.ink i z15))/\A z0/\A (g_5.R.ink i z12=g_6.R.ink i z12))/\A z0/\A (g_5.R.ink i z16=g_6.R.ink i z16))/\A z0/\A (g_5.R.ink i z17=g_6.R.ink i z17))/\A z0/\A (g_5.R.ink i z18=g_6.R.ink i z18))/\A z0/\A (g_5.R.ink i z19=g_6.R.ink i z19))/\True)/\True)))/\∀ g_6:PQ,(i13 g).pre g_6->(True/\True/\A (z50<=z49*z13/\z49*z13<=z51)/\A (z50<=z49*z13-z32/\z49*z13-z32<=z51)/\((z28/\z33/\(q1 (z49*z13-z32))/\True)/\A ((z36<=z25/\z25<=z49*z13-z32)/\z49*z13-z32<=z26/\z49*z13-z32-z25<=z26))/\True/\((z29/\z33/\(q1 ((15:Int)))/\True)/\A ((z36<=z25/\z25<=(15:Int))/\(15:Int)<=z26/\(15:Int)-z25<=z26))/\True/\True/\∃ g_7:PQ,A ((i14 g).pre g_7)/\(z30/\(A z1/\A (cutI g.x z25 (z49*z13-z32)=z40))/\(A z1/\A (cutI g.y z25 (15:Int)=z41))/\(A (g_6.Q.n=g_7.Q.n)/\∀ i:Nat,i<g_7.Q.n->((((((((True/\A (g_6.Q.m i=g_7.Q.m i)/\∀ i_1:Nat,i_1<g_7.Q.m i->((True/\A z1/\A ((g_6.Q.p i i_1).y=(g_7.Q.p i i_1).y))/\A z1/\A ((g_6.Q.p i i_1).x0=(g_7.Q.p i i_1).x0))/\A z1/\A ((g_6.Q.p i i_1).x1=(g_7.Q.p i i_1).x1))/\A z0/\A (g_6.Q.ink i z11=g_7.Q.ink i z11))/\A z0/\A (g_6.Q.ink i z14=g_7.Q.ink i z14))/\A z0/\A (g_6.Q.ink i z15=g_7.Q.ink i z15))/\A z0/\A (g_6.Q.ink i z12=g_7.Q.ink i z12))/\A z0/\A (g_6.Q.ink i z16=g_7.Q.ink i z16))/\A z0/\A (g_6.Q.ink i z17=g_7.Q.ink i z17))/\A z0/\A (g_6.Q.ink i z18=g_7.Q.ink i z18))/\A z0/\A (g_6.Q.ink i z19=g_7.Q.ink i z19))/\(A (g_6.R.n=g_7.R.n)/\∀ i:Nat,i<g_7.R.n->((((((((True/\A (g_6.R.m i=g_7.R.m i)/\∀ i_1:Nat,i_1<g_7.R.m i->((True/\A z1/\A ((g_6.R.p i i_1).y=(g_7.R.p i i_1).y))/\A z1/\A ((g_6.R.p i i_1).x0=(g_7.R.p i i_1).x0))/\A z1/\A ((g_6.R.p i i_1).x1=(g_7.R.p i i_1).x1))/\A z0/\A (g_6.R.ink i z11=g_7.R.ink i z11))/\A z0/\A (g_6.R.ink i z14=g_7.R.ink i z14))/\A z0/\A (g_6.R.ink i z15=g_7.R.ink i z15))/\A z0/\A (g_6.R.ink i z12=g_7.R.ink i z12))/\A z0/\A (g_6.R.ink i z16=g_7.R.ink i z16))/\A z0/\A (g_6.R.ink i z17=g_7.R.ink i z17))/\A z0/\A (g_6.R.ink i z18=g_7.R.ink i z18))/\A z0/\A (g_6.R.ink i z19=g_7.R.ink i z19))/\True)/\True)/\∀ g_7:PQ,let z9:=(Rin.AtG.mk z13.toNat z43 g_7.Q z40.toNat z41.toNat); (i14 g).pre g_7->(T4 (((z27/\z20/\(A (g_7.Q.n=g_7.Q.n)/\∀ i:Nat,i<g_7.Q.n->(chp (True/\A (g_7.Q.m i=g_7.Q.m i)/\∀ i_1:Nat,let z47:=(g_7.Q.p i i_1); i_1<g_7.Q.m i->((True/\q1 z47.y)/\q1 z47.x0)/\q1 z47.x1) (fun j:Nat=>q0 (g_7.Q.ink i j)) 7)/\q0 (g_7.Q.ink i z19))/\z57/\z58/\True)/\A z9.Ok)/\T5 (True/\∃ g_8:UR,A ((i15 g).pre g_8)/\(z30/\(q1 z40)/\(q1 z41)/\(A (g_7.R.n=g_8.R.n)/\∀ i:Nat,i<g_8.R.n->((((((((True/\A (g_7.R.m i=g_8.R.m i)/\∀ i_1:Nat,i_1<g_8.R.m i->((True/\A z1/\A ((g_7.R.p i i_1).y=(g_8.R.p i i_1).y))/\A z1/\A ((g_7.R.p i i_1).x0=(g_8.R.p i i_1).x0))/\A z1/\A ((g_7.R.p i i_1).x1=(g_8.R.p i i_1).x1))/\A z0/\A (g_7.R.ink i z11=g_8.R.ink i z11))/\A z0/\A (g_7.R.ink i z14=g_8.R.ink i z14))/\A z0/\A (g_7.R.ink i z15=g_8.R.ink i z15))/\A z0/\A (g_7.R.ink i z12=g_8.R.ink i z12))/\A z0/\A (g_7.R.ink i z16=g_8.R.ink i z16))/\A z0/\A (g_7.R.ink i z17=g_8.R.ink i z17))/\A z0/\A (g_7.R.ink i z18=g_8.R.ink i z18))/\A z0/\A (g_7.R.ink i z19=g_8.R.ink i z19))/\A z59/\True)/\((((((((True/\A z0/\A (z9.v z11=g_8.u z11))/\A z0/\A (z9.v z14=g_8.u z14))/\A z0/\A (z9.v z15=g_8.u z15))/\A z0/\A (z9.v z12=g_8.u z12))/\A z0/\A (z9.v z16=g_8.u z16))/\A z0/\A (z9.v z17=g_8.u z17))/\A z0/\A (z9.v z18=g_8.u z18))/\A z0/\A (z9.v z19=g_8.u z19))/\True)))/\∀ g_8:UR,let z10:=(Rin.AtG.mk z13.toNat z43 g_8.R z40.toNat z41.toNat); (i15 g).pre g_8->(T4 (((z27/\z20/\(A (g_8.R.n=g_8.R.n)/\∀ i:Nat,i<g_8.R.n->(chp (True/\A (g_8.R.m i=g_8.R.m i)/\∀ i_1:Nat,let z48:=(g_8.R.p i i_1); i_1<g_8.R.m i->((True/\q1 z48.y)/\q1 z48.x0)/\q1 z48.x1) (fun j:Nat=>q0 (g_8.R.ink i j)) 7)/\q0 (g_8.R.ink i z19))/\z57/\z58/\True)/\A z10.Ok)/\T5 (True/\∃ g_9:UV,A ((i16 g).pre g_9)/\(A z59/\A z59/\True)/\((((((((True/\A z0/\A (g_8.u z11=g_9.u z11))/\A z0/\A (g_8.u z14=g_9.u z14))/\A z0/\A (g_8.u z15=g_9.u z15))/\A z0/\A (g_8.u z12=g_9.u z12))/\A z0/\A (g_8.u z16=g_9.u z16))/\A z0/\A (g_8.u z17=g_9.u z17))/\A z0/\A (g_8.u z18=g_9.u z18))/\A z0/\A (g_8.u z19=g_9.u z19))/\((((((((True/\A z0/\A (z10.v z11=g_9.v z11))/\A z0/\A (z10.v z14=g_9.v z14))/\A z0/\A (z10.v z15=g_9.v z15))/\A z0/\A (z10.v z12=g_9.v z12))/\A z0/\A (z10.v z16=g_9.v z16))/\A z0/\A (z10.v z17=g_9.v z17))/\A z0/\A (z10.v z18=g_9.v z18))/\A z0/\A (z10.v z19=g_9.v z19))/\True)))/\∀ g_9:UV,(i16 g).pre g_9->True/\(∃ g:UVJ,A (i17x.pre g)/\(A z59/\A z59/\(A z1/\A (z25=(↑g.j:Int)))/\True)/\((((((((True/\A z0/\A (g_9.u z11=g.u z11))/\A z0/\A (g_9.u z14=g.u z14))/\A z0/\A (g_9.u z15=g.u z15))/\A z0/\A (g_9.u z12=g.u z12))/\A z0/\A (g_9.u z16=g.u z16))/\A z0/\A (g_9.u z17=g.u z17))/\A z0/\A (g_9.u z18=g.u z18))/\A z0/\A (g_9.u z19=g.u z19))/\((((((((True/\A z0/\A (g_9.v z11=g.v z11))/\A z0/\A (g_9.v z14=g.v z14))/\A z0/\A (g_9.v z15=g.v z15))/\A z0/\A (g_9.v z12=g.v z12))/\A z0/\A (g_9.v z16=g.v z16))/\A z0/\A (g_9.v z17=g.v z17))/\A z0/\A (g_9.v z18=g.v z18))/\A z0/\A (g_9.v z19=g.v z19))/\True)/\∀ g:UVJ,let z37:=(↑g.j:Int);let z60:=(z25<=z37/\z37<(↑(8:Nat):Int));let z52:=(decide (z11+z37.toNat*z14+z14<=(8:Nat))); i17x.pre g->True/\K (decide (z37<(8:Int))) (True/\True/\True/\A z60/\K z52 True False/\True/\A z60/\K z52 True False/\True/\K (decide (g.v (z11+z37.toNat*z14)<g.u (z11+z37.toNat*z14))) (True/\True/\A (false=true)) (A (z50<=z37+z32/\z37+z32<=z51)/\True/\∃ (g':UVJ),A (i17x.pre g')/\((A z59/\A z59/\(A z1/\A (z37+z32=(↑g'.j:Int)))/\True)/\((((((((True/\A z0/\A (g.u z11=g'.u z11))/\A z0/\A (g.u z14=g'.u z14))/\A z0/\A (g.u z15=g'.u z15))/\A z0/\A (g.u z12=g'.u z12))/\A z0/\A (g.u z16=g'.u z16))/\A z0/\A (g.u z17=g'.u z17))/\A z0/\A (g.u z18=g'.u z18))/\A z0/\A (g.u z19=g'.u z19))/\((((((((True/\A z0/\A (g.v z11=g'.v z11))/\A z0/\A (g.v z14=g'.v z14))/\A z0/\A (g.v z15=g'.v z15))/\A z0/\A (g.v z12=g'.v z12))/\A z0/\A (g.v z16=g'.v z16))/\A z0/\A (g.v z17=g'.v z17))/\A z0/\A (g.v z18=g'.v z18))/\A z0/\A (g.v z19=g'.v z19))/\True)/\A (i17x.meas g'<i17x.meas g))) (True/\True/\A (true=true))) (by kernel_rfl) ?_;simp only [chp];simp only [cln,ly,xb,xm];have hT:=fun r (hr:r<=64)=>bN2 hg hr
 have ho:=b29 hg;have hW:=W_ok g;have hra:=ak0 g.a 0 6 (by omega);have era:cutI g.a 0 6=(g.ra:Int):=by unfold LwG.ra; omega
 have hrb:=ak0 g.b g.ra 8 (by omega);have erb:cutI g.b g.ra 8=(g.rb:Int):=by unfold LwG.rb; omega
 have hra6:g.ra<=6:=by omega
 have hrb8:g.ra<=g.rb/\g.rb<=8:=by omega
 have hfl:∀ r,r<=64->(bif (ofA (tk g.pg.of g.P 3 o3 r).of).full then (2:Int) else 0)=0:=fun r hr=>by rw [(aJ4 (hT r hr) ho).n]; rfl
 have hXr:=ak0 g.x 0 (16*g.W-1) (by omega);have hYr:=ak0 g.y 0 15 (by omega);have eX:cutI g.x 0 (16*g.W-1)=(g.X:Int):=by unfold LwG.X; omega
 have eY:cutI g.y 0 15=(g.Y:Int):=by unfold LwG.Y; omega
 have hX:g.X<16*g.W:=by omega
 have hY:g.Y<16:=by omega
 have eW:cutI g.w 1 2=(g.W:Int):=by have:=ak0 g.w 1 2 (by omega); unfold LwG.W; omega
 refine ⟨by omega,⟨⟨eW,hW,hg.n⟩,g.P,rfl,eW,pEq (P:=g.P) rfl⟩,fun P hP=>?_⟩;have hP:P=g.P:=hP;subst hP;refine ⟨by omega,by omega,⟨g.P,rfl,era,by rw [era]; exact erb,pEq rfl,fun i hi=>?_⟩,fun P hP=>?_⟩
 ·match i,hi with
  | 0,_=>rfl
  | 1,_=>rfl
  | 2,_=>rfl
 have hP:P=g.P:=hP;subst hP;refine ⟨⟨⟨⟨rfl,rfl⟩,bp9 (hT 0 (by omega)) ho,bK0 (hT 0 (by omega)) ho⟩,g.P,rfl,pEq rfl,pEq (ch0 hg),hfl 0 (by omega)⟩,fun P hP=>?_⟩;have hP:P=g.P:=hP;subst hP;refine ⟨⟨⟨rfl,bp9 (hT g.ra (by omega)) ho,bK0 (hT g.ra (by omega)) ho⟩,⟨g.P,g.Q g.ra,g.P⟩,⟨rfl,rfl⟩,pEq rfl,pEq rfl,pEq (P:=g.Q g.ra) rfl,hfl g.ra (by omega)⟩,fun s hs=>?_⟩;obtain ⟨P,Q,R⟩:=s;obtain ⟨hP,hQ⟩:P=g.P/\Q=g.Q g.ra:=hs;subst hP hQ;refine ⟨⟨⟨rfl,bp9 (hT g.rb (by omega)) ho,bK0 (hT g.rb (by omega)) ho⟩,⟨g.P,g.Q g.ra,g.Q g.rb⟩,⟨rfl,rfl,rfl⟩,pEq rfl,pEq rfl,pEq rfl,pEq (P:=g.Q g.rb) rfl,hfl g.rb (by omega)⟩,fun s hs=>?_⟩;obtain ⟨P,Q,R⟩:=s;obtain ⟨hP,hQ,hR⟩:P=g.P/\Q=g.Q g.ra/\R=g.Q g.rb:=hs;subst hP hQ hR;have hPn:g.P.n<=4096:=ho.c.P.n;refine ⟨⟨⟨by show g.P.n<=_; omega,fun k hk=>ho.c.P.v k hk⟩,⟨g.P,g.Q g.ra,g.Q g.rb⟩,⟨rfl,rfl⟩,pEq rfl,pEq rfl⟩,fun s hs=>?_⟩;obtain ⟨P,Q,R⟩:=s;obtain ⟨hQ,hR⟩:Q=g.Q g.ra/\R=g.Q g.rb:=hs;subst hQ hR;refine ⟨⟨by omega,by omega,by omega,by omega,⟨P,g.Q g.ra,g.Q g.rb⟩,⟨rfl,rfl⟩,eX,eY,pEq rfl,pEq rfl⟩,fun s hs=>?_⟩;obtain ⟨P,Q,R⟩:=s;obtain ⟨hQ,hR⟩:Q=g.Q g.ra/\R=g.Q g.rb:=hs;subst hQ hR;have hat:∀ r,r<=64->(AtG.mk g.W (Int.toNat 1) (g.Q r) g.X g.Y).Ok:=fun r hr=>⟨(aJ4 (hT r hr) ho).c,hX,show g.Y<16*1 by omega⟩
 refine ⟨⟨⟨rfl,hat g.ra (by omega)⟩,⟨AtG.v ⟨g.W,1,g.Q g.ra,g.X,g.Y⟩,g.Q g.rb⟩,⟨fun j hj=>at_c hg (by omega) hX hY hj,rfl⟩,pEq rfl,eight (b:=AtG.v ⟨g.W,1,g.Q g.ra,g.X,g.Y⟩) fun _ _=>rfl⟩,fun s hs=>?_⟩;obtain ⟨u,R⟩:=s;obtain ⟨hu,hR⟩:(∀ j,j<8->u j=g.c g.ra j)/\R=g.Q g.rb:=hs;subst hR;refine ⟨⟨⟨rfl,hat g.rb (by omega)⟩,⟨u,AtG.v ⟨g.W,1,g.Q g.rb,g.X,g.Y⟩⟩,fun j hj=>?_,eight (a:=u) (b:=u) fun _ _=>rfl,eight (b:=AtG.v ⟨g.W,1,g.Q g.rb,g.X,g.Y⟩) fun _ _=>rfl⟩,fun s hs=>?_⟩
 ·show u j<=AtG.v ⟨g.W,1,g.Q g.rb,g.X,g.Y⟩ j;rw [hu j hj,at_c hg (by omega) hX hY hj];exact cg2 hrb8.1 hX hY j
 have hs:∀ j,j<8->s.u j<=s.v j:=hs;refine ⟨⟨⟨s.u,s.v,0⟩,⟨hs,lE _⟩,rfl,eight (a:=s.u) (b:=s.u) fun _ _=>rfl,eight (a:=s.v) (b:=s.v) fun _ _=>rfl⟩,fun q hq hlt=>?_⟩;obtain ⟨hq,hj⟩:(∀ j,j<8->q.u j<=q.v j)/\q.j<=8:=hq;have hj8:q.j<8:=by omega
 have:=hq q.j hj8
 exact ⟨by omega,fun h=>h hj8,by omega,fun h=>h hj8,fun h=>by omega,fun _=>⟨by omega,⟨q.u,q.v,q.j+1⟩,⟨hq,hj8⟩,⟨rfl,eight (a:=q.u) (b:=q.u) fun _ _=>rfl,eight (a:=q.v) (b:=q.v) fun _ _=>rfl⟩,by show 8-(q.j+1)<8-q.j; omega⟩⟩
end Trl
end Go.Proofs.Ytbkgncikjhibiaa
