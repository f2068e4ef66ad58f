/- Part 11 of the texts that the law's proof leans on. -/
import Derived.Test.YthappngbapbkfaaGreatM10
namespace Go.Proofs.YthappngbapbkfaaGreat
set_option linter.unusedSimpArgs false
set_option linter.unusedVariables false
namespace Fls
open Gar Rgc
open Go.RowKit Sx Num Aff Afi Img Imh Imp Imq Rga Rgl Rgn Blend Ble Lsg Lta Lrd Lri Luc Lck Lgr Lcs Lst Lch Lcl Lgp Lsc Cmp Lpm Lpa Lpr Lbt Lpn Lpc Lpd Lpe Lpf Lto Lat Lun Ltp Gat Apl Apt Ofl Ftp Ftq Fpc
set_option maxRecDepth 100000
structure NmG where
 n:Nat
 f:Nat->ByteArray
def nmX (g:NmG):SV:= .sl g.n 1 (fun i _=> .str (g.f i))
def nmD:SV->NmG
 | .sl n _ f=>⟨n,fun i=>strOf (f i 0)⟩
 | _=>⟨0,fun _=>ByteArray.empty⟩
def b04:FSpec:=aa3 31 (γ:=NmG) (fun | [s]=>some (nmD s) | _=>none) (fun g=>[nmX g]) (fun g=>g.n<=4294967296) nmX
theorem b40:aa2 Tryz.prog b04:=by
 refine ssW (specs:=[]) trivial Tryz.func31 (fun g=>(⟨[],[(1,[.nilc 0])]⟩:Ann)) ?_;rintro g hn;refine ab2 (B:=let A:=Sx.Ask;True/\(g.n=(0:Nat)->True/\True/\True/\True/\A (g.n=(0:Nat)))/\True/\True/\True/\True/\A ((0:Nat)+g.n<=(9223372036854775807:Nat)/\((0:Nat)+g.n)*(16:Nat)<=(140737488355328:Nat))/\True/\True/\A ((0:Nat)+g.n=g.n)/\∀ i:Nat,i<g.n->True/\A (g.f (i-(0:Nat))=g.f i)) (by kernel_rfl) ?_;simp only [cln];exact ⟨fun h=>h,⟨by omega,by omega⟩,fun i _=>by rw [ue]⟩
def b03:FSpec:=aa3 32 (γ:=Rg) (fun | [s]=>some ⟨ai9 s,rgD s⟩ | _=>none) (fun g=>[rgS g]) (fun g=>g.n<=4294967296) rgS
theorem b39:aa2 Tryz.prog b03:=by
 refine ssW (specs:=[]) trivial Tryz.func32 (fun g=>(⟨[],[(1,[.nilc 0])]⟩:Ann)) ?_;rintro g hn;refine ab2 (B:=let A:=Sx.Ask;let z1:=(0:Nat);let z0:=(IntKind.i64=IntKind.i64);True/\(g.n=z1->True/\True/\True/\True/\A (g.n=z1))/\True/\True/\True/\True/\A (z1+g.n<=(9223372036854775807:Nat)/\(z1+g.n)*(24:Nat)<=(140737488355328:Nat))/\True/\True/\A (z1+g.n=g.n)/\∀ i:Nat,i<g.n->((True/\A z0/\A ((g.f (i-z1)).y=(g.f i).y))/\A z0/\A ((g.f (i-z1)).x0=(g.f i).x0))/\A z0/\A ((g.f (i-z1)).x1=(g.f i).x1)) (by kernel_rfl) ?_;simp only [cln];exact ⟨fun h=>h,⟨by omega,by omega⟩,fun i _=>by rw [ue]; exact ⟨⟨rfl,rfl⟩,rfl⟩⟩
structure FlG where
 w:Nat
 h:Nat
 ni:Nat
 nm:Nat->ByteArray
 P:Gar.Pcs
def FlG.T (g:FlG):LsG:=⟨g.w,g.h,g.ni,g.nm,0,fun _=>zIt⟩
def FlG.L (g:FlG):LsG:=flL g.T g.P g.P.n
def flO (g:FlG) (i:Nat):List SO:=[.cells 4 (fun _=> .any) 25,.cells 4 (lst [.int .i64 g.w,.int .i64 g.h,nmX ⟨g.ni,g.nm⟩,.osl 2 0]) 25,.row 0 i 34 (fun i=>lst (itL (pcI g.P i))) 50]
def flI (g:FlG):Inv:=⟨Nat,fun i=>i<=g.P.n,fun i=>⟨[(8,.own 0 0),(9,.int .i64 0),(11,.own 1 0),(28,pcS g.P),(29,.int .i64 g.P.n),(30,.int .i64 i)],flO g i⟩,fun i=>g.P.n-i⟩
structure FlG.Ok (g:FlG):Prop where
 c:ChG.Ok ⟨g.w,g.h,g.P⟩
 k:chkL g.T=0
 m:MayL g.T g.P
 nr:∀ i,i<g.P.n->g.P.m i<=4294967296
noncomputable def spFl:FSpec:=aa3 15 (γ:=FlG) (fun | [.int _ w,.int _ h,s,p]=>some ⟨w.toNat,h.toNat,(nmD s).n,(nmD s).f,pcD p⟩ | _=>none) (fun g=>[.int .i64 g.w,.int .i64 g.h,nmX ⟨g.ni,g.nm⟩,pcS g.P]) FlG.Ok (fun g=> .tup 2 (lst [lsS g.L,.int .i64 0]))
set_option maxHeartbeats 1000000 in
theorem ok_fl:aa2 Tryz.prog spFl:=by
 refine ssW (specs:=[bf1,b04,b03,giv be7]) (⟨bw4,b40,b39,bO6 a95,trivial⟩) Tryz.func15 (fun g=>(⟨[(6,.inv (flI g))],[(5,[.ownC 1 3 50 34])]⟩:Ann)) ?_;rintro g hg;refine ab2 (B:=let K:=IntKind.i64;let A:=Sx.Ask;let z49:=((((True/\True)/\True)/\True)/\True);let z48:=(g.ni=g.ni);let z45:=(7:Nat);let z44:=(6:Nat);let z43:=(5:Nat);let z42:=(4:Nat);let z41:=(3:Nat);let z39:=(↑g.h:Int);let z38:=(↑g.w:Int);let z37:=(↑g.P.n:Int);let z34:=(255:Int);let z33:=(8:Nat);let z31:=(false=false);let z27:=(33:Nat);let z26:=(32:Nat);let z25:=(31:Nat);let z24:=(28:Nat);let z23:=(27:Nat);let z22:=(20:Nat);let z21:=(19:Nat);let z20:=(16:Nat);let z18:=(29:Nat);let z15:=(SV.lit false);let z10:=(2:Nat);let z9:=(SV.int IntKind.u8 z34);let z8:=(1:Nat);let z5:=(34:Nat);let z4:=(IntKind.u8=IntKind.u8);let q4:=fun p:Int=>A z4/\A (p=p);let z3:=(K=K);let q3:=fun p:Int=>A z3/\A (p=p);let z13:=((True/\q3 z38)/\q3 z39);let z1:=(0:Nat);let z46:=(z1=z1);let z2:=(A (g.P.n=g.P.n)/\∀ i:Nat,i<g.P.n->(chp (True/\A (g.P.m i=g.P.m i)/\∀ i_1:Nat,let z40:=(g.P.p i i_1); i_1<g.P.m i->((True/\q3 z40.y)/\q3 z40.x0)/\q3 z40.x1) (fun j:Nat=>q4 (g.P.ink i j)) 7)/\q4 (g.P.ink i z45));let z0:=(0:Int);let z11:=(z0=z0);let z36:=(True/\A z3/\A z11);let z17:=(((((((True/\A z4/\A z11)/\A z4/\A z11)/\A z4/\A z11)/\A z4/\A z11)/\A z4/\A z11)/\A z4/\A z11)/\A z4/\A z11);let z16:=(((((((z36/\A z4/\A z11)/\A z4/\A z11)/\A z4/\A z11)/\A z4/\A z11)/\A z4/\A z11)/\A z4/\A z11)/\A z4/\A z11);True/\True/\True/\True/\True/\(((A z3/\A (z38=(↑z38.toNat:Int)))/\(A z3/\A (z39=(↑z39.toNat:Int)))/\z2/\True)/\A (ChG.mk z38.toNat z39.toNat g.P).Ok)/\True/\True/\True/\True/\True/\True/\(((A z48/\∀ i:Nat,i<g.ni->True/\A (g.nm i=Lsg.strOf (SV.str (g.nm i))))/\True)/\A (g.ni<=(4294967296:Nat)))/\True/\True/\True/\True/\True/\True/\(∃ g_1:Nat,A ((flI g).pre g_1)/\(A z46/\(A z3/\A z11)/\A z46/\z2/\(q3 z37)/\(A z3/\A (z0=(↑g_1:Int)))/\True)/\z49/\((z13/\A z48/\∀ i:Nat,i<g.ni->True/\A (Lsg.strOf (SV.str (g.nm i))=g.nm i))/\True)/\(A (z1=g_1)/\∀ i:Nat,i<g_1->(((((((((((((((((((((((((((((((((True/\False)/\False)/\False)/\False)/\False)/\False)/\False)/\False)/\False)/\False)/\False)/\False)/\False)/\False)/\False)/\False)/\False)/\False)/\False)/\False)/\False)/\False)/\False)/\False)/\False)/\False)/\False)/\False)/\False)/\False)/\False)/\False)/\False)/\False)/\True)/\∀ g_1:Nat,let z12:=(↑g_1:Int);let z7:=(LsG.mk z38 z39 g.ni (fun (i:Nat)=>Lsg.strOf (SV.str (g.nm i))) g_1 fun (i:Nat)=>Lsg.It.mk z0 (g.P.m i) (g.P.p i) (Lsg.Src.mk z0 (Ink.mk (g.P.ink i z1) (g.P.ink i z8) (g.P.ink i z10) (g.P.ink i z41) (g.P.ink i z42) (g.P.ink i z43) (g.P.ink i z44) (g.P.ink i z45)) z0 z0 z0 z0 z0 z1 (fun (i:Nat)=>Stp.mk z0 (Ink.mk z0 z0 z0 z0 z0 z0 z0 z0)) (ImgG.mk z0 z0 z1 (fun (i:Nat)=>Ink.mk z0 z0 z0 z0 z0 z0 z0 z0) z1 (fun (x:Nat)=>z0) (Mat.mk z0 z0 z0 z0 z0 z0) false false)) z34 z0 false false false); (flI g).pre g_1->True/\Br (decide (z12<z37)) (A (z0<=z12/\z12<z37)/\True/\True/\True/\True/\True/\True/\True/\(((A (g.P.m z12.toNat=g.P.m z12.toNat)/\∀ i:Nat,let z32:=(g.P.p z12.toNat i); i<g.P.m z12.toNat->((True/\q3 z32.y)/\q3 z32.x0)/\q3 z32.x1)/\True)/\A (g.P.m z12.toNat<=(4294967296:Nat)))/\True/\True/\True/\True/\True/\A (g_1+z8<=(9223372036854775807:Nat)/\(g_1+z8)*(256:Nat)<=(140737488355328:Nat))/\True/\True/\A ((-9223372036854775808:Int)<=z12+(1:Int)/\z12+(1:Int)<=(9223372036854775807:Int))/\True/\∃ (g':Nat),A ((flI g).pre g')/\((A z46/\(A z3/\A z11)/\A z46/\z2/\(q3 z37)/\(A z3/\A (z12+(1:Int)=(↑g':Int)))/\True)/\z49/\((z13/\A z48/\∀ i:Nat,i<g.ni->True/\A (g.nm i=g.nm i))/\True)/\(A (g_1+z8=g')/\∀ i:Nat,let z30:=(i<g_1);let z35:=(decide z30);let z14:=(itL (Ftq.pcI g.P i));let z6:=((bif decide z30 then z0 else z0)=z0); i<g'->(((((((((((((((((((((((((((((((((True/\A z3/\A z6)/\A ((bif decide z30 then g.P.m i else g.P.m z12.toNat)=g.P.m i)/\∀ i_1:Nat,let z50:=(g.P.p z12.toNat i_1);let z28:=((Ftq.pcI g.P i).runs i_1); i_1<g.P.m i->((True/\A z3/\A ((bif decide z30 then z28.y else z50.y)=z28.y))/\A z3/\A ((bif decide z30 then z28.x0 else z50.x0)=z28.x0))/\A z3/\A ((bif decide z30 then z28.x1 else z50.x1)=z28.x1))/\A z3/\A z6)/\A z4/\A ((bif decide z30 then g.P.ink i z1 else g.P.ink z12.toNat z1)=g.P.ink i z1))/\A z4/\A ((bif decide z30 then g.P.ink i z8 else g.P.ink z12.toNat z8)=g.P.ink i z8))/\A z4/\A ((bif decide z30 then g.P.ink i z10 else g.P.ink z12.toNat z10)=g.P.ink i z10))/\A z4/\A ((bif decide z30 then g.P.ink i z41 else g.P.ink z12.toNat z41)=g.P.ink i z41))/\A z4/\A ((bif decide z30 then g.P.ink i z42 else g.P.ink z12.toNat z42)=g.P.ink i z42))/\A z4/\A ((bif decide z30 then g.P.ink i z43 else g.P.ink z12.toNat z43)=g.P.ink i z43))/\A z4/\A ((bif decide z30 then g.P.ink i z44 else g.P.ink z12.toNat z44)=g.P.ink i z44))/\A z4/\A ((bif decide z30 then g.P.ink i z45 else g.P.ink z12.toNat z45)=g.P.ink i z45))/\A z3/\A z6)/\A z3/\A z6)/\A z3/\A z6)/\A z3/\A z6)/\A z3/\A z6)/\SVle [] [] (selS z35 (lst z14 z20) (selS (decide (z1*z5<=z20/\z20<z1*z5+(34:Nat))) (selS (decide (z18<=z20-z1*z5/\z20-z1*z5<z18+z8)) z9 (selS (decide (z10<=z20-z1*z5/\z20-z1*z5<z10+(27:Nat))) (selS (decide (z8<=z20-z1*z5-z10/\z20-z1*z5-z10<z8+z33)) (pcC g.P z12.toNat (z1+(z1+z8+(z20-z1*z5-z10-z8)))) SV.cap0) SV.cap0)) SV.cap0)) (lst z14 z20))/\A z3/\A z6)/\A z3/\A z6)/\SVle [] [] (selS z35 (lst z14 z21) (selS (decide (z1*z5<=z21/\z21<z1*z5+(34:Nat))) (selS (decide (z18<=z21-z1*z5/\z21-z1*z5<z18+z8)) z9 (selS (decide (z10<=z21-z1*z5/\z21-z1*z5<z10+(27:Nat))) (selS (decide (z8<=z21-z1*z5-z10/\z21-z1*z5-z10<z8+z33)) (pcC g.P z12.toNat (z1+(z1+z8+(z21-z1*z5-z10-z8)))) SV.cap0) SV.cap0)) SV.cap0)) (lst z14 z21))/\SVle [] [] (selS z35 (lst z14 z22) (selS (decide (z1*z5<=z22/\z22<z1*z5+(34:Nat))) (selS (decide (z18<=z22-z1*z5/\z22-z1*z5<z18+z8)) z9 (selS (decide (z10<=z22-z1*z5/\z22-z1*z5<z10+(27:Nat))) (selS (decide (z8<=z22-z1*z5-z10/\z22-z1*z5-z10<z8+z33)) (pcC g.P z12.toNat (z1+(z1+z8+(z22-z1*z5-z10-z8)))) SV.cap0) SV.cap0)) SV.cap0)) (lst z14 z22))/\A z3/\A z6)/\A z3/\A z6)/\A z3/\A z6)/\A z3/\A z6)/\A z3/\A z6)/\A z3/\A z6)/\SVle [] [] (selS z35 (lst z14 z23) (selS (decide (z1*z5<=z23/\z23<z1*z5+(34:Nat))) (selS (decide (z18<=z23-z1*z5/\z23-z1*z5<z18+z8)) z9 (selS (decide (z10<=z23-z1*z5/\z23-z1*z5<z10+(27:Nat))) (selS (decide (z8<=z23-z1*z5-z10/\z23-z1*z5-z10<z8+z33)) (pcC g.P z12.toNat (z1+(z1+z8+(z23-z1*z5-z10-z8)))) z15) z15)) z15)) (lst z14 z23))/\SVle [] [] (selS z35 (lst z14 z24) (selS (decide (z1*z5<=z24/\z24<z1*z5+(34:Nat))) (selS (decide (z18<=z24-z1*z5/\z24-z1*z5<z18+z8)) z9 (selS (decide (z10<=z24-z1*z5/\z24-z1*z5<z10+(27:Nat))) (selS (decide (z8<=z24-z1*z5-z10/\z24-z1*z5-z10<z8+z33)) (pcC g.P z12.toNat (z1+(z1+z8+(z24-z1*z5-z10-z8)))) z15) z15)) z15)) (lst z14 z24))/\A z4/\A ((bif decide z30 then z34 else z34)=z34))/\A z3/\A z6)/\SVle [] [] (selS z35 (lst z14 z25) (selS (decide (z1*z5<=z25/\z25<z1*z5+(34:Nat))) (selS (decide (z18<=z25-z1*z5/\z25-z1*z5<z18+z8)) z9 (selS (decide (z10<=z25-z1*z5/\z25-z1*z5<z10+(27:Nat))) (selS (decide (z8<=z25-z1*z5-z10/\z25-z1*z5-z10<z8+z33)) (pcC g.P z12.toNat (z1+(z1+z8+(z25-z1*z5-z10-z8)))) SV.any) z15)) z15)) (lst z14 z25))/\SVle [] [] (selS z35 (lst z14 z26) (selS (decide (z1*z5<=z26/\z26<z1*z5+(34:Nat))) (selS (decide (z18<=z26-z1*z5/\z26-z1*z5<z18+z8)) z9 (selS (decide (z10<=z26-z1*z5/\z26-z1*z5<z10+(27:Nat))) (selS (decide (z8<=z26-z1*z5-z10/\z26-z1*z5-z10<z8+z33)) (pcC g.P z12.toNat (z1+(z1+z8+(z26-z1*z5-z10-z8)))) SV.any) z15)) z15)) (lst z14 z26))/\SVle [] [] (selS z35 (lst z14 z27) (selS (decide (z1*z5<=z27/\z27<z1*z5+(34:Nat))) (selS (decide (z18<=z27-z1*z5/\z27-z1*z5<z18+z8)) z9 (selS (decide (z10<=z27-z1*z5/\z27-z1*z5<z10+(27:Nat))) (selS (decide (z8<=z27-z1*z5-z10/\z27-z1*z5-z10<z8+z33)) (pcC g.P z12.toNat (z1+(z1+z8+(z27-z1*z5-z10-z8)))) SV.any) z15)) z15)) (lst z14 z27))/\True)/\A ((flI g).meas g'<(flI g).meas g_1)) (True/\((((z13/\A z48/\∀ i:Nat,i<g.ni->True/\A (g.nm i=Lsg.strOf (SV.str (g.nm i))))/\A (g_1=g_1)/\∀ i:Nat,i<g_1->(((((((((((((((((((((((chp ((z36/\A (g.P.m i=g.P.m i)/\∀ i_1:Nat,let z29:=((Ftq.pcI g.P i).runs i_1); i_1<g.P.m i->((True/\q3 z29.y)/\q3 z29.x0)/\q3 z29.x1)/\A z3/\A z11) (fun j:Nat=>q4 (g.P.ink i j)) 8)/\A z3/\A z11)/\A z3/\A z11)/\A z3/\A z11)/\A z3/\A z11)/\A z3/\A z11)/\A z46/\∀ i:Nat,i<z1->z16/\A z4/\A z11)/\A z3/\A z11)/\A z3/\A z11)/\A z46/\∀ i:Nat,i<z1->z17/\A z4/\A z11)/\A z46/\∀ i:Nat,i<z1->True/\A z4/\A z11)/\A z3/\A z11)/\A z3/\A z11)/\A z3/\A z11)/\A z3/\A z11)/\A z3/\A z11)/\A z3/\A z11)/\A z31)/\A z31)/\q4 z34)/\A z3/\A z11)/\A z31)/\A z31)/\A z31)/\True)/\A (∀ i:Nat,i<g_1->g.P.m i<=(9223372036854775807:Nat)))/\True/\True/\True/\Br (decide (chkL z7≠z0)) (True/\True/\True/\True/\(True/\True)/\(True/\(((True/\A z3/\A (z0=z38))/\A z3/\A (z0=z39))/\A (g.ni=z1))/\A (g.P.n=z1))/\A z3/\A (chkL z7=z0)) (True/\True/\True/\(True/\True)/\(True/\(z13/\A z48/\∀ i:Nat,i<g.ni->True/\A (g.nm i=g.L.nm i))/\A (g_1=g.P.n)/\∀ i:Nat,i<g.P.n->(((((((((((((((((((((((chp ((z36/\A (g.P.m i=g.P.m i)/\∀ i_1:Nat,let z51:=((g.L.it i).runs i_1);let z47:=((Ftq.pcI g.P i).runs i_1); i_1<g.P.m i->((True/\A z3/\A (z47.y=z51.y))/\A z3/\A (z47.x0=z51.x0))/\A z3/\A (z47.x1=z51.x1))/\A z3/\A z11) (fun j:Nat=>q4 (g.P.ink i j)) 8)/\A z3/\A z11)/\A z3/\A z11)/\A z3/\A z11)/\A z3/\A z11)/\A z3/\A z11)/\A z46/\∀ i:Nat,i<z1->z16/\A z4/\A z11)/\A z3/\A z11)/\A z3/\A z11)/\A z46/\∀ i:Nat,i<z1->z17/\A z4/\A z11)/\A z46/\∀ i:Nat,i<z1->True/\A z4/\A z11)/\A z3/\A z11)/\A z3/\A z11)/\A z3/\A z11)/\A z3/\A z11)/\A z3/\A z11)/\A z3/\A z11)/\A z31)/\A z31)/\q4 z34)/\A z3/\A z11)/\A z31)/\A z31)/\A z31)/\A z3/\A z11))) (by kernel_rfl) ?_;simp only [chp];simp only [cln];have hn:=hg.m.n;have hc:=az4 hg.k;have hni:g.ni<=8:=hc.ni.2;refine ⟨⟨⟨by omega,by omega⟩,hg.c⟩,⟨fun _ _=>rfl,by omega⟩,⟨0,lm _,rfl,fun _ _=>rfl,rfl,fun i hi=>absurd hi (lj _)⟩,fun k hk=>⟨fun hlt=>?_,fun hge=>?_⟩⟩
 ·have hk:k<=g.P.n:=hk;refine ⟨⟨by omega,by omega⟩,hg.nr k (by omega),⟨by omega,by omega⟩,⟨by omega,by omega⟩,k+1,by show k+1<=g.P.n; omega,⟨by omega,rfl,fun i hi=>?_⟩,by show g.P.n-(k+1)<g.P.n-k; omega⟩;by_cases hlt:i<k
  ·simp only [lk hlt,xK];repeat' first | exact rfl | exact ⟨rfl⟩ | exact True.intro | apply And.intro | intro _
  ·obtain rfl:i=k:=by omega
   simp only [li hlt,xm];repeat' first | exact rfl | exact ⟨rfl⟩ | exact True.intro | apply And.intro | intro _
 ·have hk:k<=g.P.n:=hk;obtain rfl:k=g.P.n:=by omega
  have h0:chkL (flL g.T g.P g.P.n)=0:=bi4 hg.k hg.m g.P.n (lh _);exact ⟨⟨fun _ _=>rfl,fun i hi=>by have:=hg.nr i hi; omega⟩,fun hc=>absurd h0 hc,fun _=>⟨fun _ _=>rfl,rfl,fun i _ j _=>⟨⟨rfl,rfl⟩,rfl⟩⟩⟩
structure PcG where
 m:Nat
 p:Nat->Rn
 v:Ink
def pcX (g:PcG) (j:Nat):SV:=match j with
 | 0=> .sl g.m 3 (fun k=>lst (rnL (g.p k)))
 | j+1=>lst (inkL g.v) j
def bK3:FSpec:=aa3 17 (γ:=PcG) (fun | [.agg _ x,_]=>some ⟨ai9 (x 0),rgD (x 0),⟨Sx.intOf (x 1),Sx.intOf (x 2),Sx.intOf (x 3),Sx.intOf (x 4),Sx.intOf (x 5),Sx.intOf (x 6),Sx.intOf (x 7),Sx.intOf (x 8)⟩⟩ | _=>none) (fun g=>[.agg 9 (pcX g),.agg 9 (pcX g)]) (fun g=>vld (Rg.L ⟨g.m,g.p⟩)) (fun _=> .bool true)
theorem bR9:aa2 Tryz.prog bK3:=by
 refine seW (specs:=[bZ9]) ⟨Rgc.b34,trivial⟩ (eqs:=eqI) bi2 Tryz.func17 (fun g=>A0) ?_;rintro g hg;refine ab2 (B:=let A:=Sx.Ask;let z1:=(IntKind.i64=IntKind.i64);let q1:=fun p:Int=>A z1/\A (p=p);let z0:=(A (g.m=g.m)/\∀ i:Nat,i<g.m->((True/\q1 ((g.p i).y))/\q1 ((g.p i).x0))/\q1 ((g.p i).x1));True/\True/\True/\True/\True/\True/\True/\True/\True/\Br (decide (g.v.c0=g.v.c0)&&(decide (g.v.c1=g.v.c1)&&(decide (g.v.c2=g.v.c2)&&(decide (g.v.c3=g.v.c3)&&(decide (g.v.c4=g.v.c4)&&(decide (g.v.c5=g.v.c5)&&(decide (g.v.c6=g.v.c6)&&(decide (g.v.c7=g.v.c7)&&true)))))))) (True/\True/\True/\True/\((z0/\z0/\True)/\A (EqG.mk (Rg.mk g.m g.p) (Rg.mk g.m g.p)).ok)/\True/\True/\True/\A (true=true)) (True/\True/\True/\A (false=true))) (by kernel_rfl) ?_;simp only [cln];exact ⟨fun _=>⟨hg,rfl⟩,fun hc=>by simp at hc⟩
def eqfI (P:Gar.Pcs):Inv:=⟨Nat,fun i=>i<=P.n,fun i=>⟨[(0,pcS P),(1,pcS P),(2,.fn 17 0 (fun _=> .any)),(15,pcS P),(16,.int .i64 P.n),(17,.int .i64 i)],[]⟩,fun i=>P.n-i⟩
def b00:FSpec:=aa3 16 (γ:=Gar.Pcs) (fun | [p,_,_]=>some (pcD p) | _=>none) (fun P=>[pcS P,pcS P,.fn 17 0 (fun _=> .any)]) (fun P=>P.n<=4294967296/\∀ k,k<P.n->vld (Rg.L ⟨P.m k,P.p k⟩)) (fun _=> .bool true)
theorem b35:aa2 Tryz.prog b00:=by
 refine ssW (specs:=[bK3]) (⟨bR9,trivial⟩) Tryz.func16 (fun g=>(⟨[(4,.inv (eqfI g))],[]⟩:Ann)) ?_;rintro g hg;refine ab2 (B:=let T6:=fun p:Prop=>True/\True/\True/\True/\True/\True/\p;let A:=Sx.Ask;let z7:=(A ((17:Go.FuncId)=(17:Go.FuncId))/\True);let z5:=(↑g.n:Int);let z4:=(IntKind.i64=IntKind.i64);let q4:=fun p:Int=>A z4/\A (p=p);let z2:=(IntKind.u8=IntKind.u8);let q2:=fun p:Int=>A z2/\A (p=p);let z0:=(A (g.n=g.n)/\∀ i:Nat,i<g.n->(chp (True/\A (g.m i=g.m i)/\∀ i_1:Nat,let z8:=(g.p i i_1); i_1<g.m i->((True/\q4 z8.y)/\q4 z8.x0)/\q4 z8.x1) (fun j:Nat=>q2 (g.ink i j)) 7)/\q2 (g.ink i (7:Nat)));T6 (Br (decide (z5≠z5)) (True/\True/\A (false=true)) (True/\True/\True/\(∃ g_1:Nat,A ((eqfI g).pre g_1)/\(z0/\z0/\z7/\z0/\(q4 z5)/\(A z4/\A ((0:Int)=(↑g_1:Int)))/\True)/\True)/\∀ g_1:Nat,let z3:=(↑g_1:Int);let z1:=(chp (True/\A (g.m z3.toNat=g.m z3.toNat)/\∀ i:Nat,let z6:=(g.p z3.toNat i); i<g.m z3.toNat->((True/\q4 z6.y)/\q4 z6.x0)/\q4 z6.x1) (fun j:Nat=>q2 (g.ink z3.toNat j)) 8); (eqfI g).pre g_1->True/\Br (decide (z3<z5)) (True/\A ((0:Int)<=z3/\z3<z5)/\T6 (A ((0:Int)<=z3/\z3<z5)/\T6 (((z1/\z1/\True)/\A (vld (Rg.mk (g.m z3.toNat) (g.p z3.toNat)).L))/\True/\A ((-9223372036854775808:Int)<=z3+(1:Int)/\z3+(1:Int)<=(9223372036854775807:Int))/\True/\∃ (g':Nat),A ((eqfI g).pre g')/\((z0/\z0/\z7/\z0/\(q4 z5)/\(A z4/\A (z3+(1:Int)=(↑g':Int)))/\True)/\True)/\A ((eqfI g).meas g'<(eqfI g).meas g_1)))) (True/\True/\A (true=true))))) (by kernel_rfl) ?_;simp only [chp];simp only [cln];obtain ⟨hn,hv⟩:=hg;refine ⟨fun hc=>absurd trivial hc,fun _=>⟨⟨0,lm _,rfl⟩,fun k hk hlt=>?_⟩⟩;have hk:k<=g.n:=hk;exact ⟨⟨by omega,by omega⟩,⟨by omega,by omega⟩,hv k (by omega),⟨by omega,by omega⟩,k+1,by show k+1<=g.n; omega,by omega,by show g.n-(k+1)<g.n-k; omega⟩
end Fls
set_option linter.unusedSimpArgs false
set_option linter.unusedVariables false
namespace Ftr
open Gar Lrw
open Go.RowKit Sx Num Aff Afi Img Imh Imp Imq Rga Rgl Rgn Lsg Lta Lrd Lri Luc Lck Lgr Lcs Lst Lch Lcl Lgp Lsc Cmp Lpm Lpa Lpr Lbt Lpn Lpc Lpd Lpe Lpf Lto Lat Lun Ltp Gat Apl Apt Ofl Ftp Ftq Fpc Lsh
theorem aW1 {P:Gar.Pcs}{k:Nat}{x y:Int}:covR (P.p k) (P.m k) x y<->mem (Pcs.L P k) y x=true:=by
 rw [mem_iff];unfold covR Pcs.L Lf;constructor
 ·rintro ⟨j,hj,h⟩;exact ⟨P.p k j,xx.2 ⟨j,lS.2 hj,rfl⟩,h⟩
 ·rintro ⟨r,hr,h⟩;obtain ⟨j,hj,rfl⟩:=xx.1 hr;exact ⟨j,lS.1 hj,h⟩
theorem rg_of {m:Nat}{p:Nat->Rn}(h:vld (Lf p m)):aj0 ⟨m,p⟩=0:=by
 have h1:=bu1 h;unfold aj0 at h1 ⊢;simp only [aE4] at h1;rw [<-h1];refine aQ2 _ _ fun j _ hj=>?_
 have hj:j<m:=by simpa using hj
 unfold rgE;rw [aR8 p (by omega:j<m),aR8 p (by omega:j-1<m)]
theorem bx9 {u v:Vec}(h:Gat.kOf u=Gat.kOf v) {j:Nat}(hj:j<8):u j=v j:=by
 simp only [Gat.kOf,List.cons.injEq,xC] at h;obtain ⟨h0,h1,h2,h3,h4,h5,h6,h7⟩:=h;match j,hj with
 | 0,_=>exact h0
 | 1,_=>exact h1
 | 2,_=>exact h2
 | 3,_=>exact h3
 | 4,_=>exact h4
 | 5,_=>exact h5
 | 6,_=>exact h6
 | 7,_=>exact h7
theorem b47 {u:Vec}(h:Gat.kOf u=nul) {j:Nat}(hj:j<8):u j=0:=bx9 (v:=fun _=>0) h hj
set_option linter.unusedSectionVars false
section
variable {T:LsG}(h0:chkL T=0) (hs:256*T.w.toNat*T.h.toNat<=4096)
include h0 hs
theorem pi_P:piP T=Gar.Gt.P (ofA (piO T)):=by rw [bR1]; exact lg h0
theorem a90:OfOK (piO T) (piP T):=by
 have hc:=az4 h0;have hw:=hc.w;have hh:=hc.h;rw [pi_P h0 hs];exact of_ok (g:=piO T) ⟨by show 1<=T.w.toNat; omega,by show T.w.toNat<=256; omega⟩ ⟨by show 1<=T.h.toNat; omega,by show T.h.toNat<=256; omega⟩ hs
theorem pi_0:piE T=0:=by
 rw [bu9];refine (lg h0).trans ?_;rw [(a90 h0 hs).n];rfl
theorem bu8:MayL T (piP T):=by
 have O:=a90 h0 hs;refine ⟨O.c.P.n,fun k hk=>rg_of (O.c.P.v k hk),fun k hk j h1 h2=>?_⟩;obtain ⟨i,hi⟩:=O.from' k hk;rw [hi];exact lb (by omega)
theorem bc7 {i:Nat}(hi:i<256*T.w.toNat*T.h.toNat):ck (pgV T) (16*T.w.toNat) ((i / (16*T.w.toNat):Nat):Int) ((i % (16*T.w.toNat):Nat):Int)=Gat.kOf (pgV T i)/\
  (((0:Int)<=((i / (16*T.w.toNat):Nat):Int)/\((i / (16*T.w.toNat):Nat):Int)<16*(T.h.toNat:Int))/\(0:Int)<=((i % (16*T.w.toNat):Nat):Int)/\((i % (16*T.w.toNat):Nat):Int)<16*(T.w.toNat:Int)):=by
 have hc:=az4 h0;have hw:=hc.w;have hp:0<16*T.w.toNat:=by omega
 have h1:=um i hp;have h2:i / (16*T.w.toNat)<16*T.h.toNat:=Nat.div_lt_of_lt_mul (by
  have:256*T.w.toNat*T.h.toNat=16*T.w.toNat*(16*T.h.toNat):=by grind
  omega)
 have key:∀ q r:Nat,q<16*T.h.toNat->r<16*T.w.toNat->(((0:Int)<=(q:Int)/\(q:Int)<16*(T.h.toNat:Int))/\(0:Int)<=(r:Int)/\(r:Int)<16*(T.w.toNat:Int)):=fun q r h1 h2=>⟨⟨by omega,by omega⟩,by omega,by omega⟩
 refine ⟨?_,key _ _ h2 h1⟩;unfold ck;rw [lw,lw,Nat.mul_comm,Nat.div_add_mod]
theorem aY1 {k:Nat}(hk:k<(piP T).n):∃ i,i<256*T.w.toNat*T.h.toNat/\Gat.kOf (pgV T i)=Gat.kOf ((piP T).ink k):=by
 have O:=a90 h0 hs;have hm:=O.c.P.ne k hk;have hv:=O.c.P.v k hk;have hok:=(hv.1 ((piP T).p k 0) (aF0 hm)).2;have hme:mem (Pcs.L (piP T) k) ((piP T).p k 0).y ((piP T).p k 0).x0=true:=aW1.1 ⟨0,hm,rfl,xN _,hok⟩;obtain ⟨⟨hy,hx⟩,e⟩:=(O.m k hk _ _).1 hme;generalize ((piP T).p k 0).y=y at hy e;generalize ((piP T).p k 0).x0=x at hx e;have hy:0<=y/\y<16*(T.h.toNat:Int):=hy;have hx:0<=x/\x<16*(T.w.toNat:Int):=hx;refine ⟨y.toNat*(16*T.w.toNat)+x.toNat,?_,e⟩;have h1:(y.toNat+1)*(16*T.w.toNat)<=16*T.h.toNat*(16*T.w.toNat):=ll _ (by omega);have h2:16*T.h.toNat*(16*T.w.toNat)=256*T.w.toNat*T.h.toNat:=by grind
 rw [lK,lah] at h1;omega
theorem b61 (hu:LsU8 T) {k:Nat}(hk:k<(piP T).n) {j:Nat}(hj:j<8):0<=(piP T).ink k j/\(piP T).ink k j<=255:=by
 obtain ⟨i,hi,e⟩:=aY1 h0 hs hk;rw [<-bx9 e hj];have hc:=az4 h0;have hw:=hc.w;have hh:=hc.h;have hg:=bN8 hc hu;obtain ⟨_,hy,hx⟩:=bc7 h0 hs hi;unfold pgV am4;split
 ·exact aT3 hg.kid ⟨⟨by omega,by omega⟩,by omega,by omega⟩ (fun j=>by unfold ad5; split<;>decide) (lh _) _
 ·decide
theorem fl_u8 (hu:LsU8 T):LsU8 (flL T (piP T) (piP T).n):=by
 have O:=a90 h0 hs;refine ⟨fun _ _=>⟨show (0:Int)<=255 by decide,show (255:Int)<=255 by decide⟩,fun k hk=>?_,fun _ _ j hj=>absurd hj (lj j),fun _ _ j hj=>absurd hj (lj j),fun _ _ j hj=>absurd hj (lj j),fun k hk=>?_⟩
 ·have a:=fun j (hj:j<8)=>b61 h0 hs hu hk hj
  exact ⟨⟨a 0 (by decide),a 1 (by decide),a 2 (by decide),a 3 (by decide)⟩,a 4 (by decide),a 5 (by decide),a 6 (by decide),a 7 (by decide)⟩
 ·have:=aS0 (O.c.P.v k hk)
  rw [show (Pcs.L (piP T) k).length=(piP T).m k from aE4 _ _] at this;show (piP T).m k<=_;omega
theorem bp3 {i:Nat}(hi:i<256*T.w.toNat*T.h.toNat):pgV (flL T (piP T) (piP T).n) i=pgV T i:=by
 have O:=a90 h0 hs;have hm:=bu8 h0 hs;have hni:=(az4 h0).ni;obtain ⟨e,hd⟩:=bc7 h0 hs hi;funext j;show am4 (ndP (flL T (piP T) (piP T).n)) T.ni _ _ j=am4 (ndP T) T.ni _ _ j;by_cases hj:j<T.ni
 ·have hT:pgV T i j=ag7 (ndP T) ((i % (16*T.w.toNat):Nat):Int) ((i / (16*T.w.toNat):Nat):Int) (1+j):=lg hj;unfold am4;rw [lg hj,lg hj,<-hT];show ag7 (ndP (flL T (piP T) (piP T).n)) ((i % (16*T.w.toNat):Nat):Int) ((i / (16*T.w.toNat):Nat):Int) (1+j)=pgV T i j;obtain ⟨f1,f2⟩:=bB5 h0 hm ((i % (16*T.w.toNat):Nat):Int) ((i / (16*T.w.toNat):Nat):Int) (piP T).n (lh _);by_cases hz:Gat.kOf (pgV T i)=nul
  ·rw [b47 hz (by omega)];refine f1 j (by omega) fun k hk hcv=>O.c.nz k hk ?_
   rw [<-((O.m k hk _ _).1 (aW1.1 hcv)).2];exact e.trans hz
  ·obtain ⟨k,hk,hke⟩:=O.cov _ _ hd (by show ck (pgV T) (16*T.w.toNat) _ _≠_; rw [e]; exact hz);have hke:Gat.kOf ((piP T).ink k)=Gat.kOf (pgV T i):=hke.trans e;have hcv:=aW1.2 ((O.m k hk _ _).2 ⟨hd,e.trans hke.symm⟩);rw [f2 k hk hcv (fun q hq hqc=>?_) j (by omega)]
   ·exact bx9 hke (by omega)
   ·have hqe:=((O.m q hq _ _).1 (aW1.1 hqc)).2;have hqe:Gat.kOf ((piP T).ink q)=Gat.kOf ((piP T).ink k):=(hqe.symm.trans e).trans hke.symm;rcases uy q k with h | h | h
    ·exact absurd hqe (O.c.P.dist q k h hk)
    ·exact h
    ·exact absurd hqe.symm (O.c.P.dist k q h hq)
 ·unfold am4;rw [lb hj,lb hj]
theorem bE9:chkL (flL T (piP T) (piP T).n)=0/\piP (flL T (piP T) (piP T).n)=piP T:=by
 have hM:chkL (flL T (piP T) (piP T).n)=0:=bi4 h0 (bu8 h0 hs) _ (lh _);refine ⟨hM,?_⟩;rw [pi_P (T:=flL T (piP T) (piP T).n) hM hs,pi_P h0 hs,Gar.of_eq];congr 1;show ofR (pgV (flL T (Gar.Gt.P (ofB (piO T))) _)) (16*T.w.toNat) (16*T.h.toNat)=ofR (pgV T) (16*T.w.toNat) (16*T.h.toNat);refine aZ5 _ fun i hi=>?_
 have h2:16*T.h.toNat*(16*T.w.toNat)=256*T.w.toNat*T.h.toNat:=by grind
 have:=bp3 h0 hs (i:=i) (by omega)
 rw [pi_P h0 hs,Gar.of_eq] at this;exact this
end
def fsG:PlnG:=⟨1,1,⟨7,0,0,0,0,0,0,0⟩⟩
theorem bh7:chkL (plL fsG)=0:=by kernel_rfl
theorem fs_u8:LsU8 (plL fsG):=pl_u8 (by unfold fsG u8i; decide) (by decide)
theorem bH8:((List.range 256).all fun i=>decide (Gat.kOf (pgV (plL fsG) i)=[7,0,0,0,0,0,0,0]))=true:=by kernel_rfl
theorem bz5 {i:Nat}(h:i<256):Gat.kOf (pgV (plL fsG) i)=[7,0,0,0,0,0,0,0]:=xO (lY.1 bH8 i (lS.2 h))
theorem b68:piE (plL fsG)=0/\(piP (plL fsG)).n=1:=by
 have hs:256*(plL fsG).w.toNat*(plL fsG).h.toNat<=4096:=by decide
 have O:=a90 bh7 hs;refine ⟨pi_0 bh7 hs,?_⟩;have all:∀ k,k<(piP (plL fsG)).n->Gat.kOf ((piP (plL fsG)).ink k)=[7,0,0,0,0,0,0,0]:=fun k hk=>by
  obtain ⟨i,hi,e⟩:=aY1 bh7 hs hk;exact e.symm.trans (bz5 hi)
 have hlt:0<(piP (plL fsG)).n:=by
  obtain ⟨e,hd⟩:=bc7 bh7 hs (i:=0) (by decide);obtain ⟨k,hk,_⟩:=O.cov _ _ hd (by show ck (pgV (plL fsG)) (16*(plL fsG).w.toNat) _ _≠_; rw [e,bz5 (by decide)]; decide);omega
 have hle:¬ 1<(piP (plL fsG)).n:=fun hc=>O.c.P.dist 0 1 (by decide) hc ((all 0 hlt).trans (all 1 hc).symm)
 omega
end Ftr
namespace Sx
open Go.RowKit
end Sx
set_option linter.unusedSimpArgs false
set_option linter.unusedVariables false
namespace Sx
open Go.RowKit
theorem R_sl {α:Type}{c:α->List Value}{sz:Nat}{w:World}{X:Nat->Prop}{v:Value}{xs:List α}{g:Nat->Nat->SV}(hsz:0<sz) (h:Sl c sz w v xs) (hX:∀ b,¬ X b)
  (hR:∀ i j (hi:i<xs.length),j<sz->∃ u,(c xs[i])[j]?=some u/\ab0 u/\R w X E0 (g i j) u):R w X E0 (.sl xs.length sz g) v:=by
 obtain ⟨p,cap,rfl,h1,h2,h3⟩:=h;by_cases h0:xs=[]
 ·subst h0; exact .sl0
 rcases h3 with h3 | ⟨b,off,rfl,am6⟩
 ·exact absurd h3 h0
 have hpos:0<xs.length:=List.length_pos_iff.2 h0;obtain ⟨u0,hu0,_⟩:=hR 0 0 hpos hsz;have hcell0:=(am6 0 0 hpos hsz).trans hu0;cases hb:w.heap[b]? with
 | none=>simp [World.cell?,hb] at hcell0
 | some o=>
  cases o<;>simp only [World.cell?,hb,reduceCtorEq] at hcell0<;>try (simp at hcell0; done)
  rename_i cc T fr;have hget:∀ i j (hi:i<xs.length),j<sz->off+i*sz+j<cc.size/\∃ u,cc.getD (off+i*sz+j) undef=u/\ab0 u/\R w X E0 (g i j) u:=by
   intro i j hi hj;obtain ⟨u,hu1,hu2,hu3⟩:=hR i j hi hj;have h4:=(am6 i j hi hj).trans hu1;simp only [World.cell?,hb,Option.isSome_none,lL,xE] at h4;have hlt:off+i*sz+j<cc.size:=by
    refine lC fun hc=>?_
    rw [uR (xF.1 hc)] at h4;cases h4
   refine ⟨hlt,u,?_,hu2,hu3⟩;rw [lc,h4];rfl
  have hlast:=(hget (xs.length-1) (sz-1) (by omega) (by omega)).1;have e1:(xs.length-1)*sz+sz=xs.length*sz:=by
   obtain ⟨m,hm⟩:∃ m,xs.length=m+1:=⟨xs.length-1,by omega⟩
   rw [hm,Nat.add_sub_cancel,Nat.succ_mul]
  refine .sl hb (hX b) (by omega) h1 (fun i j hi hj=>?_) fun i j hi hj=>?_
  ·obtain ⟨_,u,hu,hu2,_⟩:=hget i j hi hj;rw [hu]; exact hu2
  ·obtain ⟨_,u,hu,_,hu3⟩:=hget i j hi hj;rw [hu]; exact hu3
theorem aP5 {P:Program}{w:World}{t:TypeId}{k:IntKind}(ht:P.underlying t=some (.int k)):∀ (n:Nat) (cs:List Value),All2 (Leaf P w) (List.replicate n t) cs->
  (cs.map fun v=>intOf (ofV v)).map (Value.int k)=cs/\(cs.map fun v=>intOf (ofV v)).length=n/\∀ x∈cs.map fun v=>intOf (ofV v),(Lit.int k x).wf=true
 | 0,cs,h=>by
  obtain rfl:=All2.a97 h
  exact ⟨rfl,rfl,fun x hx=>absurd hx (by simp)⟩
 | n+1,cs,h=>by
  obtain ⟨y,m,rfl,e1,l1⟩:=All2.cons_inv h;obtain ⟨z,rfl,hw⟩:=aG0 ht e1;obtain ⟨h1,h2,h3⟩:=aP5 ht n m l1;refine ⟨?_,by simp only [uf,xL]; rw [h2],fun x hx=>?_⟩
  ·simp only [uf];rw [h1];rfl
  ·simp only [uf,lP] at hx;rcases hx with rfl | hx
   ·exact hw
   ·exact h3 x hx
theorem aJ8 {P:Program}{w:World}{T e t:TypeId}{v:Value}{k:IntKind}(n:Nat) (hu:P.underlying T=some (.slice e)) (ht:P.underlying t=some (.int k)) (hk:P.cellsOf e=n) (hn:0<n)
  (hl:leaves P 20 e=some (List.replicate n t)) (h:Leaf P w T v) :
  ∃ (len:Nat) (f:Nat->Nat->Int),(∀ g:Nat->Nat->SV,(∀ i j,j<n->g i j = .int k (f i j))->R w (fun _=>False) E0 (.sl len n g) v)/\(∀ i j,i<len->j<n->(Lit.int k (f i j)).wf=true)/\len<=maxLen:=by
 obtain ⟨xs,h3,h4,h5⟩:=at3 (c:=fun l:List Int=>l.map (Value.int k)) (mk:=fun cs=>cs.map fun v=>intOf (ofV v)) (ok:=fun l=>l.length=n/\∀ x∈l,(Lit.int k x).wf=true) hu hk hn hl (fun cs hcs=>aP5 ht n cs hcs) h;have hx:∀ i (hi:i<xs.length) j,j<n->∃ hj:j<(xs[i]).length,(xs.getD i []).getD j 0=(xs[i])[j]:=fun i hi j hj=>by
  have hl:=(h4 xs[i] (xn hi)).1;refine ⟨by omega,?_⟩;have e1:xs.getD i []=xs[i]:=by rw [la,ln hi]; rfl
  rw [e1,la,ln (by omega)];rfl
 refine ⟨xs.length,fun i j=>(xs.getD i []).getD j 0,fun g hg=>R_sl hn h3 (fun _=>id) fun i j hi hj=>?_,fun i j hi hj=>?_,h5⟩
 ·obtain ⟨hj',he⟩:=hx i hi j hj;refine ⟨.int k (xs[i])[j],by simp [hj'],rfl,?_⟩;rw [hg i j hj];show R w _ E0 (.int k ((xs.getD i []).getD j 0)) _;rw [he];exact .int
 ·obtain ⟨hj',he⟩:=hx i hi j hj;show (Lit.int k ((xs.getD i []).getD j 0)).wf=true;rw [he];exact (h4 xs[i] (xn hi)).2 _ (xn hj')
end Sx
set_option linter.unusedSimpArgs false
set_option linter.unusedVariables false
namespace Lli
open Go.RowKit Sx Num Aff Afi Img Imh Imp Imq Rga Blend Ble Lsg Lta Lrd Lri Luc Lck Lgr Lcs Lst Lch Lcl Lgp Lsc Cmp Lpm Lto
theorem aG6 {P:Program}{w:World}:∀ {ls:List TypeId}{cs:List Value},All2 (Leaf P w) ls cs->∀ (j:Nat) (t:TypeId),ls[j]?=some t->∃ v,cs[j]?=some v/\Leaf P w t v
 | [],cs,h,j,t,hj=>by simp at hj
 | a::ls,cs,h,j,t,hj=>by
  obtain ⟨y,m,rfl,e1,l1⟩:=All2.cons_inv h;cases j with
  | zero=>simp at hj; subst hj; exact ⟨y,rfl,e1⟩
  | succ j=>exact aG6 l1 j t (by simpa using hj)
def iV (v:Value):Int:=Sx.intOf (ofV v)
def bV (v:Value):Bool:=au7 (ofV v)
theorem bJ6 {w X E k} {t:TypeId}{v:Value}(ht:Tryz.prog.underlying t=some (.int k)) (h:Leaf Tryz.prog w t v):R w X E (.int k (iV v)) v/\ab0 v/\(Lit.int k (iV v)).wf=true:=by
 obtain ⟨n,rfl,hn⟩:=aG0 ht h;exact ⟨.int,rfl,hn⟩
theorem b83 {w X E} {t:TypeId}{v:Value}(ht:Tryz.prog.underlying t=some .bool) (h:Leaf Tryz.prog w t v):R w X E (.bool (bV v)) v/\ab0 v:=by
 obtain ⟨b,rfl⟩:=bx8 ht h;exact ⟨.bool,rfl⟩
theorem an8 {w} {t e:TypeId}{v:Value}(ht:Tryz.prog.underlying t=some (.slice e)) (h:Leaf Tryz.prog w t v):ab0 v:=by
 rcases aP6 ht h with rfl | ⟨a,len,cap,rfl,_⟩<;>exact rfl
abbrev tI:TypeId:=3
abbrev tU:TypeId:=5
abbrev tB:TypeId:=4
abbrev tRS:TypeId:=26
abbrev tSS:TypeId:=40
abbrev tPS:TypeId:=41
abbrev tUS:TypeId:=42
theorem uI:Tryz.prog.underlying tI=some (.int .i64):=by kernel_rfl
theorem uU:Tryz.prog.underlying tU=some (.int .u8):=by kernel_rfl
theorem uB:Tryz.prog.underlying tB=some .bool:=by kernel_rfl
theorem bD3 {n:Int}(h:(Lit.int .u8 n).wf=true):0<=n/\n<=255:=wf_u8 h
instance:Inhabited Rn:=⟨⟨0,0,0⟩⟩
instance:Inhabited Ink:=⟨z8⟩
instance:Inhabited Stp:=⟨⟨0,z8⟩⟩
theorem ch {β:Type} [Inhabited β] {p:Value->Prop}{q:Value->β->Prop}(h:∀ v,p v->∃ r,q v r):∃ F:Value->β,∀ v,p v->q v (F v):=by
 have:∀ v:Value,∃ r:β,p v->q v r:=fun v=>by
  by_cases hv:p v
  ·obtain ⟨r,hr⟩:=h v hv;exact ⟨r,fun _=>hr⟩
  ·exact ⟨default,fun hc=>absurd hc hv⟩
 exact Classical.axiomOfChoice this
theorem bQ7 {w:World}(v:Value) (h:Leaf Tryz.prog w tRS v):∃ r:Nat×(Nat->Rn),R w (fun _=>False) E0 (.sl r.1 3 (fun i=>lst (rnL (r.2 i)))) v/\r.1<=maxLen:=by
 obtain ⟨len,f,hR,_,hlen⟩:=aJ8 (k:= .i64) (t:=tI) (e:=70) 3 (by kernel_rfl) uI (by kernel_rfl) (by decide) (by kernel_rfl) h;exact ⟨(len,fun i=>⟨f i 0,f i 1,f i 2⟩),hR _ (fun i j hj=>match j,hj with | 0,_=>rfl | 1,_=>rfl | 2,_=>rfl),hlen⟩
theorem b17 {w:World}(v:Value) (h:Leaf Tryz.prog w tPS v):∃ r:Nat×(Nat->Ink),R w (fun _=>False) E0 (.sl r.1 8 (fun i=>lst (inkL (r.2 i)))) v/\r.1<=maxLen/\∀ i,i<r.1->ao0 (r.2 i):=by
 obtain ⟨len,f,hR,hw,hlen⟩:=aJ8 (k:= .u8) (t:=tU) (e:=28) 8 (by kernel_rfl) uU (by kernel_rfl) (by decide) (by kernel_rfl) h;refine ⟨(len,fun i=>⟨f i 0,f i 1,f i 2,f i 3,f i 4,f i 5,f i 6,f i 7⟩),hR _ (fun i j hj=>match j,hj with | 0,_=>rfl | 1,_=>rfl | 2,_=>rfl | 3,_=>rfl | 4,_=>rfl | 5,_=>rfl | 6,_=>rfl | 7,_=>rfl),hlen,fun i hi=>?_⟩;have g:=fun j hj=>bD3 (hw i j hi hj)
 exact ⟨⟨g 0 (by decide),g 1 (by decide),g 2 (by decide),g 3 (by decide)⟩,g 4 (by decide),g 5 (by decide),g 6 (by decide),g 7 (by decide)⟩
theorem bQ2 {w:World}(v:Value) (h:Leaf Tryz.prog w tUS v):∃ r:Nat×(Nat->Int),R w (fun _=>False) E0 (.sl r.1 1 (fun i _=> .int .u8 (r.2 i))) v/\r.1<=maxLen/\∀ i,i<r.1->0<=r.2 i/\r.2 i<=255:=by
 obtain ⟨len,f,hR,hw,hlen⟩:=aJ8 (k:= .u8) (t:=tU) (e:=tU) 1 (by kernel_rfl) uU (by kernel_rfl) (by decide) (by kernel_rfl) h;exact ⟨(len,fun i=>f i 0),hR _ (fun i j hj=>match j,hj with | 0,_=>rfl),hlen,fun i hi=>bD3 (hw i 0 hi (by decide))⟩
theorem bD6 {w:World}(v:Value) (h:Leaf Tryz.prog w tSS v):∃ r:Nat×(Nat->Stp),R w (fun _=>False) E0 (.sl r.1 9 (fun i=>lst (stpL (r.2 i)))) v/\r.1<=maxLen/\∀ i,i<r.1->u8i (r.2 i).ink:=by
 obtain ⟨xs,h3,h4,h5⟩:=at3 (n:=20) (e:=119) (ls:=[tI,tU,tU,tU,tU,tU,tU,tU,tU]) (α:=List Value) (c:=id) (mk:=id) (ok:=fun cs=>All2 (Leaf Tryz.prog w) [tI,tU,tU,tU,tU,tU,tU,tU,tU] cs)
  (by kernel_rfl) (show Tryz.prog.cellsOf 119=9 by kernel_rfl) (by decide) (by kernel_rfl) (fun cs hcs=>⟨rfl,hcs⟩) h
 have hx:∀ i (hi:i<xs.length),xs.getD i []=xs[i]:=fun i hi=>by rw [la,ln hi]; rfl
 refine ⟨(xs.length,fun i=>⟨iV ((xs.getD i []).getD 0 undef),⟨iV ((xs.getD i []).getD 1 undef),iV ((xs.getD i []).getD 2 undef),iV ((xs.getD i []).getD 3 undef),iV ((xs.getD i []).getD 4 undef),iV ((xs.getD i []).getD 5 undef),iV ((xs.getD i []).getD 6 undef),iV ((xs.getD i []).getD 7 undef),iV ((xs.getD i []).getD 8 undef)⟩⟩),R_sl (by decide) h3 (fun _=>id) fun i j hi hj=>?_,h5,fun i hi=>?_⟩
 ·have ha:=h4 xs[i] (xn hi);have go:∀ {k:IntKind}{t:TypeId}(j:Nat),Tryz.prog.underlying t=some (.int k)->[tI,tU,tU,tU,tU,tU,tU,tU,tU][j]?=some t->∃ u,(id xs[i])[j]?=some u/\ab0 u/\R w (fun _=>False) E0 (.int k (iV ((xs.getD i []).getD j undef))) u:=fun {k t} j ht hjt=>by
   obtain ⟨u,hu,hl⟩:=aG6 ha j t hjt;obtain ⟨r1,r2,_⟩:=bJ6 (w:=w) (X:=fun _=>False) (E:=E0) ht hl;have e:(xs.getD i []).getD j undef=u:=by rw [hx i hi,la,hu]; rfl
   exact ⟨u,hu,r2,e▸r1⟩
  match j,hj with
  | 0,_=>exact go 0 uI rfl
  | 1,_=>exact go 1 uU rfl
  | 2,_=>exact go 2 uU rfl
  | 3,_=>exact go 3 uU rfl
  | 4,_=>exact go 4 uU rfl
  | 5,_=>exact go 5 uU rfl
  | 6,_=>exact go 6 uU rfl
  | 7,_=>exact go 7 uU rfl
  | 8,_=>exact go 8 uU rfl
 ·have hi:i<xs.length:=hi;have ha:=h4 xs[i] (xn hi);have go:∀ (j:Nat),[tI,tU,tU,tU,tU,tU,tU,tU,tU][j]?=some tU->0<=iV ((xs.getD i []).getD j undef)/\iV ((xs.getD i []).getD j undef)<=255:=fun j hjt=>by
   obtain ⟨u,hu,hl⟩:=aG6 ha j tU hjt;obtain ⟨_,_,r3⟩:=bJ6 (w:=w) (X:=fun _=>False) (E:=E0) uU hl;have e:(xs.getD i []).getD j undef=u:=by rw [hx i hi,la,hu]; rfl
   rw [e];exact bD3 r3
  exact ⟨⟨go 1 rfl,go 2 rfl,go 3 rfl,go 4 rfl⟩,go 5 rfl,go 6 rfl,go 7 rfl,go 8 rfl⟩
abbrev itT:List TypeId:=[tI,tRS,tI,tU,tU,tU,tU,tU,tU,tU,tU,tI,tI,tI,tI,tI,tSS,tI,tI,tPS,tUS,tI,tI,tI,tI,tI,tI,tB,tB,tU,tI,tB,tB,tB]
structure It8 (x:It):Prop where
 alpha:0<=x.alpha/\x.alpha<=255
 ink:u8i x.src.ink
 st:∀ j,j<x.src.ns->u8i (x.src.st j).ink
 px:∀ j,j<x.src.img.n->ao0 (x.src.img.px j)
 sf:∀ j,j<x.src.img.sn->0<=x.src.img.sf j/\x.src.img.sf j<=255
 nr:x.nr<=9223372036854775807
def mkIt (FR:Value->Nat×(Nat->Rn)) (FS:Value->Nat×(Nat->Stp)) (FP:Value->Nat×(Nat->Ink)) (FU:Value->Nat×(Nat->Int)) (c:Nat->Value):It:=
 ⟨iV (c 0),(FR (c 1)).1,(FR (c 1)).2,⟨iV (c 2),⟨iV (c 3),iV (c 4),iV (c 5),iV (c 6),iV (c 7),iV (c 8),iV (c 9),iV (c 10)⟩,iV (c 11),iV (c 12),iV (c 13),iV (c 14),iV (c 15),(FS (c 16)).1,(FS (c 16)).2,
  ⟨iV (c 17),iV (c 18),(FP (c 19)).1,(FP (c 19)).2,(FU (c 20)).1,(FU (c 20)).2,⟨iV (c 21),iV (c 22),iV (c 23),iV (c 24),iV (c 25),iV (c 26)⟩,bV (c 27),bV (c 28)⟩⟩,iV (c 29),iV (c 30),bV (c 31),bV (c 32),bV (c 33)⟩
theorem bn4 {w:World}{v:Value}(h:Leaf Tryz.prog w 23 v) :
  ∃ (n:Nat) (it:Nat->It),R w (fun _=>False) E0 (.sl n 34 (fun i=>lst (itL (it i)))) v/\n<=maxLen/\∀ i,i<n->It8 (it i):=by
 obtain ⟨xs,h3,h4,h5⟩:=at3 (n:=20) (e:=50) (ls:=itT) (α:=List Value) (c:=id) (mk:=id) (ok:=fun cs=>All2 (Leaf Tryz.prog w) itT cs)
  (by kernel_rfl) (show Tryz.prog.cellsOf 50=34 by kernel_rfl) (by decide) (by kernel_rfl) (fun cs hcs=>⟨rfl,hcs⟩) h
 obtain ⟨FR,hR⟩:=ch (bQ7 (w:=w));obtain ⟨FS,hS⟩:=ch (β:=Nat×(Nat->Stp)) (bD6 (w:=w));obtain ⟨FP,hP⟩:=ch (β:=Nat×(Nat->Ink)) (b17 (w:=w));obtain ⟨FU,hU⟩:=ch (bQ2 (w:=w));have hx:∀ i (hi:i<xs.length),xs.getD i []=xs[i]:=fun i hi=>by rw [la,ln hi]; rfl
 have get:∀ i (hi:i<xs.length) (j:Nat) (t:TypeId),itT[j]?=some t->∃ u,(id xs[i])[j]?=some u/\Leaf Tryz.prog w t u/\(xs.getD i []).getD j undef=u:=fun i hi j t ht=>by
  obtain ⟨u,hu,hl⟩:=aG6 (h4 xs[i] (xn hi)) j t ht;exact ⟨u,hu,hl,by rw [hx i hi,la,hu]; rfl⟩
 refine ⟨xs.length,fun i=>mkIt FR FS FP FU (fun j=>(xs.getD i []).getD j undef),R_sl (by decide) h3 (fun _=>id) fun i j hi hj=>?_,h5,fun i hi=>?_⟩
 ·have gi:∀ {k:IntKind}{t:TypeId}(j:Nat),Tryz.prog.underlying t=some (.int k)->itT[j]?=some t->∃ u,(id xs[i])[j]?=some u/\ab0 u/\R w (fun _=>False) E0 (.int k (iV ((xs.getD i []).getD j undef))) u:=fun {k t} j ht hjt=>by
   obtain ⟨u,hu,hl,e⟩:=get i hi j t hjt;obtain ⟨r1,r2,_⟩:=bJ6 (w:=w) (X:=fun _=>False) (E:=E0) ht hl;exact ⟨u,hu,r2,e▸r1⟩
  have gb:∀ (j:Nat),itT[j]?=some tB->∃ u,(id xs[i])[j]?=some u/\ab0 u/\R w (fun _=>False) E0 (.bool (bV ((xs.getD i []).getD j undef))) u:=fun j hjt=>by
   obtain ⟨u,hu,hl,e⟩:=get i hi j tB hjt;obtain ⟨r1,r2⟩:=b83 (w:=w) (X:=fun _=>False) (E:=E0) uB hl;exact ⟨u,hu,r2,e▸r1⟩
  match j,hj with
  | 0,_=>exact gi 0 uI rfl
  | 1,_=>
   obtain ⟨u,hu,hl,e⟩:=get i hi 1 tRS rfl;exact ⟨u,hu,an8 (e:=70) (by kernel_rfl) hl,(e▸(hR u hl).1:R w (fun _=>False) E0 (.sl (FR ((xs.getD i []).getD 1 undef)).1 3 (fun i'=>lst (rnL ((FR ((xs.getD i []).getD 1 undef)).2 i')))) u)⟩
  | 2,_=>exact gi 2 uI rfl
  | 3,_=>exact gi 3 uU rfl
  | 4,_=>exact gi 4 uU rfl
  | 5,_=>exact gi 5 uU rfl
  | 6,_=>exact gi 6 uU rfl
  | 7,_=>exact gi 7 uU rfl
  | 8,_=>exact gi 8 uU rfl
  | 9,_=>exact gi 9 uU rfl
  | 10,_=>exact gi 10 uU rfl
  | 11,_=>exact gi 11 uI rfl
  | 12,_=>exact gi 12 uI rfl
  | 13,_=>exact gi 13 uI rfl
  | 14,_=>exact gi 14 uI rfl
  | 15,_=>exact gi 15 uI rfl
  | 16,_=>
   obtain ⟨u,hu,hl,e⟩:=get i hi 16 tSS rfl;exact ⟨u,hu,an8 (e:=119) (by kernel_rfl) hl,(e▸(hS u hl).1:R w (fun _=>False) E0 (.sl (FS ((xs.getD i []).getD 16 undef)).1 9 (fun i'=>lst (stpL ((FS ((xs.getD i []).getD 16 undef)).2 i')))) u)⟩
  | 17,_=>exact gi 17 uI rfl
  | 18,_=>exact gi 18 uI rfl
  | 19,_=>
   obtain ⟨u,hu,hl,e⟩:=get i hi 19 tPS rfl;exact ⟨u,hu,an8 (e:=28) (by kernel_rfl) hl,(e▸(hP u hl).1:R w (fun _=>False) E0 (.sl (FP ((xs.getD i []).getD 19 undef)).1 8 (fun i'=>lst (inkL ((FP ((xs.getD i []).getD 19 undef)).2 i')))) u)⟩
  | 20,_=>
   obtain ⟨u,hu,hl,e⟩:=get i hi 20 tUS rfl;exact ⟨u,hu,an8 (e:=tU) (by kernel_rfl) hl,(e▸(hU u hl).1:R w (fun _=>False) E0 (.sl (FU ((xs.getD i []).getD 20 undef)).1 1 (fun i' _=> .int .u8 ((FU ((xs.getD i []).getD 20 undef)).2 i'))) u)⟩
  | 21,_=>exact gi 21 uI rfl
  | 22,_=>exact gi 22 uI rfl
  | 23,_=>exact gi 23 uI rfl
  | 24,_=>exact gi 24 uI rfl
  | 25,_=>exact gi 25 uI rfl
  | 26,_=>exact gi 26 uI rfl
  | 27,_=>exact gb 27 rfl
  | 28,_=>exact gb 28 rfl
  | 29,_=>exact gi 29 uU rfl
  | 30,_=>exact gi 30 uI rfl
  | 31,_=>exact gb 31 rfl
  | 32,_=>exact gb 32 rfl
  | 33,_=>exact gb 33 rfl
  | _+34,hj=>exact absurd hj (by simp [itL]<;>omega)
 ·have hi:i<xs.length:=hi;have g8:∀ (j:Nat),itT[j]?=some tU->0<=iV ((xs.getD i []).getD j undef)/\iV ((xs.getD i []).getD j undef)<=255:=fun j hjt=>by
   obtain ⟨u,hu,hl,e⟩:=get i hi j tU hjt;rw [e];exact bD3 (bJ6 (w:=w) (X:=fun _=>False) (E:=E0) uU hl).2.2
  obtain ⟨u1,_,l1,e1⟩:=get i hi 1 tRS rfl;obtain ⟨u2,_,l2,e2⟩:=get i hi 16 tSS rfl;obtain ⟨u3,_,l3,e3⟩:=get i hi 19 tPS rfl;obtain ⟨u4,_,l4,e4⟩:=get i hi 20 tUS rfl;refine ⟨g8 29 rfl,⟨⟨g8 3 rfl,g8 4 rfl,g8 5 rfl,g8 6 rfl⟩,g8 7 rfl,g8 8 rfl,g8 9 rfl,g8 10 rfl⟩,?_,?_,?_,?_⟩
  ·show ∀ j,j<(FS ((xs.getD i []).getD 16 undef)).1->u8i ((FS ((xs.getD i []).getD 16 undef)).2 j).ink;rw [e2]; exact (hS u2 l2).2.2
  ·show ∀ j,j<(FP ((xs.getD i []).getD 19 undef)).1->ao0 ((FP ((xs.getD i []).getD 19 undef)).2 j);rw [e3]; exact (hP u3 l3).2.2
  ·show ∀ j,j<(FU ((xs.getD i []).getD 20 undef)).1->0<=(FU ((xs.getD i []).getD 20 undef)).2 j/\(FU ((xs.getD i []).getD 20 undef)).2 j<=255;rw [e4]; exact (hU u4 l4).2.2
  ·show (FR ((xs.getD i []).getD 1 undef)).1<=9223372036854775807;rw [e1]; exact (hR u1 l1).2
theorem bn3 {w:World}{v:Value}(h:Leaf Tryz.prog w 22 v):∃ (n:Nat) (nm:Nat->ByteArray),R w (fun _=>False) E0 (.sl n 1 (fun i _=> .str (nm i))) v/\n<=maxLen:=by
 obtain ⟨xs,h3,h4,h5⟩:=at3 (n:=20) (e:=9) (ls:=[9]) (α:=ByteArray) (c:=fun s=>[.string s]) (mk:=fun cs=>strOf (ofV (cs.getD 0 undef))) (ok:=fun _=>True)
  (by kernel_rfl) (show Tryz.prog.cellsOf 9=1 by kernel_rfl) (by decide) (by kernel_rfl) (fun cs hcs=>by
   obtain ⟨y,m,rfl,e1,l1⟩:=All2.cons_inv hcs;obtain rfl:=All2.a97 l1
   obtain ⟨s,rfl,_⟩:=ba5 (by kernel_rfl) e1;exact ⟨rfl,trivial⟩) h
 refine ⟨xs.length,fun i=>xs.getD i ByteArray.empty,R_sl (by decide) h3 (fun _=>id) fun i j hi hj=>?_,h5⟩;have e:xs.getD i ByteArray.empty=xs[i]:=by rw [la,ln hi]; rfl
 match j,hj with
 | 0,_=>exact ⟨_,rfl,rfl,by show R w _ E0 (.str (xs.getD i ByteArray.empty)) _; rw [e]; exact .str⟩
theorem ls_u8 {L:LsG}(h:∀ i,i<L.n->It8 (L.it i)):LsU8 L:=⟨fun i hi=>(h i hi).alpha,fun i hi=>(h i hi).ink,fun i hi=>(h i hi).st,fun i hi=>(h i hi).px,fun i hi=>(h i hi).sf,fun i hi=>(h i hi).nr⟩
theorem by1 (x:It) (j:Nat):ae8 (lst (itL x) j):=ac0 (as5 x) j
theorem bU8 (L:LsG):ae8 (lsS L):=ac0 (l:=lsL L) (fun s hs=>by
 simp only [lsL,lP,lJ,uk] at hs;rcases hs with rfl | rfl | rfl | rfl
 ·trivial
 ·trivial
 ·exact fun _ _=>trivial
 ·exact fun i j=>by1 _ j)
end Lli
set_option linter.unusedSimpArgs false
set_option linter.unusedVariables false
namespace Ftw
open Gar
open Go.RowKit Sx Num Aff Afi Img Imh Imp Imq Rga Rgl Rgn Lsg Lta Lrd Lri Luc Lck Lgr Lcs Lst Lch Lcl Lgp Lsc Cmp Lpm Lpa Lpr Lbt Lpn Lpc Lpd Lpe Lpf Lto Lat Lun Ltp Gat Apl Apt Ofl Ftp Ftq Fpc Lsh Fls Lli Ftr
set_option maxRecDepth 100000
theorem bP8 (L:LsG) (i:Nat):(af9 L).it i=L.it i:=rfl
theorem bP7 (L:LsG) (i:Nat):(af9 L).nm i=L.nm i:=rfl
theorem br4 (s:ByteArray):strOf (.str s)=s:=rfl
theorem br2 (L:LsG):(⟨cutI L.w 1 2,cutI L.h 1 2,L.ni,fun i=>L.nm i,if 12<L.n then 12 else L.n,L.it⟩:LsG)=af9 L:=rfl
theorem bY9 (L:LsG):(if 12<L.n then 12 else L.n)=(af9 L).n:=by by_cases h:12<L.n<;>rfl
theorem bY8 (L:LsG):cutI L.w 1 2=(af9 L).w:=rfl
theorem bZ0 (L:LsG):cutI L.h 1 2=(af9 L).h:=rfl
theorem bz6 (X:LsG) (h:X=plL fsG):piE X=0/\Int.ofNat (piP X).n=Int.ofNat 1/\LsU8 X:=by
 subst h;exact ⟨b68.1,congrArg _ b68.2,fs_u8⟩
theorem b84 (w h ni:Nat) (nm:Nat->ByteArray) (P:Gar.Pcs):(LsG.mk (w:Int) (h:Int) ni (fun i=>(FlG.L ⟨w,h,ni,nm,P⟩).nm i) P.n (fun i=>It.mk 0 (P.m i) (P.p i) (Src.mk 0 (Ink.mk (P.ink i 0) (P.ink i 1) (P.ink i 2) (P.ink i 3) (P.ink i 4) (P.ink i 5) (P.ink i 6) (P.ink i 7)) 0 0 0 0 0 0 (fun _=>Stp.mk 0 (Ink.mk 0 0 0 0 0 0 0 0)) (ImgG.mk 0 0 0 (fun _=>Ink.mk 0 0 0 0 0 0 0 0) 0 (fun _=>0) (Mat.mk 0 0 0 0 0 0) false false)) 255 0 false false false))=FlG.L ⟨w,h,ni,nm,P⟩:=rfl
theorem G_T (T:LsG) (nm:Nat->ByteArray) (hn:nm=T.nm) (hw:0<=T.w) (hh:0<=T.h) (P:Gar.Pcs):FlG.T ⟨T.w.toNat,T.h.toNat,T.ni,nm,P⟩=⟨T.w,T.h,T.ni,T.nm,0,fun _=>zIt⟩:=by
 have key:∀ a b:Int,a=T.w->b=T.h->(⟨a,b,T.ni,nm,0,fun _=>zIt⟩:LsG)=⟨T.w,T.h,T.ni,T.nm,0,fun _=>zIt⟩:=by
  rintro _ _ rfl rfl;subst hn;rfl
 exact key (T.w.toNat:Int) (T.h.toNat:Int) (by omega) (by omega)
theorem G_L (T:LsG) (nm:Nat->ByteArray) (hn:nm=T.nm) (hw:0<=T.w) (hh:0<=T.h) (P:Gar.Pcs):FlG.L ⟨T.w.toNat,T.h.toNat,T.ni,nm,P⟩=flL T P P.n:=by
 have key:∀ a b:Int,a=T.w->b=T.h->(⟨a,b,T.ni,nm,P.n,Ftq.pcI P⟩:LsG)=flL T P P.n:=by
  rintro _ _ rfl rfl;subst hn;rfl
 exact key (T.w.toNat:Int) (T.h.toNat:Int) (by omega) (by omega)
noncomputable def spFt:FSpec:=aa3 4 (γ:=LsG) (fun | [.agg _ g]=>some (lsD g) | _=>none) (fun g=>[lsS g]) (fun g=>g.n<=maxLen/\∀ i,i<g.n->It8 (g.it i)) (fun _=> .bool true)
def ftO (g:LsG):SO:=lsO (af9 g)
def ftA (g:LsG):Inv:=⟨Unit,fun _=>True,fun _=>⟨[(1,.own 0 0)],[ftO g]⟩,fun _=>0⟩
noncomputable def ftB (g:LsG):Inv:=⟨Unit,fun _=>chkL (af9 g)=0,fun _=>⟨[(1,.own 0 0),(5,pcS (piP (af9 g)))],[ftO g]⟩,fun _=>0⟩
set_option maxHeartbeats 4000000 in
theorem ok_ft:aa2 Tryz.prog spFt:=by
 refine ssW (specs:=[bZ3,bZ4,bK1,be7,spFl,b00]) ⟨b22,b25,bR6,a95,ok_fl,b35,trivial⟩ Tryz.func4 (fun g=>(⟨[(5,.cut (ftA g)),(8,.cut (ftB g))],[]⟩:Ann)) ?_;rintro g ⟨hn,hL⟩;refine ab2 (B:=let J:=Int.toNat;let K:=Br;let A:=Sx.Ask;let z46:=(255:Int);let z45:=(g.ni=g.ni);let z42:=(True/\True/\True/\A (false=true));let z41:=(7:Nat);let z40:=(6:Nat);let z39:=(5:Nat);let z38:=(4:Nat);let z37:=(3:Nat);let z33:=(2:Nat);let z31:=(2:Int);let z29:=(1:Nat);let z28:=(12:Nat);let z23:=(false=false);let z18:=(af9 g);let z35:=(fun (i:Nat)=>Lsg.strOf (SV.str (z18.nm i)));let z17:=(1:Int);let z22:=(↑(cutI g.h z17 z31).toNat:Int);let z21:=(↑(cutI g.w z17 z31).toNat:Int);let z16:=(0:Nat);let z34:=(z16=z16);let z15:=((if z28<g.n then z28 else g.n)=if z28<g.n then z28 else g.n);let z12:=(J z17);let z27:=(↑z12:Int);let z9:=(0:Int);let z44:=(Ink.mk (7:Int) z9 z9 z9 z9 z9 z9 z9);let z30:=(fun (i:Nat)=>Stp.mk z9 (Ink.mk z9 z9 z9 z9 z9 z9 z9 z9));let z20:=(ImgG.mk z9 z9 z16 (fun (i:Nat)=>Ink.mk z9 z9 z9 z9 z9 z9 z9 z9) z16 (fun (x:Nat)=>z9) (Mat.mk z9 z9 z9 z9 z9 z9) false false);let z19:=(plL (PlnG.mk z12 z12 z44));let z6:=(z9=z9);let z5:=(IntKind.i64=IntKind.i64);let q5:=fun p:Int=>A z5/\A (p=p);let z32:=(True/\A z5/\A z6);let z11:=((True/\q5 (cutI g.w z17 z31))/\q5 (cutI g.h z17 z31));let z26:=(z11/\A z45/\∀ i:Nat,i<g.ni->True/\A (z18.nm i=z18.nm i));let z8:=(((z11/\A z45/\∀ i:Nat,i<g.ni->True/\A (z18.nm i=Lsg.strOf (SV.str (z18.nm i))))/\A z15/\∀ i:Nat,(i<if z28<g.n then z28 else g.n)->(qT True (z18.it i) (z18.it i)))/\True);let z4:=(IntKind.u8=IntKind.u8);let q4:=fun p:Int=>A z4/\A (p=p);let z14:=((((((((True/\A z4/\A z6)/\A z4/\A z6)/\A z4/\A z6)/\A z4/\A z6)/\A z4/\A z6)/\A z4/\A z6)/\A z4/\A z6)/\A z4/\A z6);let z13:=((((((((z32/\A z4/\A z6)/\A z4/\A z6)/\A z4/\A z6)/\A z4/\A z6)/\A z4/\A z6)/\A z4/\A z6)/\A z4/\A z6)/\A z4/\A z6);let z3:=(LsG.mk z27 z27 (8:Nat) (fun (i:Nat)=>Lsg.strOf (SV.str (z19.nm i))) z29 fun (i:Nat)=>Lsg.It.mk z9 ((16:Nat)*J z17) (fun (i:Nat)=>Rn.mk (↑i:Int) z9 ((16:Int)*z27)) (Lsg.Src.mk z9 z44 z9 z9 z9 z9 z9 z16 z30 z20) z46 z9 false false false);let z2:=(piP z18);let z10:=(Fls.FlG.mk (cutI g.w z17 z31).toNat (cutI g.h z17 z31).toNat g.ni z35 z2);let z7:=(A (z2.n=z2.n)/\∀ i:Nat,i<z2.n->(chp (True/\A (z2.m i=z2.m i)/\∀ i_1:Nat,let z36:=(z2.p i i_1); i_1<z2.m i->(((True/\q5 z36.y)/\q5 z36.x0)/\q5 z36.x1)) (fun j:Nat=>q4 (z2.ink i j)) 8));let z1:=(LsG.mk (cutI g.w z17 z31) (cutI g.h z17 z31) g.ni z35 (if z28<g.n then z28 else g.n) g.it);let z24:=(piP z1);let z0:=(LsG.mk z21 z22 g.ni (fun (i:Nat)=>Lsg.strOf (SV.str (z10.L.nm i))) z2.n fun (i:Nat)=>Lsg.It.mk z9 (z2.m i) (z2.p i) (Lsg.Src.mk z9 (Ink.mk (z2.ink i z16) (z2.ink i z29) (z2.ink i z33) (z2.ink i z37) (z2.ink i z38) (z2.ink i z39) (z2.ink i z40) (z2.ink i z41)) z9 z9 z9 z9 z9 z16 z30 z20) z46 z9 false false false);let z25:=(piP z0);True/\True/\True/\(((A z5/\A (z17=z27))/\(A z5/\A (z17=z27))/\((((((((True/\q4 ((7:Int)))/\A z4/\A z6)/\A z4/\A z6)/\A z4/\A z6)/\A z4/\A z6)/\A z4/\A z6)/\A z4/\A z6)/\A z4/\A z6)/\True)/\A ((z29<=J z17/\J z17<=z33)/\z29<=J z17/\J z17<=z33))/\((((((True/\q5 z27)/\q5 z27)/\A ((8:Nat)=(8:Nat))/\∀ i:Nat,i<(8:Nat)->True/\A (z19.nm i=Lsg.strOf (SV.str (z19.nm i))))/\A (z29=z29)/\∀ i:Nat,i<z29->(((((((((((((((((((((((((((((((((z32/\A ((16:Nat)*J z17=(16:Nat)*J z17)/\∀ i:Nat,i<(16:Nat)*J z17->(((True/\q5 ((↑i:Int)))/\A z5/\A z6)/\q5 ((16:Int)*z27)))/\A z5/\A z6)/\q4 ((7:Int)))/\A z4/\A z6)/\A z4/\A z6)/\A z4/\A z6)/\A z4/\A z6)/\A z4/\A z6)/\A z4/\A z6)/\A z4/\A z6)/\A z5/\A z6)/\A z5/\A z6)/\A z5/\A z6)/\A z5/\A z6)/\A z5/\A z6)/\A z34/\∀ i:Nat,i<z16->z13)/\A z5/\A z6)/\A z5/\A z6)/\A z34/\∀ i:Nat,i<z16->z14)/\A z34/\∀ i:Nat,i<z16->True/\A z4/\A z6)/\A z5/\A z6)/\A z5/\A z6)/\A z5/\A z6)/\A z5/\A z6)/\A z5/\A z6)/\A z5/\A z6)/\A z23)/\A z23)/\q4 z46)/\A z5/\A z6)/\A z23)/\A z23)/\A z23))/\True)/\A (LsU8 z3))/\True/\True/\True/\True/\True/\True/\True/\True/\K (decide (piE z3≠z9)) z42 (True/\True/\True/\True/\K (decide ((↑(piP z3).n:Int)≠z17)) (True/\True/\A (false=true)) ((True/\((((((True/\q5 g.w)/\q5 g.h)/\A z45/\∀ i:Nat,i<g.ni->True/\A (g.nm i=g.nm i))/\A (g.n=g.n)/\∀ i:Nat,i<g.n->(qT True (g.it i) (g.it i)))/\True)/\A True)/\True/\∃ g_1:Unit,A ((ftA g).pre g_1)/\(A z34/\True)/\(z26/\A z15/\∀ i:Nat,(i<if z28<g.n then z28 else g.n)->(qT True (g.it i) (z18.it i)))/\True)/\∀ g_1:Unit,(ftA g).pre g_1->True/\(z8/\A (LsU8 z1))/\True/\True/\True/\True/\True/\(True/\True/\K (decide (piE z1≠z9)) (True/\True/\(z8/\A (∀ i:Nat,(i<if z28<g.n then z28 else g.n)->(z18.it i).nr<=(9223372036854775807:Nat)))/\True/\True/\K (decide (piE z1=chkL z1)) (True/\True/\True/\A (true=true)) (True/\True/\True/\True/\True/\A (decide (piE z1=z31)=true))) (∃ g_2:Unit,A ((ftB g).pre g_2)/\(A z34/\(A (z24.n=z2.n)/\∀ i:Nat,i<z2.n->(((((((((True/\A (z24.m i=z2.m i)/\∀ i_1:Nat,i_1<z2.m i->(((True/\A z5/\A ((z24.p i i_1).y=(z2.p i i_1).y))/\A z5/\A ((z24.p i i_1).x0=(z2.p i i_1).x0))/\A z5/\A ((z24.p i i_1).x1=(z2.p i i_1).x1)))/\A z4/\A (z24.ink i z16=z2.ink i z16))/\A z4/\A (z24.ink i z29=z2.ink i z29))/\A z4/\A (z24.ink i z33=z2.ink i z33))/\A z4/\A (z24.ink i z37=z2.ink i z37))/\A z4/\A (z24.ink i z38=z2.ink i z38))/\A z4/\A (z24.ink i z39=z2.ink i z39))/\A z4/\A (z24.ink i z40=z2.ink i z40))/\A z4/\A (z24.ink i z41=z2.ink i z41)))/\True)/\(z26/\A z15/\∀ i:Nat,(i<if z28<g.n then z28 else g.n)->(qT True (z18.it i) (z18.it i)))/\True))/\∀ g_2:Unit,(ftB g).pre g_2->True/\True/\True/\True/\True/\True/\True/\(((A z5/\A (cutI g.w z17 z31=z21))/\(A z5/\A (cutI g.h z17 z31=z22))/\(A z45/\∀ i:Nat,i<g.ni->True/\A (z18.nm i=Lsg.strOf (SV.str (z18.nm i))))/\z7/\True)/\A z10.Ok)/\True/\True/\True/\True/\True/\True/\True/\((((((True/\q5 z21)/\q5 z22)/\A z45/\∀ i:Nat,i<g.ni->True/\A (z10.L.nm i=Lsg.strOf (SV.str (z10.L.nm i))))/\A (z2.n=z2.n)/\∀ i:Nat,i<z2.n->((((((((((((((((((((((((chp ((z32/\A (z2.m i=z2.m i)/\∀ i_1:Nat,let z43:=(z2.p i i_1); i_1<z2.m i->(((True/\q5 z43.y)/\q5 z43.x0)/\q5 z43.x1))/\A z5/\A z6) (fun j:Nat=>q4 (z2.ink i j)) 8)/\A z5/\A z6)/\A z5/\A z6)/\A z5/\A z6)/\A z5/\A z6)/\A z5/\A z6)/\A z34/\∀ i:Nat,i<z16->z13)/\A z5/\A z6)/\A z5/\A z6)/\A z34/\∀ i:Nat,i<z16->z14)/\A z34/\∀ i:Nat,i<z16->True/\A z4/\A z6)/\A z5/\A z6)/\A z5/\A z6)/\A z5/\A z6)/\A z5/\A z6)/\A z5/\A z6)/\A z5/\A z6)/\A z23)/\A z23)/\q4 z46)/\A z5/\A z6)/\A z23)/\A z23)/\A z23))/\True)/\A (LsU8 z0))/\True/\True/\True/\True/\True/\True/\True/\True/\True/\True/\True/\True/\K (decide (piE z0=z9)) (True/\True/\((z7/\(A (z25.n=z2.n)/\∀ i:Nat,i<z2.n->(((((((((True/\A (z25.m i=z2.m i)/\∀ i_1:Nat,i_1<z2.m i->(((True/\A z5/\A ((z25.p i i_1).y=(z2.p i i_1).y))/\A z5/\A ((z25.p i i_1).x0=(z2.p i i_1).x0))/\A z5/\A ((z25.p i i_1).x1=(z2.p i i_1).x1)))/\A z4/\A (z25.ink i z16=z2.ink i z16))/\A z4/\A (z25.ink i z29=z2.ink i z29))/\A z4/\A (z25.ink i z33=z2.ink i z33))/\A z4/\A (z25.ink i z37=z2.ink i z37))/\A z4/\A (z25.ink i z38=z2.ink i z38))/\A z4/\A (z25.ink i z39=z2.ink i z39))/\A z4/\A (z25.ink i z40=z2.ink i z40))/\A z4/\A (z25.ink i z41=z2.ink i z41)))/\(A ((17:Nat)=(17:Go.FuncId))/\True)/\True)/\A (z2.n<=(4294967296:Nat)/\∀ k:Nat,k<z2.n->vld (Rg.mk (z2.m k) (z2.p k)).L))/\True/\True/\True/\A (true=true)) z42))) (by kernel_rfl) ?_;simp only [chp];delta qG qI qM qS qT
 simp only [cln];simp only [bP8,bP7,br4];simp only [br2];simp only [bY9,bY8,bZ0];simp only [cln];refine ⟨⟨⟨rfl,rfl⟩,⟨by decide,by decide⟩,by decide,by decide⟩,(bz6 _ rfl).2.2,fun hc=>absurd (bz6 _ rfl).1 hc,fun _=>⟨fun hc=>absurd (bz6 _ rfl).2.1 hc,fun _=>⟨?_,fun _ _=>?_⟩⟩⟩
 ·exact ⟨(),trivial⟩
 ·rename_i u1 u2 u3 u4; clear u1 u2 u4;have hw:1<=(af9 g).w/\(af9 g).w<=2:=aR0 g.w 1 2 (by decide);have hh:1<=(af9 g).h/\(af9 g).h<=2:=aR0 g.h 1 2 (by decide);have hle:(af9 g).n<=g.n/\(af9 g).n<=12:=by unfold af9; simp only; split<;>omega
  have hu:LsU8 (af9 g):=ls_u8 fun i hi=>hL i (xe hi hle.1)
  have hs:256*(af9 g).w.toNat*(af9 g).h.toNat<=4096:=xh (ui (Nat.mul_le_mul_left 256 (show (af9 g).w.toNat<=2 by omega)) (show (af9 g).h.toNat<=2 by omega)) (by decide);have hnm:(fun i=>g.nm i)=(af9 g).nm:=rfl;have hni:g.ni=(af9 g).ni:=rfl;simp only [b84];rw [hni];simp only [G_L (af9 g) _ hnm (by omega) (by omega)];refine ⟨hu,⟨fun hc=>⟨fun i hi=>hu.nr i hi,fun h1=>?_⟩,fun hc=>⟨(),?_⟩⟩,fun _ h0=>?_⟩
  ·by_cases h0:chkL (af9 g)=0
   ·exact absurd (pi_0 h0 hs) hc
   ·exact absurd (by rw [bu9]; exact lb h0) h1
  ·show chkL (af9 g)=0;refine lC fun h0=>hc fun he=>h0 ?_
   rw [<-he,bu9];exact (lb h0).symm
  ·have h0:chkL (af9 g)=0:=h0;have O:=a90 h0 hs;have hP:=O.c.P.n;obtain ⟨hM,hpM⟩:=bE9 h0 hs;rw [hpM];have hmay:=bu8 h0 hs;refine ⟨⟨⟨by omega,by omega⟩,⟨O.c,?_,⟨hmay.n,hmay.r,hmay.few⟩,fun i hi=>?_⟩⟩,fl_u8 h0 hs hu,?_⟩
   ·rw [G_T (af9 g) _ hnm (by omega) (by omega)];exact Ftq.b75 _ h0
   ·have:=aS0 (O.c.P.v i hi)
    rw [show (Pcs.L (piP (af9 g)) i).length=(piP (af9 g)).m i from aE4 _ _] at this;show (piP (af9 g)).m i<=_;omega
   ·refine ⟨fun _=>⟨⟨rfl,fun i _=>?_⟩,by have:=hmay.n; omega,fun k hk=>O.c.P.v k hk⟩,fun hc=>absurd (pi_0 hM hs) hc⟩;repeat' first | exact rfl | exact True.intro | apply And.intro | intro _
end Ftw
end Go.Proofs.YthappngbapbkfaaGreat
