/- Part 8 of the texts that the law's proof leans on. -/
import Derived.Test.YthappngbapbkfaaGreatM7
namespace Go.Proofs.YthappngbapbkfaaGreat
set_option linter.unusedSimpArgs false
set_option linter.unusedVariables false
namespace Lpa
open Go.RowKit Sx Num Aff Afi Img Imh Imp Imq Rga Blend Ble Lsg Lta Lrd Lri Luc Lck Lgr Lcs Lst Lch Lcl Lgp Lsc Cmp Lpm
set_option maxRecDepth 100000
def aw8:FSpec:=aa3 64 (γ:=Int×Int) (fun | [.int _ a,.int _ b]=>some (a,b) | _=>none) (fun g=>[.int .u8 g.1,.int .u8 g.2]) (fun g=>(0<=g.1/\g.1<=255)/\0<=g.2/\g.2<=255) (fun g=> .int .u8 (aa9 g.1 g.2))
theorem ax3:aa2 Tryz.prog aw8:=by
 refine ssW (specs:=[aH8]) (⟨aA9,trivial⟩) Tryz.func64 (fun g=>A0) ?_;rintro ⟨a,b⟩ ⟨ha,hb⟩;refine ab2 (B:=let K:=IntKind.i64;let A:=Sx.Ask;let z1:=(9223372036854775807:Int);let z0:=(-9223372036854775808:Int);True/\True/\A (z0<=a/\a<=z1)/\True/\A (z0<=b/\b<=z1)/\A (z0<=a*b/\a*b<=z1)/\(((A (K=K)/\A (a*b=a*b))/\(A (K=K)/\A ((255:Int)=(255:Int)))/\True)/\A (((-4611686018427387904:Int)<=a*b/\a*b<=(4611686018427387904:Int))/\(1:Int)<=(255:Int)/\(255:Int)<=(4611686018427387904:Int)))/\A True/\True/\True/\A (IntKind.u8=IntKind.u8)/\A (IntKind.u8.wrap (nr (a*b) (255:Int))=aa9 a b)) (by kernel_rfl) ?_;simp only [cln];have h:=ad4 ha.1 ha.2 hb.1 hb.2;have m:0<=a*b/\a*b<=65025:=⟨lQ ha.1 hb.1,Int.le_trans (xZ ha.2 hb.2 hb.1 (by decide)) (by decide)⟩
 have ha:0<=a/\a<=255:=ha;have hb:0<=b/\b<=255:=hb;refine ⟨by omega,by omega,by omega,by omega,?_⟩;exact u8w h.1 h.2
abbrev TSt:TypeId:=96
abbrev TSs:TypeId:=94
abbrev TRp:TypeId:=99
theorem br6 (s:Src):∃ v,v=srcF s:=⟨_,rfl⟩
noncomputable def srcX (s:Src):SV:=Classical.choose (br6 s)
theorem ar8 (s:Src):srcX s=srcF s:=xv (br6 s)
theorem aw7 (s:Src):ae8 (srcX s):=by rw [ar8]; exact be1 s
def fcS (t:Nat) (x:It) (sv:SV):Nat->SV:=lst (itL x++[.int .i64 t,sv,mixS x])
def stR (ns:Nat) (f:Nat->Cl):SO:= .row 0 ns 9 (fun i j=> .int .u8 (f i j)) TSt
def stFD:SO->Nat->Cl
 | .row _ _ _ g _=>fun i j=>Sx.intOf (g i j)
 | _=>fun _ _=>0
def aI4:SO->Nat
 | .row _ n _ _ _=>n
 | _=>0
def clG:SO->Nat->SV
 | .cells _ g _=>g
 | _=>fun _=> .any
def refG:SV->Nat->SV
 | .ref _ g=>g
 | _=>fun _=> .any
structure PcG where
 t:Nat
 x:It
 s:StG
 ns:Nat
 st:Nat->Cl
 bs:Nat->Cl
 a0:Int
 a1:Int
structure PcOK (g:PcG):Prop where
 fill:FillOK g.x
 y : -8192<=g.s.y/\g.s.y<8192
 x0 : -8192<=g.s.x0
 x1:g.s.x1<=8192
 n:(g.ns:Int)=g.s.x1-g.s.x0
 l:g.s.x0<=g.a0
 h:g.a1<=g.s.x1
 st:∀ i,i<g.ns->isU9 (g.st i)
 bs:∀ i,i<g.ns->isU9 (g.bs i)
def PcG.at (g:PcG) (k:Int) (i:Nat):Cl:=if g.a0<=g.s.x0+i/\g.s.x0+i<g.a0+k then ae9 g.x (g.s.x0+i) g.s.y (g.bs i) else g.st i
def PcG.fin (g:PcG) (i:Nat):Cl:=if g.a0<=g.s.x0+i/\g.s.x0+i<g.a1 then ae9 g.x (g.s.x0+i) g.s.y (g.bs i) else g.st i
def pcO (g:PcG) (sv:SV) (f:Nat->Cl):List SO:=[.cells 1 (lst [.ref 37 (fcS g.t g.x sv)]) TPf,.cells 3 (lst (stL g.s)) TRp,.cells 1 (lst [.osl 4 0]) TSs,.cells 1 (lst [.osl 4 0]) TSs,stR g.ns f]
theorem zf8:(fun j=>Sx.intOf (ak0 [Value.int IntKind.u8 0,Value.int IntKind.u8 0,Value.int IntKind.u8 0,Value.int IntKind.u8 0,Value.int IntKind.u8 0,Value.int IntKind.u8 0,Value.int IntKind.u8 0,Value.int IntKind.u8 0] j))=inkF z8:=by
 funext j;match j with
 | 0=>rfl
 | 1=>rfl
 | 2=>rfl
 | 3=>rfl
 | 4=>rfl
 | 5=>rfl
 | 6=>rfl
 | 7=>rfl
 | n+8=>rfl
theorem all9 {p:Nat->Prop}(h:∀ j,p j):(((((((p 0/\p 1)/\p 2)/\p 3)/\p 4)/\p 5)/\p 6)/\p 7)/\p 8:=⟨⟨⟨⟨⟨⟨⟨⟨h 0,h 1⟩,h 2⟩,h 3⟩,h 4⟩,h 5⟩,h 6⟩,h 7⟩,h 8⟩
theorem bo2 (g:PcG) (i:Nat):g.at ((0:Nat):Int) i=g.st i:=by
 unfold PcG.at;exact lb (by omega)
theorem bm1 {g:PcG}(hg:PcOK g) {k:Nat}(hk:k<=(g.a1-g.a0).toNat) (hlt:g.a0+k<g.a1):(g.a0+k-g.s.x0).toNat<g.ns/\k<(g.a1-g.a0).toNat:=by
 have:=hg.n; have:=hg.l; have:=hg.h
 omega
theorem bm0 {g:PcG}(hg:PcOK g) {k:Nat}(hlt:g.a0+k<g.a1):xyOK (g.a0+k) g.s.y:=by
 have:=hg.l; have:=hg.h; have:=hg.x0; have:=hg.x1
 exact ⟨by omega,hg.y⟩
theorem a94 {g:PcG}(hg:PcOK g) (k:Nat):g.at k (g.a0+k-g.s.x0).toNat=g.st (g.a0+k-g.s.x0).toNat:=by
 have:=hg.l
 unfold PcG.at;exact lb (by omega)
theorem pc_b {g:PcG}(hg:PcOK g) {k:Nat}(hk:k<=(g.a1-g.a0).toNat) (hlt:g.a0+k<g.a1):(-9223372036854775808<=g.a0+k-g.s.x0/\g.a0+k-g.s.x0<=9223372036854775807)/\(0<=g.a0+k-g.s.x0/\g.a0+k-g.s.x0<g.ns)/\ -9223372036854775808<=g.a0+k+1/\g.a0+k+1<=9223372036854775807:=by
 have:=hg.n; have:=hg.l; have:=hg.h; have:=hg.x0; have:=hg.x1
 omega
theorem aA7 {g:PcG}(hg:PcOK g) {k:Nat}(hlt:g.a0+k<g.a1) (i j:Nat):(bif decide (i=(g.a0+k-g.s.x0).toNat/\0<=j/\j<9) then ae9 g.x (g.a0+k) g.s.y (g.bs (g.a0+k-g.s.x0).toNat) (j-0) else g.at k i j)=bif decide (j<9) then g.at ((k+1:Nat):Int) i j else g.at k i j:=by
 have hl:=hg.l;by_cases hj:j<9
 ·rw [lk hj,xK];by_cases hi:i=(g.a0+k-g.s.x0).toNat
  ·rw [lk ⟨hi,lm _,hj⟩,xK,ue];have e:g.s.x0+(i:Int)=g.a0+k:=by omega
   unfold PcG.at;rw [lg (by omega),e,hi]
  ·rw [li (fun h=>hi h.1),xm];unfold PcG.at;by_cases hc:g.a0<=g.s.x0+i/\g.s.x0+i<g.a0+k
   ·rw [lg hc,lg (by omega)]
   ·rw [lb hc,lb (by omega)]
 ·rw [li hj,li (fun h=>hj h.2.2),xm,xm]
theorem aP0 {g:PcG}{k:Nat}(hk:k<=(g.a1-g.a0).toNat) (hge:¬ g.a0+k<g.a1) (i:Nat):g.at k i=g.fin i:=by
 unfold PcG.at PcG.fin;by_cases hc:g.a0<=g.s.x0+i/\g.s.x0+i<g.a1
 ·rw [lg (by omega),lg hc]
 ·by_cases h2:g.a0<=g.s.x0+i/\g.s.x0+i<g.a0+k
  ·omega
  ·rw [lb h2,lb hc]
def pcI (g:PcG) (sv:SV):Inv:=⟨Nat,fun k=>k<=(g.a1-g.a0).toNat,fun k=>⟨[(1,.int .i64 g.a1),(2,.own 0 0),(3,.own 1 0),(4,.own 2 0),(5,.own 3 0),(8,.int .i64 (g.a0+k))],pcO g sv (g.at k)⟩,fun k=>(g.a1-g.a0).toNat-k⟩
noncomputable def spPc:FSpec:=ac3 63 [.arg 2,.arg 3,.arg 4,.arg 5,.cell 3 0] (γ:=PcG)
 (fun | .int _ a0:: .int _ a1::_,o=>some ⟨(Sx.intOf (refG (clG (o.getD 0 .dead) 0) 34)).toNat,itD (refG (clG (o.getD 0 .dead) 0)),stD (clG (o.getD 1 .dead)),aI4 (o.getD 4 .dead),stFD (o.getD 4 .dead),stFD (o.getD 4 .dead),a0,a1⟩ | _,_=>none)
 (fun g=>[.int .i64 g.a0,.int .i64 g.a1,.own 0 0,.own 1 0,.own 2 0,.own 3 0]) (fun g=>pcO g (srcX g.x.src) g.st) (fun g=>PcOK g/\g.bs=g.st) (fun _=> .tup 0 (lst [])) (fun g=>pcO g (srcX g.x.src) g.fin)
set_option maxHeartbeats 2000000 in
theorem ok_pc:aa2 Tryz.prog spPc:=by
 refine smW (specs:=[spS0,bQ0,spS3,aw8,aH7]) (⟨b42,bN1,b41,ax3,aF7,trivial⟩) Tryz.func63 (fun g=>(⟨[(1,.inv (pcI g (srcX g.x.src)))],[]⟩:Ann)) true ?_;rintro ⟨t,x,s,ns,st,bs,a0,a1⟩ ⟨hg,hbs⟩;have hbs:st=bs:=hbs.symm;subst hbs;by_cases k0:x.src.kind=0
 ·have e:srcX x.src = .fn 79 1 (lst [.ref 27 (lst (srcL x.src))]):=by rw [ar8]; unfold srcF srcN srcW srcG; rw [lg k0,lb (by omega),lb (by omega)]
  simp only [e];refine ab2 (B:=let T11:=fun p:Prop=>True/\True/\True/\True/\True/\True/\True/\True/\True/\True/\True/\p;let A:=Sx.Ask;let z39:=(86:Go.FuncId);let z38:=(112:Go.FuncId);let z35:=(Blend.aa4 x.blend.toNat=Blend.aa4 x.blend.toNat);let z27:=(True/\True);let z26:=(8:Nat);let z25:=(7:Nat);let z24:=(6:Nat);let z23:=(5:Nat);let z22:=(4:Nat);let z21:=(3:Nat);let z20:=(2:Nat);let z19:=(1:Nat);let z18:=(9:Nat);let z16:=(0:Int);let z36:=(z16=z16);let z13:=(A (z39=z39)/\True/\True/\A (z38=z38)/\True/\True/\A z35/\True);let z9:=(0:Nat);let z32:=(z9=z9);let z8:=(IntKind.i64=IntKind.i64);let q8:=fun p:Int=>A z8/\A (p=p);let z34:=(q8 a1);let z11:=(((True/\q8 s.y)/\q8 s.x0)/\q8 s.x1);let z5:=(IntKind.u8=IntKind.u8);let q5:=fun p:Int=>A z5/\A (p=p);let z2:=(PcG.mk t x s ns st st a0 a1);let z7:=(pcI z2 (SV.fn (79:Go.FuncId) z19 (lst [SV.ref (27:Nat) (lst (srcL x.src))])));let z1:=(True/\(((qT True x x)/\q8 ((↑t:Int)))/\A ((79:Go.FuncId)=(79:Go.FuncId))/\True/\((qM (((((((((((qI (True/\q8 x.src.kind) x.src.ink x.src.ink)/\q8 x.src.fx)/\q8 x.src.fy)/\q8 x.src.tx)/\q8 x.src.ty)/\q8 x.src.rad)/\A (x.src.ns=x.src.ns)/\∀ i:Nat,i<x.src.ns->(qI (True/\q8 ((x.src.st i).pos)) ((x.src.st i).ink) ((x.src.st i).ink)))/\q8 x.src.img.w)/\q8 x.src.img.h)/\A (x.src.img.n=x.src.img.n)/\∀ i:Nat,i<x.src.img.n->(qI True (x.src.img.px i) (x.src.img.px i)))/\A (x.src.img.sn=x.src.img.sn)/\∀ i:Nat,i<x.src.img.sn->True/\q5 (x.src.img.sf i)) x.src.img.m x.src.img.m)/\A (x.src.img.smooth=x.src.img.smooth))/\A (x.src.img.rep=x.src.img.rep))/\A (z39=z39)/\True/\True/\A (z38=z38)/\True/\True/\A z35/\True);True/\True/\(∃ g:Nat,let z33:=(↑g:Int); A (z7.pre g)/\True/\(z34/\A z32/\A z32/\A z32/\A z32/\(A z8/\A (a0=a0+z33))/\True)/\z1/\z11/\z27/\z27/\(A (ns=ns)/\∀ i:Nat,i<ns->(((((((((True/\A z5/\A (st i z9=z2.at z33 i z9))/\A z5/\A (st i z19=z2.at z33 i z19))/\A z5/\A (st i z20=z2.at z33 i z20))/\A z5/\A (st i z21=z2.at z33 i z21))/\A z5/\A (st i z22=z2.at z33 i z22))/\A z5/\A (st i z23=z2.at z33 i z23))/\A z5/\A (st i z24=z2.at z33 i z24))/\A z5/\A (st i z25=z2.at z33 i z25))/\A z5/\A (st i z26=z2.at z33 i z26)))/\True)/\∀ g:Nat,let z10:=(↑g:Int);let z30:=(Lsc.Src.at x.src (a0+z10) s.y);let z17:=((-9223372036854775808:Int)<=a0+z10+(1:Int)/\a0+z10+(1:Int)<=(9223372036854775807:Int));let z15:=(z16<=a0+z10-s.x0/\a0+z10-s.x0<(↑ns:Int));let z14:=(Lsc.Src.al x.src (a0+z10) s.y);let z31:=(q5 (aa9 z14 x.alpha));let z12:=((-9223372036854775808:Int)<=a0+z10-s.x0/\a0+z10-s.x0<=(9223372036854775807:Int));let z6:=(a0+z10-s.x0);let z40:=(z6.toNat<ns);let z37:=(fun (j:Nat)=>z2.at z10 z6.toNat (z9+j));let z4:=(chp True (fun j:Nat=>q5 (z2.at z10 z6.toNat (z9+j))) 9);let z3:=(Cmp.PaintG.mk z37 (fun (j:Nat)=>Sx.intOf (lst (inkL z30) (z9+j))) (aa9 z14 x.alpha) (Blend.aa4 x.blend.toNat) x.over);let z0:=(Cmp.PaintG.mk z37 (fun (j:Nat)=>Sx.intOf (ak0 [Go.Value.int IntKind.u8 z16,Go.Value.int IntKind.u8 z16,Go.Value.int IntKind.u8 z16,Go.Value.int IntKind.u8 z16,Go.Value.int IntKind.u8 z16,Go.Value.int IntKind.u8 z16,Go.Value.int IntKind.u8 z16,Go.Value.int IntKind.u8 z16] (z9+j))) (aa9 z14 x.alpha) (Blend.aa4 x.blend.toNat) x.over); z7.pre g->True/\True/\True/\Br (decide (a0+z10<a1)) (True/\True/\True/\True/\True/\True/\True/\(((q8 (a0+z10))/\(q8 s.y)/\(qS True x.src x.src)/\True)/\A (x.src.kind=z16))/\T11 (True/\(((q5 (Lsc.Src.al x.src (a0+z10) s.y))/\(q5 x.alpha)/\True)/\A ((z16<=Lsc.Src.al x.src (a0+z10) s.y/\Lsc.Src.al x.src (a0+z10) s.y<=(255:Int))/\z16<=x.alpha/\x.alpha<=(255:Int)))/\True/\True/\True/\Br (decide (aa9 z14 x.alpha=z16)) (True/\True/\True/\True/\True/\True/\A z12/\True/\True/\True/\True/\A z12/\A z15/\A z40/\T11 (((z4/\((((((((True/\A z5/\A z36)/\A z5/\A z36)/\A z5/\A z36)/\A z5/\A z36)/\A z5/\A z36)/\A z5/\A z36)/\A z5/\A z36)/\A z5/\A z36)/\z31/\z13/\A (x.over=x.over)/\True)/\A z0.ok)/\A z15/\A z40/\True/\A z17/\True/\∃ (g':Nat),let z28:=(↑g':Int); A (z7.pre g')/\True/\((z34/\A z32/\A z32/\A z32/\A z32/\(A z8/\A (a0+z10+(1:Int)=a0+z28))/\True)/\z1/\z11/\z27/\z27/\(A (ns=ns)/\∀ i:Nat,i<ns->(((((((((True/\A z5/\A ((bif decide (i=z6.toNat/\z9<=z9/\z9<z9+z18) then z0.res (z9-z9) else z2.at z10 i z9)=z2.at z28 i z9))/\A z5/\A ((bif decide (i=z6.toNat/\z9<=z19/\z19<z9+z18) then z0.res (z19-z9) else z2.at z10 i z19)=z2.at z28 i z19))/\A z5/\A ((bif decide (i=z6.toNat/\z9<=z20/\z20<z9+z18) then z0.res (z20-z9) else z2.at z10 i z20)=z2.at z28 i z20))/\A z5/\A ((bif decide (i=z6.toNat/\z9<=z21/\z21<z9+z18) then z0.res (z21-z9) else z2.at z10 i z21)=z2.at z28 i z21))/\A z5/\A ((bif decide (i=z6.toNat/\z9<=z22/\z22<z9+z18) then z0.res (z22-z9) else z2.at z10 i z22)=z2.at z28 i z22))/\A z5/\A ((bif decide (i=z6.toNat/\z9<=z23/\z23<z9+z18) then z0.res (z23-z9) else z2.at z10 i z23)=z2.at z28 i z23))/\A z5/\A ((bif decide (i=z6.toNat/\z9<=z24/\z24<z9+z18) then z0.res (z24-z9) else z2.at z10 i z24)=z2.at z28 i z24))/\A z5/\A ((bif decide (i=z6.toNat/\z9<=z25/\z25<z9+z18) then z0.res (z25-z9) else z2.at z10 i z25)=z2.at z28 i z25))/\A z5/\A ((bif decide (i=z6.toNat/\z9<=z26/\z26<z9+z18) then z0.res (z26-z9) else z2.at z10 i z26)=z2.at z28 i z26)))/\True)/\A (z7.meas g'<z7.meas g))) (True/\True/\True/\True/\A z12/\True/\True/\True/\True/\A z12/\A z15/\A z40/\T11 (((z4/\(qI True z30 z30)/\z31/\z13/\A (x.over=x.over)/\True)/\A z3.ok)/\A z15/\A z40/\True/\A z17/\True/\∃ (g':Nat),let z29:=(↑g':Int); A (z7.pre g')/\True/\((z34/\A z32/\A z32/\A z32/\A z32/\(A z8/\A (a0+z10+(1:Int)=a0+z29))/\True)/\z1/\z11/\z27/\z27/\(A (ns=ns)/\∀ i:Nat,i<ns->(((((((((True/\A z5/\A ((bif decide (i=z6.toNat/\z9<=z9/\z9<z9+z18) then z3.res (z9-z9) else z2.at z10 i z9)=z2.at z29 i z9))/\A z5/\A ((bif decide (i=z6.toNat/\z9<=z19/\z19<z9+z18) then z3.res (z19-z9) else z2.at z10 i z19)=z2.at z29 i z19))/\A z5/\A ((bif decide (i=z6.toNat/\z9<=z20/\z20<z9+z18) then z3.res (z20-z9) else z2.at z10 i z20)=z2.at z29 i z20))/\A z5/\A ((bif decide (i=z6.toNat/\z9<=z21/\z21<z9+z18) then z3.res (z21-z9) else z2.at z10 i z21)=z2.at z29 i z21))/\A z5/\A ((bif decide (i=z6.toNat/\z9<=z22/\z22<z9+z18) then z3.res (z22-z9) else z2.at z10 i z22)=z2.at z29 i z22))/\A z5/\A ((bif decide (i=z6.toNat/\z9<=z23/\z23<z9+z18) then z3.res (z23-z9) else z2.at z10 i z23)=z2.at z29 i z23))/\A z5/\A ((bif decide (i=z6.toNat/\z9<=z24/\z24<z9+z18) then z3.res (z24-z9) else z2.at z10 i z24)=z2.at z29 i z24))/\A z5/\A ((bif decide (i=z6.toNat/\z9<=z25/\z25<z9+z18) then z3.res (z25-z9) else z2.at z10 i z25)=z2.at z29 i z25))/\A z5/\A ((bif decide (i=z6.toNat/\z9<=z26/\z26<z9+z18) then z3.res (z26-z9) else z2.at z10 i z26)=z2.at z29 i z26)))/\True)/\A (z7.meas g'<z7.meas g))))) (True/\True/\z27/\z1/\z11/\z27/\z27/\(A (ns=ns)/\∀ i:Nat,i<ns->(((((((((True/\A z5/\A (z2.at z10 i z9=z2.fin i z9))/\A z5/\A (z2.at z10 i z19=z2.fin i z19))/\A z5/\A (z2.at z10 i z20=z2.fin i z20))/\A z5/\A (z2.at z10 i z21=z2.fin i z21))/\A z5/\A (z2.at z10 i z22=z2.fin i z22))/\A z5/\A (z2.at z10 i z23=z2.fin i z23))/\A z5/\A (z2.at z10 i z24=z2.fin i z24))/\A z5/\A (z2.at z10 i z25=z2.fin i z25))/\A z5/\A (z2.at z10 i z26=z2.fin i z26)))/\True)) (by kernel_rfl) ?_;simp only [chp];delta qG qI qM qS qT
  simp only [cln];refine ⟨⟨0,lm _,(uY _).symm,fun i _=>all9 fun j=>(congrFun (bo2 ⟨t,x,s,ns,st,st,a0,a1⟩ i) j).symm⟩,fun k hk=>⟨fun hlt=>?_,fun hge=>?_⟩⟩
  ·obtain ⟨b1,b2⟩:=bm1 hg hk hlt;have hxy:=bm0 hg (k:=k) hlt;have hu:isU9 (st (a0+k-s.x0).toNat):=hg.bs _ b1;have hal:0<=x.alpha/\x.alpha<=255:=hg.fill.alpha;have hq:0<=Src.al x.src (a0+k) s.y/\Src.al x.src (a0+k) s.y<=255:=(aH4 hg.fill.src hxy).2;have st9:∀ i j,i<ns->(bif decide (i=(a0+k-s.x0).toNat/\0<=j/\j<9) then ae9 x (a0+k) s.y (st (a0+k-s.x0).toNat) (j-0) else PcG.at ⟨t,x,s,ns,st,st,a0,a1⟩ k i j)=bif decide (j<9) then PcG.at ⟨t,x,s,ns,st,st,a0,a1⟩ ((k+1:Nat):Int) i j else PcG.at ⟨t,x,s,ns,st,st,a0,a1⟩ k i j:=fun i j hi=>aA7 hg hlt i j
   have mm:k+1<=(a1-a0).toNat/\(a1-a0).toNat-(k+1)<(a1-a0).toNat-k:=by omega
   have he:(fun j=>PcG.at ⟨t,x,s,ns,st,st,a0,a1⟩ k (a0+k-s.x0).toNat j)=st (a0+k-s.x0).toNat:=(a94 (g:=⟨t,x,s,ns,st,st,a0,a1⟩) hg k)
   have hb:=pc_b hg hk hlt;simp only [zf8,he];refine ⟨k0,⟨hq,hal⟩,fun h0=>?_,fun h0=>?_⟩
   ·have hP:PaintG.ok ⟨st (a0+k-s.x0).toNat,inkF z8,aa9 (Src.al x.src (a0+k) s.y) x.alpha,aa4 x.blend.toNat,x.over⟩:=by
     have:=af2 hg.fill hxy hu
     rwa [lg (show It.q x (a0+k) s.y=0 from h0)] at this
    have hr:PaintG.res ⟨st (a0+k-s.x0).toNat,inkF z8,aa9 (Src.al x.src (a0+k) s.y) x.alpha,aa4 x.blend.toNat,x.over⟩=ae9 x (a0+k) s.y (st (a0+k-s.x0).toNat):=by
     unfold ae9;rw [lg (show It.q x (a0+k) s.y=0 from h0)];rfl
    simp only [hr];exact ⟨hb.1,hb.1,hb.2.1,b1,hP,hb.2.1,b1,hb.2.2,k+1,mm.1,⟨by omega,fun i hi=>⟨⟨⟨⟨⟨⟨⟨⟨st9 i 0 hi,st9 i 1 hi⟩,st9 i 2 hi⟩,st9 i 3 hi⟩,st9 i 4 hi⟩,st9 i 5 hi⟩,st9 i 6 hi⟩,st9 i 7 hi⟩,st9 i 8 hi⟩⟩,mm.2⟩
   ·have hP:PaintG.ok ⟨st (a0+k-s.x0).toNat,inkF (Src.at x.src (a0+k) s.y),aa9 (Src.al x.src (a0+k) s.y) x.alpha,aa4 x.blend.toNat,x.over⟩:=by
     have:=af2 hg.fill hxy hu
     rwa [lb (show ¬ It.q x (a0+k) s.y=0 from h0)] at this
    have hr:PaintG.res ⟨st (a0+k-s.x0).toNat,inkF (Src.at x.src (a0+k) s.y),aa9 (Src.al x.src (a0+k) s.y) x.alpha,aa4 x.blend.toNat,x.over⟩=ae9 x (a0+k) s.y (st (a0+k-s.x0).toNat):=by
     unfold ae9;rw [lb (show ¬ It.q x (a0+k) s.y=0 from h0)];rfl
    have eF:(fun j=>Sx.intOf (lst (inkL (Src.at x.src (a0+k) s.y)) j))=inkF (Src.at x.src (a0+k) s.y):=rfl;simp only [eF,hr];exact ⟨hb.1,hb.1,hb.2.1,b1,hP,hb.2.1,b1,hb.2.2,k+1,mm.1,⟨by omega,fun i hi=>⟨⟨⟨⟨⟨⟨⟨⟨st9 i 0 hi,st9 i 1 hi⟩,st9 i 2 hi⟩,st9 i 3 hi⟩,st9 i 4 hi⟩,st9 i 5 hi⟩,st9 i 6 hi⟩,st9 i 7 hi⟩,st9 i 8 hi⟩⟩,mm.2⟩
  ·exact fun i _=>all9 fun j=>congrFun (aP0 (g:=⟨t,x,s,ns,st,st,a0,a1⟩) hk hge i) j
 by_cases k3:x.src.kind=3
 ·have e:srcX x.src = .fn 82 1 (lst [.ref 1 (lst [atS x.src.img])]):=by rw [ar8]; unfold srcF srcN srcW srcG; rw [lb k0,lg k3,lg k3,lg k3]
  simp only [e];refine ab2 (B:=let T11:=fun p:Prop=>True/\True/\True/\True/\True/\True/\True/\True/\True/\True/\True/\p;let A:=Sx.Ask;let z42:=(81:Go.FuncId);let z41:=(86:Go.FuncId);let z40:=(112:Go.FuncId);let z36:=(Blend.aa4 x.blend.toNat=Blend.aa4 x.blend.toNat);let z30:=(True/\True);let z29:=(8:Nat);let z28:=(7:Nat);let z27:=(6:Nat);let z26:=(5:Nat);let z25:=(4:Nat);let z24:=(3:Nat);let z23:=(2:Nat);let z20:=(9:Nat);let z19:=(1:Nat);let z17:=(0:Int);let z37:=(z17=z17);let z15:=(A (z41=z41)/\True/\True/\A (z40=z40)/\True/\True/\A z36/\True);let z12:=(invM x.src.img.m);let z10:=(0:Nat);let z39:=(by4 (lst [atS x.src.img] z10));let z22:=(z10=z10);let z8:=(IntKind.i64=IntKind.i64);let q8:=fun p:Int=>A z8/\A (p=p);let z35:=(q8 a1);let z13:=(((True/\q8 s.y)/\q8 s.x0)/\q8 s.x1);let z6:=(IntKind.u8=IntKind.u8);let q6:=fun p:Int=>A z6/\A (p=p);let z3:=(PcG.mk t x s ns st st a0 a1);let z9:=(pcI z3 (SV.fn (82:Go.FuncId) z19 (lst [SV.ref z19 (lst [atS x.src.img])])));let z2:=(True/\(((qT True x x)/\q8 ((↑t:Int)))/\A ((82:Go.FuncId)=(82:Go.FuncId))/\True/\True/\A (z42=z42)/\True/\((((((qG True x.src.img x.src.img)/\q8 z12.a)/\q8 z12.b)/\q8 z12.c)/\q8 z12.d)/\q8 z12.e)/\q8 z12.f)/\A (z41=z41)/\True/\True/\A (z40=z40)/\True/\True/\A z36/\True);True/\True/\(∃ g:Nat,let z34:=(↑g:Int); A (z9.pre g)/\True/\(z35/\A z22/\A z22/\A z22/\A z22/\(A z8/\A (a0=a0+z34))/\True)/\z2/\z13/\z30/\z30/\(A (ns=ns)/\∀ i:Nat,i<ns->(((((((((True/\A z6/\A (st i z10=z3.at z34 i z10))/\A z6/\A (st i z19=z3.at z34 i z19))/\A z6/\A (st i z23=z3.at z34 i z23))/\A z6/\A (st i z24=z3.at z34 i z24))/\A z6/\A (st i z25=z3.at z34 i z25))/\A z6/\A (st i z26=z3.at z34 i z26))/\A z6/\A (st i z27=z3.at z34 i z27))/\A z6/\A (st i z28=z3.at z34 i z28))/\A z6/\A (st i z29=z3.at z34 i z29)))/\True)/\∀ g:Nat,let z11:=(↑g:Int);let z18:=((-9223372036854775808:Int)<=a0+z11+(1:Int)/\a0+z11+(1:Int)<=(9223372036854775807:Int));let z16:=(z17<=a0+z11-s.x0/\a0+z11-s.x0<(↑ns:Int));let z14:=((-9223372036854775808:Int)<=a0+z11-s.x0/\a0+z11-s.x0<=(9223372036854775807:Int));let z7:=(a0+z11-s.x0);let z43:=(z7.toNat<ns);let z38:=(fun (j:Nat)=>z3.at z11 z7.toNat (z10+j));let z5:=(SiG.mk z39 (a0+z11) s.y);let z31:=(q6 (aa9 z5.q.soft x.alpha));let z21:=(if z5.q.soft=z17 then Lsc.z8 else z5.q.ink);let z4:=(chp True (fun j:Nat=>q6 (z3.at z11 z7.toNat (z10+j))) 9);let z1:=(Cmp.PaintG.mk z38 (fun (j:Nat)=>Sx.intOf (lst (inkL z21) (z10+j))) (aa9 z5.q.soft x.alpha) (Blend.aa4 x.blend.toNat) x.over);let z0:=(Cmp.PaintG.mk z38 (fun (j:Nat)=>Sx.intOf (ak0 [Go.Value.int IntKind.u8 z17,Go.Value.int IntKind.u8 z17,Go.Value.int IntKind.u8 z17,Go.Value.int IntKind.u8 z17,Go.Value.int IntKind.u8 z17,Go.Value.int IntKind.u8 z17,Go.Value.int IntKind.u8 z17,Go.Value.int IntKind.u8 z17] (z10+j))) (aa9 z5.q.soft x.alpha) (Blend.aa4 x.blend.toNat) x.over); z9.pre g->True/\True/\True/\Br (decide (a0+z11<a1)) (True/\True/\True/\True/\True/\True/\True/\(((q8 (a0+z11))/\(q8 s.y)/\(True/\A (z42=z42)/\True/\((((((((qM ((((True/\q8 x.src.img.w)/\q8 x.src.img.h)/\A (x.src.img.n=x.src.img.n)/\∀ i:Nat,i<x.src.img.n->(qI True (x.src.img.px i) (x.src.img.px i)))/\A (x.src.img.sn=x.src.img.sn)/\∀ i:Nat,i<x.src.img.sn->True/\A z6/\A (x.src.img.sf i=z39.sf i)) x.src.img.m x.src.img.m)/\A (x.src.img.smooth=x.src.img.smooth))/\A (x.src.img.rep=x.src.img.rep))/\q8 z12.a)/\q8 z12.b)/\q8 z12.c)/\q8 z12.d)/\q8 z12.e)/\q8 z12.f)/\True)/\A z5.q.ok)/\T11 (True/\(((q6 z5.q.soft)/\(q6 x.alpha)/\True)/\A ((z17<=z5.q.soft/\z5.q.soft<=(255:Int))/\z17<=x.alpha/\x.alpha<=(255:Int)))/\True/\True/\True/\Br (decide (aa9 z5.q.soft x.alpha=z17)) (True/\True/\True/\True/\True/\True/\A z14/\True/\True/\True/\True/\A z14/\A z16/\A z43/\T11 (((z4/\((((((((True/\A z6/\A z37)/\A z6/\A z37)/\A z6/\A z37)/\A z6/\A z37)/\A z6/\A z37)/\A z6/\A z37)/\A z6/\A z37)/\A z6/\A z37)/\z31/\z15/\A (x.over=x.over)/\True)/\A z0.ok)/\A z16/\A z43/\True/\A z18/\True/\∃ (g':Nat),let z32:=(↑g':Int); A (z9.pre g')/\True/\((z35/\A z22/\A z22/\A z22/\A z22/\(A z8/\A (a0+z11+(1:Int)=a0+z32))/\True)/\z2/\z13/\z30/\z30/\(A (ns=ns)/\∀ i:Nat,i<ns->(((((((((True/\A z6/\A ((bif decide (i=z7.toNat/\z10<=z10/\z10<z10+z20) then z0.res (z10-z10) else z3.at z11 i z10)=z3.at z32 i z10))/\A z6/\A ((bif decide (i=z7.toNat/\z10<=z19/\z19<z10+z20) then z0.res (z19-z10) else z3.at z11 i z19)=z3.at z32 i z19))/\A z6/\A ((bif decide (i=z7.toNat/\z10<=z23/\z23<z10+z20) then z0.res (z23-z10) else z3.at z11 i z23)=z3.at z32 i z23))/\A z6/\A ((bif decide (i=z7.toNat/\z10<=z24/\z24<z10+z20) then z0.res (z24-z10) else z3.at z11 i z24)=z3.at z32 i z24))/\A z6/\A ((bif decide (i=z7.toNat/\z10<=z25/\z25<z10+z20) then z0.res (z25-z10) else z3.at z11 i z25)=z3.at z32 i z25))/\A z6/\A ((bif decide (i=z7.toNat/\z10<=z26/\z26<z10+z20) then z0.res (z26-z10) else z3.at z11 i z26)=z3.at z32 i z26))/\A z6/\A ((bif decide (i=z7.toNat/\z10<=z27/\z27<z10+z20) then z0.res (z27-z10) else z3.at z11 i z27)=z3.at z32 i z27))/\A z6/\A ((bif decide (i=z7.toNat/\z10<=z28/\z28<z10+z20) then z0.res (z28-z10) else z3.at z11 i z28)=z3.at z32 i z28))/\A z6/\A ((bif decide (i=z7.toNat/\z10<=z29/\z29<z10+z20) then z0.res (z29-z10) else z3.at z11 i z29)=z3.at z32 i z29)))/\True)/\A (z9.meas g'<z9.meas g))) (True/\True/\True/\True/\A z14/\True/\True/\True/\True/\A z14/\A z16/\A z43/\T11 (((z4/\(qI True z21 z21)/\z31/\z15/\A (x.over=x.over)/\True)/\A z1.ok)/\A z16/\A z43/\True/\A z18/\True/\∃ (g':Nat),let z33:=(↑g':Int); A (z9.pre g')/\True/\((z35/\A z22/\A z22/\A z22/\A z22/\(A z8/\A (a0+z11+(1:Int)=a0+z33))/\True)/\z2/\z13/\z30/\z30/\(A (ns=ns)/\∀ i:Nat,i<ns->(((((((((True/\A z6/\A ((bif decide (i=z7.toNat/\z10<=z10/\z10<z10+z20) then z1.res (z10-z10) else z3.at z11 i z10)=z3.at z33 i z10))/\A z6/\A ((bif decide (i=z7.toNat/\z10<=z19/\z19<z10+z20) then z1.res (z19-z10) else z3.at z11 i z19)=z3.at z33 i z19))/\A z6/\A ((bif decide (i=z7.toNat/\z10<=z23/\z23<z10+z20) then z1.res (z23-z10) else z3.at z11 i z23)=z3.at z33 i z23))/\A z6/\A ((bif decide (i=z7.toNat/\z10<=z24/\z24<z10+z20) then z1.res (z24-z10) else z3.at z11 i z24)=z3.at z33 i z24))/\A z6/\A ((bif decide (i=z7.toNat/\z10<=z25/\z25<z10+z20) then z1.res (z25-z10) else z3.at z11 i z25)=z3.at z33 i z25))/\A z6/\A ((bif decide (i=z7.toNat/\z10<=z26/\z26<z10+z20) then z1.res (z26-z10) else z3.at z11 i z26)=z3.at z33 i z26))/\A z6/\A ((bif decide (i=z7.toNat/\z10<=z27/\z27<z10+z20) then z1.res (z27-z10) else z3.at z11 i z27)=z3.at z33 i z27))/\A z6/\A ((bif decide (i=z7.toNat/\z10<=z28/\z28<z10+z20) then z1.res (z28-z10) else z3.at z11 i z28)=z3.at z33 i z28))/\A z6/\A ((bif decide (i=z7.toNat/\z10<=z29/\z29<z10+z20) then z1.res (z29-z10) else z3.at z11 i z29)=z3.at z33 i z29)))/\True)/\A (z9.meas g'<z9.meas g))))) (True/\True/\z30/\z2/\z13/\z30/\z30/\(A (ns=ns)/\∀ i:Nat,i<ns->(((((((((True/\A z6/\A (z3.at z11 i z10=z3.fin i z10))/\A z6/\A (z3.at z11 i z19=z3.fin i z19))/\A z6/\A (z3.at z11 i z23=z3.fin i z23))/\A z6/\A (z3.at z11 i z24=z3.fin i z24))/\A z6/\A (z3.at z11 i z25=z3.fin i z25))/\A z6/\A (z3.at z11 i z26=z3.fin i z26))/\A z6/\A (z3.at z11 i z27=z3.fin i z27))/\A z6/\A (z3.at z11 i z28=z3.fin i z28))/\A z6/\A (z3.at z11 i z29=z3.fin i z29)))/\True)) (by kernel_rfl) ?_;simp only [chp];delta qG qI qM qS qT
  simp only [cln];have eI:by4 (lst [atS x.src.img] 0)=x.src.img:=rfl;have e1:∀ X:Int,(SiG.mk x.src.img X s.y).q.soft=Src.al x.src X s.y:=fun X=>by unfold Src.al; rw [lg k3]; rfl
  have e2:∀ X:Int,(if Src.al x.src X s.y=0 then z8 else (SiG.mk x.src.img X s.y).q.ink)=Src.at x.src X s.y:=fun X=>by unfold Src.at; rw [lb k0,lg k3]; unfold Src.iI; rw [<-e1 X]; rfl
  simp only [eI,e1,e2];refine ⟨⟨0,lm _,(uY _).symm,fun i _=>all9 fun j=>(congrFun (bo2 ⟨t,x,s,ns,st,st,a0,a1⟩ i) j).symm⟩,fun k hk=>⟨fun hlt=>?_,fun hge=>?_⟩⟩
  ·obtain ⟨b1,b2⟩:=bm1 hg hk hlt;have hxy:=bm0 hg (k:=k) hlt;have hu:isU9 (st (a0+k-s.x0).toNat):=hg.bs _ b1;have hal:0<=x.alpha/\x.alpha<=255:=hg.fill.alpha;have hq:0<=Src.al x.src (a0+k) s.y/\Src.al x.src (a0+k) s.y<=255:=(aH4 hg.fill.src hxy).2;have st9:∀ i j,i<ns->(bif decide (i=(a0+k-s.x0).toNat/\0<=j/\j<9) then ae9 x (a0+k) s.y (st (a0+k-s.x0).toNat) (j-0) else PcG.at ⟨t,x,s,ns,st,st,a0,a1⟩ k i j)=bif decide (j<9) then PcG.at ⟨t,x,s,ns,st,st,a0,a1⟩ ((k+1:Nat):Int) i j else PcG.at ⟨t,x,s,ns,st,st,a0,a1⟩ k i j:=fun i j hi=>aA7 hg hlt i j
   have mm:k+1<=(a1-a0).toNat/\(a1-a0).toNat-(k+1)<(a1-a0).toNat-k:=by omega
   have he:(fun j=>PcG.at ⟨t,x,s,ns,st,st,a0,a1⟩ k (a0+k-s.x0).toNat j)=st (a0+k-s.x0).toNat:=(a94 (g:=⟨t,x,s,ns,st,st,a0,a1⟩) hg k)
   have hb:=pc_b hg hk hlt;simp only [zf8,he];refine ⟨⟨fun _ _=>by trivial,bX5 hg.fill.src k3 hxy⟩,⟨hq,hal⟩,fun h0=>?_,fun h0=>?_⟩
   ·have hP:PaintG.ok ⟨st (a0+k-s.x0).toNat,inkF z8,aa9 (Src.al x.src (a0+k) s.y) x.alpha,aa4 x.blend.toNat,x.over⟩:=by
     have:=af2 hg.fill hxy hu
     rwa [lg (show It.q x (a0+k) s.y=0 from h0)] at this
    have hr:PaintG.res ⟨st (a0+k-s.x0).toNat,inkF z8,aa9 (Src.al x.src (a0+k) s.y) x.alpha,aa4 x.blend.toNat,x.over⟩=ae9 x (a0+k) s.y (st (a0+k-s.x0).toNat):=by
     unfold ae9;rw [lg (show It.q x (a0+k) s.y=0 from h0)];rfl
    simp only [hr];exact ⟨hb.1,hb.1,hb.2.1,b1,hP,hb.2.1,b1,hb.2.2,k+1,mm.1,⟨by omega,fun i hi=>⟨⟨⟨⟨⟨⟨⟨⟨st9 i 0 hi,st9 i 1 hi⟩,st9 i 2 hi⟩,st9 i 3 hi⟩,st9 i 4 hi⟩,st9 i 5 hi⟩,st9 i 6 hi⟩,st9 i 7 hi⟩,st9 i 8 hi⟩⟩,mm.2⟩
   ·have hP:PaintG.ok ⟨st (a0+k-s.x0).toNat,inkF (Src.at x.src (a0+k) s.y),aa9 (Src.al x.src (a0+k) s.y) x.alpha,aa4 x.blend.toNat,x.over⟩:=by
     have:=af2 hg.fill hxy hu
     rwa [lb (show ¬ It.q x (a0+k) s.y=0 from h0)] at this
    have hr:PaintG.res ⟨st (a0+k-s.x0).toNat,inkF (Src.at x.src (a0+k) s.y),aa9 (Src.al x.src (a0+k) s.y) x.alpha,aa4 x.blend.toNat,x.over⟩=ae9 x (a0+k) s.y (st (a0+k-s.x0).toNat):=by
     unfold ae9;rw [lb (show ¬ It.q x (a0+k) s.y=0 from h0)];rfl
    have eF:(fun j=>Sx.intOf (lst (inkL (Src.at x.src (a0+k) s.y)) j))=inkF (Src.at x.src (a0+k) s.y):=rfl;simp only [eF,hr];exact ⟨hb.1,hb.1,hb.2.1,b1,hP,hb.2.1,b1,hb.2.2,k+1,mm.1,⟨by omega,fun i hi=>⟨⟨⟨⟨⟨⟨⟨⟨st9 i 0 hi,st9 i 1 hi⟩,st9 i 2 hi⟩,st9 i 3 hi⟩,st9 i 4 hi⟩,st9 i 5 hi⟩,st9 i 6 hi⟩,st9 i 7 hi⟩,st9 i 8 hi⟩⟩,mm.2⟩
  ·exact fun i _=>all9 fun j=>congrFun (aP0 (g:=⟨t,x,s,ns,st,st,a0,a1⟩) hk hge i) j
 ·have e:srcX x.src = .fn 83 1 (lst [.ref 27 (lst (srcL x.src))]):=by rw [ar8]; unfold srcF srcN srcW srcG; rw [lb k0,lb k3,lb k3,lb k3]
  simp only [e];refine ab2 (B:=let T11:=fun p:Prop=>True/\True/\True/\True/\True/\True/\True/\True/\True/\True/\True/\p;let A:=Sx.Ask;let z39:=(86:Go.FuncId);let z38:=(112:Go.FuncId);let z35:=(Blend.aa4 x.blend.toNat=Blend.aa4 x.blend.toNat);let z27:=(True/\True);let z26:=(8:Nat);let z25:=(7:Nat);let z24:=(6:Nat);let z23:=(5:Nat);let z22:=(4:Nat);let z21:=(3:Nat);let z20:=(2:Nat);let z19:=(1:Nat);let z18:=(9:Nat);let z16:=(0:Int);let z36:=(z16=z16);let z13:=(A (z39=z39)/\True/\True/\A (z38=z38)/\True/\True/\A z35/\True);let z9:=(0:Nat);let z32:=(z9=z9);let z8:=(IntKind.i64=IntKind.i64);let q8:=fun p:Int=>A z8/\A (p=p);let z34:=(q8 a1);let z11:=(((True/\q8 s.y)/\q8 s.x0)/\q8 s.x1);let z5:=(IntKind.u8=IntKind.u8);let q5:=fun p:Int=>A z5/\A (p=p);let z2:=(PcG.mk t x s ns st st a0 a1);let z7:=(pcI z2 (SV.fn (83:Go.FuncId) z19 (lst [SV.ref (27:Nat) (lst (srcL x.src))])));let z1:=(True/\(((qT True x x)/\q8 ((↑t:Int)))/\A ((83:Go.FuncId)=(83:Go.FuncId))/\True/\((qM (((((((((((qI (True/\q8 x.src.kind) x.src.ink x.src.ink)/\q8 x.src.fx)/\q8 x.src.fy)/\q8 x.src.tx)/\q8 x.src.ty)/\q8 x.src.rad)/\A (x.src.ns=x.src.ns)/\∀ i:Nat,i<x.src.ns->(qI (True/\q8 ((x.src.st i).pos)) ((x.src.st i).ink) ((x.src.st i).ink)))/\q8 x.src.img.w)/\q8 x.src.img.h)/\A (x.src.img.n=x.src.img.n)/\∀ i:Nat,i<x.src.img.n->(qI True (x.src.img.px i) (x.src.img.px i)))/\A (x.src.img.sn=x.src.img.sn)/\∀ i:Nat,i<x.src.img.sn->True/\q5 (x.src.img.sf i)) x.src.img.m x.src.img.m)/\A (x.src.img.smooth=x.src.img.smooth))/\A (x.src.img.rep=x.src.img.rep))/\A (z39=z39)/\True/\True/\A (z38=z38)/\True/\True/\A z35/\True);True/\True/\(∃ g:Nat,let z33:=(↑g:Int); A (z7.pre g)/\True/\(z34/\A z32/\A z32/\A z32/\A z32/\(A z8/\A (a0=a0+z33))/\True)/\z1/\z11/\z27/\z27/\(A (ns=ns)/\∀ i:Nat,i<ns->(((((((((True/\A z5/\A (st i z9=z2.at z33 i z9))/\A z5/\A (st i z19=z2.at z33 i z19))/\A z5/\A (st i z20=z2.at z33 i z20))/\A z5/\A (st i z21=z2.at z33 i z21))/\A z5/\A (st i z22=z2.at z33 i z22))/\A z5/\A (st i z23=z2.at z33 i z23))/\A z5/\A (st i z24=z2.at z33 i z24))/\A z5/\A (st i z25=z2.at z33 i z25))/\A z5/\A (st i z26=z2.at z33 i z26)))/\True)/\∀ g:Nat,let z10:=(↑g:Int);let z40:=(a0+z10);let z30:=(Lsc.Src.at x.src z40 s.y);let z17:=((-9223372036854775808:Int)<=a0+z10+(1:Int)/\a0+z10+(1:Int)<=(9223372036854775807:Int));let z15:=(z16<=a0+z10-s.x0/\a0+z10-s.x0<(↑ns:Int));let z14:=(Lsc.Src.al x.src z40 s.y);let z31:=(q5 (aa9 z14 x.alpha));let z12:=((-9223372036854775808:Int)<=a0+z10-s.x0/\a0+z10-s.x0<=(9223372036854775807:Int));let z6:=(a0+z10-s.x0);let z41:=(z6.toNat<ns);let z37:=(fun (j:Nat)=>z2.at z10 z6.toNat (z9+j));let z4:=(chp True (fun j:Nat=>q5 (z2.at z10 z6.toNat (z9+j))) 9);let z3:=(Cmp.PaintG.mk z37 (fun (j:Nat)=>Sx.intOf (lst (inkL z30) (z9+j))) (aa9 z14 x.alpha) (Blend.aa4 x.blend.toNat) x.over);let z0:=(Cmp.PaintG.mk z37 (fun (j:Nat)=>Sx.intOf (ak0 [Go.Value.int IntKind.u8 z16,Go.Value.int IntKind.u8 z16,Go.Value.int IntKind.u8 z16,Go.Value.int IntKind.u8 z16,Go.Value.int IntKind.u8 z16,Go.Value.int IntKind.u8 z16,Go.Value.int IntKind.u8 z16,Go.Value.int IntKind.u8 z16] (z9+j))) (aa9 z14 x.alpha) (Blend.aa4 x.blend.toNat) x.over); z7.pre g->True/\True/\True/\Br (decide (a0+z10<a1)) (True/\True/\True/\True/\True/\True/\True/\(((q8 (a0+z10))/\(q8 s.y)/\(qS True x.src x.src)/\True)/\A ((x.src.kind≠z16/\x.src.kind≠(3:Int))/\SrcOK x.src/\xyOK z40 s.y))/\T11 (True/\(((q5 (Lsc.Src.al x.src z40 s.y))/\(q5 x.alpha)/\True)/\A ((z16<=Lsc.Src.al x.src z40 s.y/\Lsc.Src.al x.src z40 s.y<=(255:Int))/\z16<=x.alpha/\x.alpha<=(255:Int)))/\True/\True/\True/\Br (decide (aa9 z14 x.alpha=z16)) (True/\True/\True/\True/\True/\True/\A z12/\True/\True/\True/\True/\A z12/\A z15/\A z41/\T11 (((z4/\((((((((True/\A z5/\A z36)/\A z5/\A z36)/\A z5/\A z36)/\A z5/\A z36)/\A z5/\A z36)/\A z5/\A z36)/\A z5/\A z36)/\A z5/\A z36)/\z31/\z13/\A (x.over=x.over)/\True)/\A z0.ok)/\A z15/\A z41/\True/\A z17/\True/\∃ (g':Nat),let z28:=(↑g':Int); A (z7.pre g')/\True/\((z34/\A z32/\A z32/\A z32/\A z32/\(A z8/\A (a0+z10+(1:Int)=a0+z28))/\True)/\z1/\z11/\z27/\z27/\(A (ns=ns)/\∀ i:Nat,i<ns->(((((((((True/\A z5/\A ((bif decide (i=z6.toNat/\z9<=z9/\z9<z9+z18) then z0.res (z9-z9) else z2.at z10 i z9)=z2.at z28 i z9))/\A z5/\A ((bif decide (i=z6.toNat/\z9<=z19/\z19<z9+z18) then z0.res (z19-z9) else z2.at z10 i z19)=z2.at z28 i z19))/\A z5/\A ((bif decide (i=z6.toNat/\z9<=z20/\z20<z9+z18) then z0.res (z20-z9) else z2.at z10 i z20)=z2.at z28 i z20))/\A z5/\A ((bif decide (i=z6.toNat/\z9<=z21/\z21<z9+z18) then z0.res (z21-z9) else z2.at z10 i z21)=z2.at z28 i z21))/\A z5/\A ((bif decide (i=z6.toNat/\z9<=z22/\z22<z9+z18) then z0.res (z22-z9) else z2.at z10 i z22)=z2.at z28 i z22))/\A z5/\A ((bif decide (i=z6.toNat/\z9<=z23/\z23<z9+z18) then z0.res (z23-z9) else z2.at z10 i z23)=z2.at z28 i z23))/\A z5/\A ((bif decide (i=z6.toNat/\z9<=z24/\z24<z9+z18) then z0.res (z24-z9) else z2.at z10 i z24)=z2.at z28 i z24))/\A z5/\A ((bif decide (i=z6.toNat/\z9<=z25/\z25<z9+z18) then z0.res (z25-z9) else z2.at z10 i z25)=z2.at z28 i z25))/\A z5/\A ((bif decide (i=z6.toNat/\z9<=z26/\z26<z9+z18) then z0.res (z26-z9) else z2.at z10 i z26)=z2.at z28 i z26)))/\True)/\A (z7.meas g'<z7.meas g))) (True/\True/\True/\True/\A z12/\True/\True/\True/\True/\A z12/\A z15/\A z41/\T11 (((z4/\(qI True z30 z30)/\z31/\z13/\A (x.over=x.over)/\True)/\A z3.ok)/\A z15/\A z41/\True/\A z17/\True/\∃ (g':Nat),let z29:=(↑g':Int); A (z7.pre g')/\True/\((z34/\A z32/\A z32/\A z32/\A z32/\(A z8/\A (a0+z10+(1:Int)=a0+z29))/\True)/\z1/\z11/\z27/\z27/\(A (ns=ns)/\∀ i:Nat,i<ns->(((((((((True/\A z5/\A ((bif decide (i=z6.toNat/\z9<=z9/\z9<z9+z18) then z3.res (z9-z9) else z2.at z10 i z9)=z2.at z29 i z9))/\A z5/\A ((bif decide (i=z6.toNat/\z9<=z19/\z19<z9+z18) then z3.res (z19-z9) else z2.at z10 i z19)=z2.at z29 i z19))/\A z5/\A ((bif decide (i=z6.toNat/\z9<=z20/\z20<z9+z18) then z3.res (z20-z9) else z2.at z10 i z20)=z2.at z29 i z20))/\A z5/\A ((bif decide (i=z6.toNat/\z9<=z21/\z21<z9+z18) then z3.res (z21-z9) else z2.at z10 i z21)=z2.at z29 i z21))/\A z5/\A ((bif decide (i=z6.toNat/\z9<=z22/\z22<z9+z18) then z3.res (z22-z9) else z2.at z10 i z22)=z2.at z29 i z22))/\A z5/\A ((bif decide (i=z6.toNat/\z9<=z23/\z23<z9+z18) then z3.res (z23-z9) else z2.at z10 i z23)=z2.at z29 i z23))/\A z5/\A ((bif decide (i=z6.toNat/\z9<=z24/\z24<z9+z18) then z3.res (z24-z9) else z2.at z10 i z24)=z2.at z29 i z24))/\A z5/\A ((bif decide (i=z6.toNat/\z9<=z25/\z25<z9+z18) then z3.res (z25-z9) else z2.at z10 i z25)=z2.at z29 i z25))/\A z5/\A ((bif decide (i=z6.toNat/\z9<=z26/\z26<z9+z18) then z3.res (z26-z9) else z2.at z10 i z26)=z2.at z29 i z26)))/\True)/\A (z7.meas g'<z7.meas g))))) (True/\True/\z27/\z1/\z11/\z27/\z27/\(A (ns=ns)/\∀ i:Nat,i<ns->(((((((((True/\A z5/\A (z2.at z10 i z9=z2.fin i z9))/\A z5/\A (z2.at z10 i z19=z2.fin i z19))/\A z5/\A (z2.at z10 i z20=z2.fin i z20))/\A z5/\A (z2.at z10 i z21=z2.fin i z21))/\A z5/\A (z2.at z10 i z22=z2.fin i z22))/\A z5/\A (z2.at z10 i z23=z2.fin i z23))/\A z5/\A (z2.at z10 i z24=z2.fin i z24))/\A z5/\A (z2.at z10 i z25=z2.fin i z25))/\A z5/\A (z2.at z10 i z26=z2.fin i z26)))/\True)) (by kernel_rfl) ?_;simp only [chp];delta qG qI qM qS qT
  simp only [cln];refine ⟨⟨0,lm _,(uY _).symm,fun i _=>all9 fun j=>(congrFun (bo2 ⟨t,x,s,ns,st,st,a0,a1⟩ i) j).symm⟩,fun k hk=>⟨fun hlt=>?_,fun hge=>?_⟩⟩
  ·obtain ⟨b1,b2⟩:=bm1 hg hk hlt;have hxy:=bm0 hg (k:=k) hlt;have hu:isU9 (st (a0+k-s.x0).toNat):=hg.bs _ b1;have hal:0<=x.alpha/\x.alpha<=255:=hg.fill.alpha;have hq:0<=Src.al x.src (a0+k) s.y/\Src.al x.src (a0+k) s.y<=255:=(aH4 hg.fill.src hxy).2;have st9:∀ i j,i<ns->(bif decide (i=(a0+k-s.x0).toNat/\0<=j/\j<9) then ae9 x (a0+k) s.y (st (a0+k-s.x0).toNat) (j-0) else PcG.at ⟨t,x,s,ns,st,st,a0,a1⟩ k i j)=bif decide (j<9) then PcG.at ⟨t,x,s,ns,st,st,a0,a1⟩ ((k+1:Nat):Int) i j else PcG.at ⟨t,x,s,ns,st,st,a0,a1⟩ k i j:=fun i j hi=>aA7 hg hlt i j
   have mm:k+1<=(a1-a0).toNat/\(a1-a0).toNat-(k+1)<(a1-a0).toNat-k:=by omega
   have he:(fun j=>PcG.at ⟨t,x,s,ns,st,st,a0,a1⟩ k (a0+k-s.x0).toNat j)=st (a0+k-s.x0).toNat:=(a94 (g:=⟨t,x,s,ns,st,st,a0,a1⟩) hg k)
   have hb:=pc_b hg hk hlt;simp only [zf8,he];refine ⟨⟨⟨k0,k3⟩,hg.fill.src,hxy⟩,⟨hq,hal⟩,fun h0=>?_,fun h0=>?_⟩
   ·have hP:PaintG.ok ⟨st (a0+k-s.x0).toNat,inkF z8,aa9 (Src.al x.src (a0+k) s.y) x.alpha,aa4 x.blend.toNat,x.over⟩:=by
     have:=af2 hg.fill hxy hu
     rwa [lg (show It.q x (a0+k) s.y=0 from h0)] at this
    have hr:PaintG.res ⟨st (a0+k-s.x0).toNat,inkF z8,aa9 (Src.al x.src (a0+k) s.y) x.alpha,aa4 x.blend.toNat,x.over⟩=ae9 x (a0+k) s.y (st (a0+k-s.x0).toNat):=by
     unfold ae9;rw [lg (show It.q x (a0+k) s.y=0 from h0)];rfl
    simp only [hr];exact ⟨hb.1,hb.1,hb.2.1,b1,hP,hb.2.1,b1,hb.2.2,k+1,mm.1,⟨by omega,fun i hi=>⟨⟨⟨⟨⟨⟨⟨⟨st9 i 0 hi,st9 i 1 hi⟩,st9 i 2 hi⟩,st9 i 3 hi⟩,st9 i 4 hi⟩,st9 i 5 hi⟩,st9 i 6 hi⟩,st9 i 7 hi⟩,st9 i 8 hi⟩⟩,mm.2⟩
   ·have hP:PaintG.ok ⟨st (a0+k-s.x0).toNat,inkF (Src.at x.src (a0+k) s.y),aa9 (Src.al x.src (a0+k) s.y) x.alpha,aa4 x.blend.toNat,x.over⟩:=by
     have:=af2 hg.fill hxy hu
     rwa [lb (show ¬ It.q x (a0+k) s.y=0 from h0)] at this
    have hr:PaintG.res ⟨st (a0+k-s.x0).toNat,inkF (Src.at x.src (a0+k) s.y),aa9 (Src.al x.src (a0+k) s.y) x.alpha,aa4 x.blend.toNat,x.over⟩=ae9 x (a0+k) s.y (st (a0+k-s.x0).toNat):=by
     unfold ae9;rw [lb (show ¬ It.q x (a0+k) s.y=0 from h0)];rfl
    have eF:(fun j=>Sx.intOf (lst (inkL (Src.at x.src (a0+k) s.y)) j))=inkF (Src.at x.src (a0+k) s.y):=rfl;simp only [eF,hr];exact ⟨hb.1,hb.1,hb.2.1,b1,hP,hb.2.1,b1,hb.2.2,k+1,mm.1,⟨by omega,fun i hi=>⟨⟨⟨⟨⟨⟨⟨⟨st9 i 0 hi,st9 i 1 hi⟩,st9 i 2 hi⟩,st9 i 3 hi⟩,st9 i 4 hi⟩,st9 i 5 hi⟩,st9 i 6 hi⟩,st9 i 7 hi⟩,st9 i 8 hi⟩⟩,mm.2⟩
  ·exact fun i _=>all9 fun j=>congrFun (aP0 (g:=⟨t,x,s,ns,st,st,a0,a1⟩) hk hge i) j
def pcP (g:PcG) (sv:SV) (f:Nat->Cl):List SO:=[.cells 1 (lst [.ref 37 (fcS g.t g.x sv)]) TPf,.cells 3 (lst (stL g.s)) TRp,.cells 1 (lst [.osl 5 0]) TSs,.cells 1 (lst [.osl 4 0]) TSs,stR g.ns f,stR g.ns g.bs]
def pcJ (g:PcG) (sv:SV):Inv:=⟨Nat,fun k=>k<=(g.a1-g.a0).toNat,fun k=>⟨[(1,.int .i64 g.a1),(2,.own 0 0),(3,.own 1 0),(4,.own 2 0),(5,.own 3 0),(8,.int .i64 (g.a0+k))],pcP g sv (g.at k)⟩,fun k=>(g.a1-g.a0).toNat-k⟩
noncomputable def spPd:FSpec:=ac3 63 [.arg 2,.arg 3,.arg 4,.arg 5,.cell 3 0,.cell 2 0] (γ:=PcG)
 (fun | .int _ a0:: .int _ a1::_,o=>some ⟨(Sx.intOf (refG (clG (o.getD 0 .dead) 0) 34)).toNat,itD (refG (clG (o.getD 0 .dead) 0)),stD (clG (o.getD 1 .dead)),aI4 (o.getD 4 .dead),stFD (o.getD 4 .dead),stFD (o.getD 5 .dead),a0,a1⟩ | _,_=>none)
 (fun g=>[.int .i64 g.a0,.int .i64 g.a1,.own 0 0,.own 1 0,.own 2 0,.own 3 0]) (fun g=>pcP g (srcX g.x.src) g.st) PcOK (fun _=> .tup 0 (lst [])) (fun g=>pcP g (srcX g.x.src) g.fin)
set_option maxHeartbeats 2000000 in
theorem ok_pd:aa2 Tryz.prog spPd:=by
 refine smW (specs:=[spS0,bQ0,spS3,aw8,aH7]) (⟨b42,bN1,b41,ax3,aF7,trivial⟩) Tryz.func63 (fun g=>(⟨[(1,.inv (pcJ g (srcX g.x.src)))],[]⟩:Ann)) true ?_;rintro ⟨t,x,s,ns,st,bs,a0,a1⟩ hg;by_cases k0:x.src.kind=0
 ·have e:srcX x.src = .fn 79 1 (lst [.ref 27 (lst (srcL x.src))]):=by rw [ar8]; unfold srcF srcN srcW srcG; rw [lg k0,lb (by omega),lb (by omega)]
  simp only [e];refine ab2 (B:=let T11:=fun p:Prop=>True/\True/\True/\True/\True/\True/\True/\True/\True/\True/\True/\p;let A:=Sx.Ask;let z39:=(86:Go.FuncId);let z38:=(112:Go.FuncId);let z36:=(Blend.aa4 x.blend.toNat=Blend.aa4 x.blend.toNat);let z29:=(True/\True);let z27:=(9:Nat);let z26:=(8:Nat);let z25:=(7:Nat);let z24:=(6:Nat);let z23:=(5:Nat);let z22:=(4:Nat);let z21:=(3:Nat);let z20:=(2:Nat);let z19:=(1:Nat);let z17:=(0:Int);let z37:=(z17=z17);let z14:=(A (z39=z39)/\True/\True/\A (z38=z38)/\True/\True/\A z36/\True);let z10:=(0:Nat);let z28:=(z10=z10);let z9:=(IntKind.i64=IntKind.i64);let q9:=fun p:Int=>A z9/\A (p=p);let z35:=(q9 a1);let z12:=(((True/\q9 s.y)/\q9 s.x0)/\q9 s.x1);let z5:=(IntKind.u8=IntKind.u8);let q5:=fun p:Int=>A z5/\A (p=p);let z4:=(PcG.mk t x s ns st bs a0 a1);let z8:=(pcJ z4 (SV.fn (79:Go.FuncId) z19 (lst [SV.ref (27:Nat) (lst (srcL x.src))])));let z3:=(A (ns=ns)/\∀ i:Nat,i<ns->(chp True (fun j:Nat=>q5 (bs i j)) 9));let z0:=(True/\(((qT True x x)/\q9 ((↑t:Int)))/\A ((79:Go.FuncId)=(79:Go.FuncId))/\True/\((qM (((((((((((qI (True/\q9 x.src.kind) x.src.ink x.src.ink)/\q9 x.src.fx)/\q9 x.src.fy)/\q9 x.src.tx)/\q9 x.src.ty)/\q9 x.src.rad)/\A (x.src.ns=x.src.ns)/\∀ i:Nat,i<x.src.ns->(qI (True/\q9 ((x.src.st i).pos)) ((x.src.st i).ink) ((x.src.st i).ink)))/\q9 x.src.img.w)/\q9 x.src.img.h)/\A (x.src.img.n=x.src.img.n)/\∀ i:Nat,i<x.src.img.n->(qI True (x.src.img.px i) (x.src.img.px i)))/\A (x.src.img.sn=x.src.img.sn)/\∀ i:Nat,i<x.src.img.sn->True/\q5 (x.src.img.sf i)) x.src.img.m x.src.img.m)/\A (x.src.img.smooth=x.src.img.smooth))/\A (x.src.img.rep=x.src.img.rep))/\A (z39=z39)/\True/\True/\A (z38=z38)/\True/\True/\A z36/\True);True/\True/\(∃ g:Nat,let z34:=(↑g:Int); A (z8.pre g)/\True/\(z35/\A z28/\A z28/\A z28/\A z28/\(A z9/\A (a0=a0+z34))/\True)/\z0/\z12/\z29/\z29/\(A (ns=ns)/\∀ i:Nat,i<ns->(((((((((True/\A z5/\A (st i z10=z4.at z34 i z10))/\A z5/\A (st i z19=z4.at z34 i z19))/\A z5/\A (st i z20=z4.at z34 i z20))/\A z5/\A (st i z21=z4.at z34 i z21))/\A z5/\A (st i z22=z4.at z34 i z22))/\A z5/\A (st i z23=z4.at z34 i z23))/\A z5/\A (st i z24=z4.at z34 i z24))/\A z5/\A (st i z25=z4.at z34 i z25))/\A z5/\A (st i z26=z4.at z34 i z26)))/\z3/\True)/\∀ g:Nat,let z11:=(↑g:Int);let z32:=(Lsc.Src.at x.src (a0+z11) s.y);let z18:=((-9223372036854775808:Int)<=a0+z11+(1:Int)/\a0+z11+(1:Int)<=(9223372036854775807:Int));let z16:=(z17<=a0+z11-s.x0/\a0+z11-s.x0<(↑ns:Int));let z15:=(Lsc.Src.al x.src (a0+z11) s.y);let z33:=(q5 (aa9 z15 x.alpha));let z13:=((-9223372036854775808:Int)<=a0+z11-s.x0/\a0+z11-s.x0<=(9223372036854775807:Int));let z7:=(a0+z11-s.x0);let z41:=(z7.toNat<ns);let z40:=(fun (j:Nat)=>bs z7.toNat (z10+j));let z6:=(chp True (fun j:Nat=>q5 (bs z7.toNat (z10+j))) 9);let z2:=(Cmp.PaintG.mk z40 (fun (j:Nat)=>Sx.intOf (lst (inkL z32) (z10+j))) (aa9 z15 x.alpha) (Blend.aa4 x.blend.toNat) x.over);let z1:=(Cmp.PaintG.mk z40 (fun (j:Nat)=>Sx.intOf (ak0 [Go.Value.int IntKind.u8 z17,Go.Value.int IntKind.u8 z17,Go.Value.int IntKind.u8 z17,Go.Value.int IntKind.u8 z17,Go.Value.int IntKind.u8 z17,Go.Value.int IntKind.u8 z17,Go.Value.int IntKind.u8 z17,Go.Value.int IntKind.u8 z17] (z10+j))) (aa9 z15 x.alpha) (Blend.aa4 x.blend.toNat) x.over); z8.pre g->True/\True/\True/\Br (decide (a0+z11<a1)) (True/\True/\True/\True/\True/\True/\True/\(((q9 (a0+z11))/\(q9 s.y)/\(qS True x.src x.src)/\True)/\A (x.src.kind=z17))/\T11 (True/\(((q5 (Lsc.Src.al x.src (a0+z11) s.y))/\(q5 x.alpha)/\True)/\A ((z17<=Lsc.Src.al x.src (a0+z11) s.y/\Lsc.Src.al x.src (a0+z11) s.y<=(255:Int))/\z17<=x.alpha/\x.alpha<=(255:Int)))/\True/\True/\True/\Br (decide (aa9 z15 x.alpha=z17)) (True/\True/\True/\True/\True/\True/\A z13/\True/\True/\True/\True/\A z13/\A z16/\A z41/\T11 (((z6/\((((((((True/\A z5/\A z37)/\A z5/\A z37)/\A z5/\A z37)/\A z5/\A z37)/\A z5/\A z37)/\A z5/\A z37)/\A z5/\A z37)/\A z5/\A z37)/\z33/\z14/\A (x.over=x.over)/\True)/\A z1.ok)/\A z16/\A z41/\True/\A z18/\True/\∃ (g':Nat),let z30:=(↑g':Int); A (z8.pre g')/\True/\((z35/\A z28/\A z28/\A z28/\A z28/\(A z9/\A (a0+z11+(1:Int)=a0+z30))/\True)/\z0/\z12/\z29/\z29/\(A (ns=ns)/\∀ i:Nat,i<ns->(((((((((True/\A z5/\A ((bif decide (i=z7.toNat/\z10<=z10/\z10<z10+z27) then z1.res (z10-z10) else z4.at z11 i z10)=z4.at z30 i z10))/\A z5/\A ((bif decide (i=z7.toNat/\z10<=z19/\z19<z10+z27) then z1.res (z19-z10) else z4.at z11 i z19)=z4.at z30 i z19))/\A z5/\A ((bif decide (i=z7.toNat/\z10<=z20/\z20<z10+z27) then z1.res (z20-z10) else z4.at z11 i z20)=z4.at z30 i z20))/\A z5/\A ((bif decide (i=z7.toNat/\z10<=z21/\z21<z10+z27) then z1.res (z21-z10) else z4.at z11 i z21)=z4.at z30 i z21))/\A z5/\A ((bif decide (i=z7.toNat/\z10<=z22/\z22<z10+z27) then z1.res (z22-z10) else z4.at z11 i z22)=z4.at z30 i z22))/\A z5/\A ((bif decide (i=z7.toNat/\z10<=z23/\z23<z10+z27) then z1.res (z23-z10) else z4.at z11 i z23)=z4.at z30 i z23))/\A z5/\A ((bif decide (i=z7.toNat/\z10<=z24/\z24<z10+z27) then z1.res (z24-z10) else z4.at z11 i z24)=z4.at z30 i z24))/\A z5/\A ((bif decide (i=z7.toNat/\z10<=z25/\z25<z10+z27) then z1.res (z25-z10) else z4.at z11 i z25)=z4.at z30 i z25))/\A z5/\A ((bif decide (i=z7.toNat/\z10<=z26/\z26<z10+z27) then z1.res (z26-z10) else z4.at z11 i z26)=z4.at z30 i z26)))/\z3/\True)/\A (z8.meas g'<z8.meas g))) (True/\True/\True/\True/\A z13/\True/\True/\True/\True/\A z13/\A z16/\A z41/\T11 (((z6/\(qI True z32 z32)/\z33/\z14/\A (x.over=x.over)/\True)/\A z2.ok)/\A z16/\A z41/\True/\A z18/\True/\∃ (g':Nat),let z31:=(↑g':Int); A (z8.pre g')/\True/\((z35/\A z28/\A z28/\A z28/\A z28/\(A z9/\A (a0+z11+(1:Int)=a0+z31))/\True)/\z0/\z12/\z29/\z29/\(A (ns=ns)/\∀ i:Nat,i<ns->(((((((((True/\A z5/\A ((bif decide (i=z7.toNat/\z10<=z10/\z10<z10+z27) then z2.res (z10-z10) else z4.at z11 i z10)=z4.at z31 i z10))/\A z5/\A ((bif decide (i=z7.toNat/\z10<=z19/\z19<z10+z27) then z2.res (z19-z10) else z4.at z11 i z19)=z4.at z31 i z19))/\A z5/\A ((bif decide (i=z7.toNat/\z10<=z20/\z20<z10+z27) then z2.res (z20-z10) else z4.at z11 i z20)=z4.at z31 i z20))/\A z5/\A ((bif decide (i=z7.toNat/\z10<=z21/\z21<z10+z27) then z2.res (z21-z10) else z4.at z11 i z21)=z4.at z31 i z21))/\A z5/\A ((bif decide (i=z7.toNat/\z10<=z22/\z22<z10+z27) then z2.res (z22-z10) else z4.at z11 i z22)=z4.at z31 i z22))/\A z5/\A ((bif decide (i=z7.toNat/\z10<=z23/\z23<z10+z27) then z2.res (z23-z10) else z4.at z11 i z23)=z4.at z31 i z23))/\A z5/\A ((bif decide (i=z7.toNat/\z10<=z24/\z24<z10+z27) then z2.res (z24-z10) else z4.at z11 i z24)=z4.at z31 i z24))/\A z5/\A ((bif decide (i=z7.toNat/\z10<=z25/\z25<z10+z27) then z2.res (z25-z10) else z4.at z11 i z25)=z4.at z31 i z25))/\A z5/\A ((bif decide (i=z7.toNat/\z10<=z26/\z26<z10+z27) then z2.res (z26-z10) else z4.at z11 i z26)=z4.at z31 i z26)))/\z3/\True)/\A (z8.meas g'<z8.meas g))))) (True/\True/\z29/\z0/\z12/\z29/\z29/\(A (ns=ns)/\∀ i:Nat,i<ns->(((((((((True/\A z5/\A (z4.at z11 i z10=z4.fin i z10))/\A z5/\A (z4.at z11 i z19=z4.fin i z19))/\A z5/\A (z4.at z11 i z20=z4.fin i z20))/\A z5/\A (z4.at z11 i z21=z4.fin i z21))/\A z5/\A (z4.at z11 i z22=z4.fin i z22))/\A z5/\A (z4.at z11 i z23=z4.fin i z23))/\A z5/\A (z4.at z11 i z24=z4.fin i z24))/\A z5/\A (z4.at z11 i z25=z4.fin i z25))/\A z5/\A (z4.at z11 i z26=z4.fin i z26)))/\z3/\True)) (by kernel_rfl) ?_;simp only [chp];delta qG qI qM qS qT
  simp only [cln];refine ⟨⟨0,lm _,(uY _).symm,fun i _=>all9 fun j=>(congrFun (bo2 ⟨t,x,s,ns,st,bs,a0,a1⟩ i) j).symm⟩,fun k hk=>⟨fun hlt=>?_,fun hge=>?_⟩⟩
  ·obtain ⟨b1,b2⟩:=bm1 hg hk hlt;have hxy:=bm0 hg (k:=k) hlt;have hu:isU9 (bs (a0+k-s.x0).toNat):=hg.bs _ b1;have hal:0<=x.alpha/\x.alpha<=255:=hg.fill.alpha;have hq:0<=Src.al x.src (a0+k) s.y/\Src.al x.src (a0+k) s.y<=255:=(aH4 hg.fill.src hxy).2;have st9:∀ i j,i<ns->(bif decide (i=(a0+k-s.x0).toNat/\0<=j/\j<9) then ae9 x (a0+k) s.y (bs (a0+k-s.x0).toNat) (j-0) else PcG.at ⟨t,x,s,ns,st,bs,a0,a1⟩ k i j)=bif decide (j<9) then PcG.at ⟨t,x,s,ns,st,bs,a0,a1⟩ ((k+1:Nat):Int) i j else PcG.at ⟨t,x,s,ns,st,bs,a0,a1⟩ k i j:=fun i j hi=>aA7 hg hlt i j
   have mm:k+1<=(a1-a0).toNat/\(a1-a0).toNat-(k+1)<(a1-a0).toNat-k:=by omega
   have he:(fun j=>bs (a0+k-s.x0).toNat j)=bs (a0+k-s.x0).toNat:=rfl;have hb:=pc_b hg hk hlt;simp only [zf8,he];refine ⟨k0,⟨hq,hal⟩,fun h0=>?_,fun h0=>?_⟩
   ·have hP:PaintG.ok ⟨bs (a0+k-s.x0).toNat,inkF z8,aa9 (Src.al x.src (a0+k) s.y) x.alpha,aa4 x.blend.toNat,x.over⟩:=by
     have:=af2 hg.fill hxy hu
     rwa [lg (show It.q x (a0+k) s.y=0 from h0)] at this
    have hr:PaintG.res ⟨bs (a0+k-s.x0).toNat,inkF z8,aa9 (Src.al x.src (a0+k) s.y) x.alpha,aa4 x.blend.toNat,x.over⟩=ae9 x (a0+k) s.y (bs (a0+k-s.x0).toNat):=by
     unfold ae9;rw [lg (show It.q x (a0+k) s.y=0 from h0)];rfl
    simp only [hr];exact ⟨hb.1,hb.1,hb.2.1,b1,hP,hb.2.1,b1,hb.2.2,k+1,mm.1,⟨by omega,fun i hi=>⟨⟨⟨⟨⟨⟨⟨⟨st9 i 0 hi,st9 i 1 hi⟩,st9 i 2 hi⟩,st9 i 3 hi⟩,st9 i 4 hi⟩,st9 i 5 hi⟩,st9 i 6 hi⟩,st9 i 7 hi⟩,st9 i 8 hi⟩⟩,mm.2⟩
   ·have hP:PaintG.ok ⟨bs (a0+k-s.x0).toNat,inkF (Src.at x.src (a0+k) s.y),aa9 (Src.al x.src (a0+k) s.y) x.alpha,aa4 x.blend.toNat,x.over⟩:=by
     have:=af2 hg.fill hxy hu
     rwa [lb (show ¬ It.q x (a0+k) s.y=0 from h0)] at this
    have hr:PaintG.res ⟨bs (a0+k-s.x0).toNat,inkF (Src.at x.src (a0+k) s.y),aa9 (Src.al x.src (a0+k) s.y) x.alpha,aa4 x.blend.toNat,x.over⟩=ae9 x (a0+k) s.y (bs (a0+k-s.x0).toNat):=by
     unfold ae9;rw [lb (show ¬ It.q x (a0+k) s.y=0 from h0)];rfl
    have eF:(fun j=>Sx.intOf (lst (inkL (Src.at x.src (a0+k) s.y)) j))=inkF (Src.at x.src (a0+k) s.y):=rfl;simp only [eF,hr];exact ⟨hb.1,hb.1,hb.2.1,b1,hP,hb.2.1,b1,hb.2.2,k+1,mm.1,⟨by omega,fun i hi=>⟨⟨⟨⟨⟨⟨⟨⟨st9 i 0 hi,st9 i 1 hi⟩,st9 i 2 hi⟩,st9 i 3 hi⟩,st9 i 4 hi⟩,st9 i 5 hi⟩,st9 i 6 hi⟩,st9 i 7 hi⟩,st9 i 8 hi⟩⟩,mm.2⟩
  ·exact fun i _=>all9 fun j=>congrFun (aP0 (g:=⟨t,x,s,ns,st,bs,a0,a1⟩) hk hge i) j
 by_cases k3:x.src.kind=3
 ·have e:srcX x.src = .fn 82 1 (lst [.ref 1 (lst [atS x.src.img])]):=by rw [ar8]; unfold srcF srcN srcW srcG; rw [lb k0,lg k3,lg k3,lg k3]
  simp only [e];refine ab2 (B:=let T11:=fun p:Prop=>True/\True/\True/\True/\True/\True/\True/\True/\True/\True/\True/\p;let A:=Sx.Ask;let z42:=(81:Go.FuncId);let z41:=(86:Go.FuncId);let z40:=(112:Go.FuncId);let z37:=(Blend.aa4 x.blend.toNat=Blend.aa4 x.blend.toNat);let z31:=(True/\True);let z28:=(9:Nat);let z27:=(8:Nat);let z26:=(7:Nat);let z25:=(6:Nat);let z24:=(5:Nat);let z23:=(4:Nat);let z22:=(3:Nat);let z21:=(2:Nat);let z20:=(1:Nat);let z18:=(0:Int);let z38:=(z18=z18);let z16:=(A (z41=z41)/\True/\True/\A (z40=z40)/\True/\True/\A z37/\True);let z12:=(invM x.src.img.m);let z11:=(0:Nat);let z39:=(by4 (lst [atS x.src.img] z11));let z30:=(z11=z11);let z9:=(IntKind.i64=IntKind.i64);let q9:=fun p:Int=>A z9/\A (p=p);let z36:=(q9 a1);let z13:=(((True/\q9 s.y)/\q9 s.x0)/\q9 s.x1);let z5:=(IntKind.u8=IntKind.u8);let q5:=fun p:Int=>A z5/\A (p=p);let z4:=(PcG.mk t x s ns st bs a0 a1);let z10:=(pcJ z4 (SV.fn (82:Go.FuncId) z20 (lst [SV.ref z20 (lst [atS x.src.img])])));let z3:=(A (ns=ns)/\∀ i:Nat,i<ns->(chp True (fun j:Nat=>q5 (bs i j)) 9));let z2:=(True/\(((qT True x x)/\q9 ((↑t:Int)))/\A ((82:Go.FuncId)=(82:Go.FuncId))/\True/\True/\A (z42=z42)/\True/\((((((qG True x.src.img x.src.img)/\q9 z12.a)/\q9 z12.b)/\q9 z12.c)/\q9 z12.d)/\q9 z12.e)/\q9 z12.f)/\A (z41=z41)/\True/\True/\A (z40=z40)/\True/\True/\A z37/\True);True/\True/\(∃ g:Nat,let z35:=(↑g:Int); A (z10.pre g)/\True/\(z36/\A z30/\A z30/\A z30/\A z30/\(A z9/\A (a0=a0+z35))/\True)/\z2/\z13/\z31/\z31/\(A (ns=ns)/\∀ i:Nat,i<ns->(((((((((True/\A z5/\A (st i z11=z4.at z35 i z11))/\A z5/\A (st i z20=z4.at z35 i z20))/\A z5/\A (st i z21=z4.at z35 i z21))/\A z5/\A (st i z22=z4.at z35 i z22))/\A z5/\A (st i z23=z4.at z35 i z23))/\A z5/\A (st i z24=z4.at z35 i z24))/\A z5/\A (st i z25=z4.at z35 i z25))/\A z5/\A (st i z26=z4.at z35 i z26))/\A z5/\A (st i z27=z4.at z35 i z27)))/\z3/\True)/\∀ g:Nat,let z14:=(↑g:Int);let z19:=((-9223372036854775808:Int)<=a0+z14+(1:Int)/\a0+z14+(1:Int)<=(9223372036854775807:Int));let z17:=(z18<=a0+z14-s.x0/\a0+z14-s.x0<(↑ns:Int));let z15:=((-9223372036854775808:Int)<=a0+z14-s.x0/\a0+z14-s.x0<=(9223372036854775807:Int));let z8:=(a0+z14-s.x0);let z44:=(z8.toNat<ns);let z43:=(fun (j:Nat)=>bs z8.toNat (z11+j));let z7:=(chp True (fun j:Nat=>q5 (bs z8.toNat (z11+j))) 9);let z6:=(SiG.mk z39 (a0+z14) s.y);let z32:=(q5 (aa9 z6.q.soft x.alpha));let z29:=(if z6.q.soft=z18 then Lsc.z8 else z6.q.ink);let z1:=(Cmp.PaintG.mk z43 (fun (j:Nat)=>Sx.intOf (lst (inkL z29) (z11+j))) (aa9 z6.q.soft x.alpha) (Blend.aa4 x.blend.toNat) x.over);let z0:=(Cmp.PaintG.mk z43 (fun (j:Nat)=>Sx.intOf (ak0 [Go.Value.int IntKind.u8 z18,Go.Value.int IntKind.u8 z18,Go.Value.int IntKind.u8 z18,Go.Value.int IntKind.u8 z18,Go.Value.int IntKind.u8 z18,Go.Value.int IntKind.u8 z18,Go.Value.int IntKind.u8 z18,Go.Value.int IntKind.u8 z18] (z11+j))) (aa9 z6.q.soft x.alpha) (Blend.aa4 x.blend.toNat) x.over); z10.pre g->True/\True/\True/\Br (decide (a0+z14<a1)) (True/\True/\True/\True/\True/\True/\True/\(((q9 (a0+z14))/\(q9 s.y)/\(True/\A (z42=z42)/\True/\((((((((qM ((((True/\q9 x.src.img.w)/\q9 x.src.img.h)/\A (x.src.img.n=x.src.img.n)/\∀ i:Nat,i<x.src.img.n->(qI True (x.src.img.px i) (x.src.img.px i)))/\A (x.src.img.sn=x.src.img.sn)/\∀ i:Nat,i<x.src.img.sn->True/\A z5/\A (x.src.img.sf i=z39.sf i)) x.src.img.m x.src.img.m)/\A (x.src.img.smooth=x.src.img.smooth))/\A (x.src.img.rep=x.src.img.rep))/\q9 z12.a)/\q9 z12.b)/\q9 z12.c)/\q9 z12.d)/\q9 z12.e)/\q9 z12.f)/\True)/\A z6.q.ok)/\T11 (True/\(((q5 z6.q.soft)/\(q5 x.alpha)/\True)/\A ((z18<=z6.q.soft/\z6.q.soft<=(255:Int))/\z18<=x.alpha/\x.alpha<=(255:Int)))/\True/\True/\True/\Br (decide (aa9 z6.q.soft x.alpha=z18)) (True/\True/\True/\True/\True/\True/\A z15/\True/\True/\True/\True/\A z15/\A z17/\A z44/\T11 (((z7/\((((((((True/\A z5/\A z38)/\A z5/\A z38)/\A z5/\A z38)/\A z5/\A z38)/\A z5/\A z38)/\A z5/\A z38)/\A z5/\A z38)/\A z5/\A z38)/\z32/\z16/\A (x.over=x.over)/\True)/\A z0.ok)/\A z17/\A z44/\True/\A z19/\True/\∃ (g':Nat),let z33:=(↑g':Int); A (z10.pre g')/\True/\((z36/\A z30/\A z30/\A z30/\A z30/\(A z9/\A (a0+z14+(1:Int)=a0+z33))/\True)/\z2/\z13/\z31/\z31/\(A (ns=ns)/\∀ i:Nat,i<ns->(((((((((True/\A z5/\A ((bif decide (i=z8.toNat/\z11<=z11/\z11<z11+z28) then z0.res (z11-z11) else z4.at z14 i z11)=z4.at z33 i z11))/\A z5/\A ((bif decide (i=z8.toNat/\z11<=z20/\z20<z11+z28) then z0.res (z20-z11) else z4.at z14 i z20)=z4.at z33 i z20))/\A z5/\A ((bif decide (i=z8.toNat/\z11<=z21/\z21<z11+z28) then z0.res (z21-z11) else z4.at z14 i z21)=z4.at z33 i z21))/\A z5/\A ((bif decide (i=z8.toNat/\z11<=z22/\z22<z11+z28) then z0.res (z22-z11) else z4.at z14 i z22)=z4.at z33 i z22))/\A z5/\A ((bif decide (i=z8.toNat/\z11<=z23/\z23<z11+z28) then z0.res (z23-z11) else z4.at z14 i z23)=z4.at z33 i z23))/\A z5/\A ((bif decide (i=z8.toNat/\z11<=z24/\z24<z11+z28) then z0.res (z24-z11) else z4.at z14 i z24)=z4.at z33 i z24))/\A z5/\A ((bif decide (i=z8.toNat/\z11<=z25/\z25<z11+z28) then z0.res (z25-z11) else z4.at z14 i z25)=z4.at z33 i z25))/\A z5/\A ((bif decide (i=z8.toNat/\z11<=z26/\z26<z11+z28) then z0.res (z26-z11) else z4.at z14 i z26)=z4.at z33 i z26))/\A z5/\A ((bif decide (i=z8.toNat/\z11<=z27/\z27<z11+z28) then z0.res (z27-z11) else z4.at z14 i z27)=z4.at z33 i z27)))/\z3/\True)/\A (z10.meas g'<z10.meas g))) (True/\True/\True/\True/\A z15/\True/\True/\True/\True/\A z15/\A z17/\A z44/\T11 (((z7/\(qI True z29 z29)/\z32/\z16/\A (x.over=x.over)/\True)/\A z1.ok)/\A z17/\A z44/\True/\A z19/\True/\∃ (g':Nat),let z34:=(↑g':Int); A (z10.pre g')/\True/\((z36/\A z30/\A z30/\A z30/\A z30/\(A z9/\A (a0+z14+(1:Int)=a0+z34))/\True)/\z2/\z13/\z31/\z31/\(A (ns=ns)/\∀ i:Nat,i<ns->(((((((((True/\A z5/\A ((bif decide (i=z8.toNat/\z11<=z11/\z11<z11+z28) then z1.res (z11-z11) else z4.at z14 i z11)=z4.at z34 i z11))/\A z5/\A ((bif decide (i=z8.toNat/\z11<=z20/\z20<z11+z28) then z1.res (z20-z11) else z4.at z14 i z20)=z4.at z34 i z20))/\A z5/\A ((bif decide (i=z8.toNat/\z11<=z21/\z21<z11+z28) then z1.res (z21-z11) else z4.at z14 i z21)=z4.at z34 i z21))/\A z5/\A ((bif decide (i=z8.toNat/\z11<=z22/\z22<z11+z28) then z1.res (z22-z11) else z4.at z14 i z22)=z4.at z34 i z22))/\A z5/\A ((bif decide (i=z8.toNat/\z11<=z23/\z23<z11+z28) then z1.res (z23-z11) else z4.at z14 i z23)=z4.at z34 i z23))/\A z5/\A ((bif decide (i=z8.toNat/\z11<=z24/\z24<z11+z28) then z1.res (z24-z11) else z4.at z14 i z24)=z4.at z34 i z24))/\A z5/\A ((bif decide (i=z8.toNat/\z11<=z25/\z25<z11+z28) then z1.res (z25-z11) else z4.at z14 i z25)=z4.at z34 i z25))/\A z5/\A ((bif decide (i=z8.toNat/\z11<=z26/\z26<z11+z28) then z1.res (z26-z11) else z4.at z14 i z26)=z4.at z34 i z26))/\A z5/\A ((bif decide (i=z8.toNat/\z11<=z27/\z27<z11+z28) then z1.res (z27-z11) else z4.at z14 i z27)=z4.at z34 i z27)))/\z3/\True)/\A (z10.meas g'<z10.meas g))))) (True/\True/\z31/\z2/\z13/\z31/\z31/\(A (ns=ns)/\∀ i:Nat,i<ns->(((((((((True/\A z5/\A (z4.at z14 i z11=z4.fin i z11))/\A z5/\A (z4.at z14 i z20=z4.fin i z20))/\A z5/\A (z4.at z14 i z21=z4.fin i z21))/\A z5/\A (z4.at z14 i z22=z4.fin i z22))/\A z5/\A (z4.at z14 i z23=z4.fin i z23))/\A z5/\A (z4.at z14 i z24=z4.fin i z24))/\A z5/\A (z4.at z14 i z25=z4.fin i z25))/\A z5/\A (z4.at z14 i z26=z4.fin i z26))/\A z5/\A (z4.at z14 i z27=z4.fin i z27)))/\z3/\True)) (by kernel_rfl) ?_;simp only [chp];delta qG qI qM qS qT
  simp only [cln];have eI:by4 (lst [atS x.src.img] 0)=x.src.img:=rfl;have e1:∀ X:Int,(SiG.mk x.src.img X s.y).q.soft=Src.al x.src X s.y:=fun X=>by unfold Src.al; rw [lg k3]; rfl
  have e2:∀ X:Int,(if Src.al x.src X s.y=0 then z8 else (SiG.mk x.src.img X s.y).q.ink)=Src.at x.src X s.y:=fun X=>by unfold Src.at; rw [lb k0,lg k3]; unfold Src.iI; rw [<-e1 X]; rfl
  simp only [eI,e1,e2];refine ⟨⟨0,lm _,(uY _).symm,fun i _=>all9 fun j=>(congrFun (bo2 ⟨t,x,s,ns,st,bs,a0,a1⟩ i) j).symm⟩,fun k hk=>⟨fun hlt=>?_,fun hge=>?_⟩⟩
  ·obtain ⟨b1,b2⟩:=bm1 hg hk hlt;have hxy:=bm0 hg (k:=k) hlt;have hu:isU9 (bs (a0+k-s.x0).toNat):=hg.bs _ b1;have hal:0<=x.alpha/\x.alpha<=255:=hg.fill.alpha;have hq:0<=Src.al x.src (a0+k) s.y/\Src.al x.src (a0+k) s.y<=255:=(aH4 hg.fill.src hxy).2;have st9:∀ i j,i<ns->(bif decide (i=(a0+k-s.x0).toNat/\0<=j/\j<9) then ae9 x (a0+k) s.y (bs (a0+k-s.x0).toNat) (j-0) else PcG.at ⟨t,x,s,ns,st,bs,a0,a1⟩ k i j)=bif decide (j<9) then PcG.at ⟨t,x,s,ns,st,bs,a0,a1⟩ ((k+1:Nat):Int) i j else PcG.at ⟨t,x,s,ns,st,bs,a0,a1⟩ k i j:=fun i j hi=>aA7 hg hlt i j
   have mm:k+1<=(a1-a0).toNat/\(a1-a0).toNat-(k+1)<(a1-a0).toNat-k:=by omega
   have he:(fun j=>bs (a0+k-s.x0).toNat j)=bs (a0+k-s.x0).toNat:=rfl;have hb:=pc_b hg hk hlt;simp only [zf8,he];refine ⟨⟨fun _ _=>by trivial,bX5 hg.fill.src k3 hxy⟩,⟨hq,hal⟩,fun h0=>?_,fun h0=>?_⟩
   ·have hP:PaintG.ok ⟨bs (a0+k-s.x0).toNat,inkF z8,aa9 (Src.al x.src (a0+k) s.y) x.alpha,aa4 x.blend.toNat,x.over⟩:=by
     have:=af2 hg.fill hxy hu
     rwa [lg (show It.q x (a0+k) s.y=0 from h0)] at this
    have hr:PaintG.res ⟨bs (a0+k-s.x0).toNat,inkF z8,aa9 (Src.al x.src (a0+k) s.y) x.alpha,aa4 x.blend.toNat,x.over⟩=ae9 x (a0+k) s.y (bs (a0+k-s.x0).toNat):=by
     unfold ae9;rw [lg (show It.q x (a0+k) s.y=0 from h0)];rfl
    simp only [hr];exact ⟨hb.1,hb.1,hb.2.1,b1,hP,hb.2.1,b1,hb.2.2,k+1,mm.1,⟨by omega,fun i hi=>⟨⟨⟨⟨⟨⟨⟨⟨st9 i 0 hi,st9 i 1 hi⟩,st9 i 2 hi⟩,st9 i 3 hi⟩,st9 i 4 hi⟩,st9 i 5 hi⟩,st9 i 6 hi⟩,st9 i 7 hi⟩,st9 i 8 hi⟩⟩,mm.2⟩
   ·have hP:PaintG.ok ⟨bs (a0+k-s.x0).toNat,inkF (Src.at x.src (a0+k) s.y),aa9 (Src.al x.src (a0+k) s.y) x.alpha,aa4 x.blend.toNat,x.over⟩:=by
     have:=af2 hg.fill hxy hu
     rwa [lb (show ¬ It.q x (a0+k) s.y=0 from h0)] at this
    have hr:PaintG.res ⟨bs (a0+k-s.x0).toNat,inkF (Src.at x.src (a0+k) s.y),aa9 (Src.al x.src (a0+k) s.y) x.alpha,aa4 x.blend.toNat,x.over⟩=ae9 x (a0+k) s.y (bs (a0+k-s.x0).toNat):=by
     unfold ae9;rw [lb (show ¬ It.q x (a0+k) s.y=0 from h0)];rfl
    have eF:(fun j=>Sx.intOf (lst (inkL (Src.at x.src (a0+k) s.y)) j))=inkF (Src.at x.src (a0+k) s.y):=rfl;simp only [eF,hr];exact ⟨hb.1,hb.1,hb.2.1,b1,hP,hb.2.1,b1,hb.2.2,k+1,mm.1,⟨by omega,fun i hi=>⟨⟨⟨⟨⟨⟨⟨⟨st9 i 0 hi,st9 i 1 hi⟩,st9 i 2 hi⟩,st9 i 3 hi⟩,st9 i 4 hi⟩,st9 i 5 hi⟩,st9 i 6 hi⟩,st9 i 7 hi⟩,st9 i 8 hi⟩⟩,mm.2⟩
  ·exact fun i _=>all9 fun j=>congrFun (aP0 (g:=⟨t,x,s,ns,st,bs,a0,a1⟩) hk hge i) j
 ·have e:srcX x.src = .fn 83 1 (lst [.ref 27 (lst (srcL x.src))]):=by rw [ar8]; unfold srcF srcN srcW srcG; rw [lb k0,lb k3,lb k3,lb k3]
  simp only [e];refine ab2 (B:=let T11:=fun p:Prop=>True/\True/\True/\True/\True/\True/\True/\True/\True/\True/\True/\p;let A:=Sx.Ask;let z39:=(86:Go.FuncId);let z38:=(112:Go.FuncId);let z36:=(Blend.aa4 x.blend.toNat=Blend.aa4 x.blend.toNat);let z29:=(True/\True);let z27:=(9:Nat);let z26:=(8:Nat);let z25:=(7:Nat);let z24:=(6:Nat);let z23:=(5:Nat);let z22:=(4:Nat);let z21:=(3:Nat);let z20:=(2:Nat);let z19:=(1:Nat);let z17:=(0:Int);let z37:=(z17=z17);let z14:=(A (z39=z39)/\True/\True/\A (z38=z38)/\True/\True/\A z36/\True);let z10:=(0:Nat);let z28:=(z10=z10);let z9:=(IntKind.i64=IntKind.i64);let q9:=fun p:Int=>A z9/\A (p=p);let z35:=(q9 a1);let z12:=(((True/\q9 s.y)/\q9 s.x0)/\q9 s.x1);let z5:=(IntKind.u8=IntKind.u8);let q5:=fun p:Int=>A z5/\A (p=p);let z4:=(PcG.mk t x s ns st bs a0 a1);let z8:=(pcJ z4 (SV.fn (83:Go.FuncId) z19 (lst [SV.ref (27:Nat) (lst (srcL x.src))])));let z3:=(A (ns=ns)/\∀ i:Nat,i<ns->(chp True (fun j:Nat=>q5 (bs i j)) 9));let z0:=(True/\(((qT True x x)/\q9 ((↑t:Int)))/\A ((83:Go.FuncId)=(83:Go.FuncId))/\True/\((qM (((((((((((qI (True/\q9 x.src.kind) x.src.ink x.src.ink)/\q9 x.src.fx)/\q9 x.src.fy)/\q9 x.src.tx)/\q9 x.src.ty)/\q9 x.src.rad)/\A (x.src.ns=x.src.ns)/\∀ i:Nat,i<x.src.ns->(qI (True/\q9 ((x.src.st i).pos)) ((x.src.st i).ink) ((x.src.st i).ink)))/\q9 x.src.img.w)/\q9 x.src.img.h)/\A (x.src.img.n=x.src.img.n)/\∀ i:Nat,i<x.src.img.n->(qI True (x.src.img.px i) (x.src.img.px i)))/\A (x.src.img.sn=x.src.img.sn)/\∀ i:Nat,i<x.src.img.sn->True/\q5 (x.src.img.sf i)) x.src.img.m x.src.img.m)/\A (x.src.img.smooth=x.src.img.smooth))/\A (x.src.img.rep=x.src.img.rep))/\A (z39=z39)/\True/\True/\A (z38=z38)/\True/\True/\A z36/\True);True/\True/\(∃ g:Nat,let z34:=(↑g:Int); A (z8.pre g)/\True/\(z35/\A z28/\A z28/\A z28/\A z28/\(A z9/\A (a0=a0+z34))/\True)/\z0/\z12/\z29/\z29/\(A (ns=ns)/\∀ i:Nat,i<ns->(((((((((True/\A z5/\A (st i z10=z4.at z34 i z10))/\A z5/\A (st i z19=z4.at z34 i z19))/\A z5/\A (st i z20=z4.at z34 i z20))/\A z5/\A (st i z21=z4.at z34 i z21))/\A z5/\A (st i z22=z4.at z34 i z22))/\A z5/\A (st i z23=z4.at z34 i z23))/\A z5/\A (st i z24=z4.at z34 i z24))/\A z5/\A (st i z25=z4.at z34 i z25))/\A z5/\A (st i z26=z4.at z34 i z26)))/\z3/\True)/\∀ g:Nat,let z11:=(↑g:Int);let z40:=(a0+z11);let z32:=(Lsc.Src.at x.src z40 s.y);let z18:=((-9223372036854775808:Int)<=a0+z11+(1:Int)/\a0+z11+(1:Int)<=(9223372036854775807:Int));let z16:=(z17<=a0+z11-s.x0/\a0+z11-s.x0<(↑ns:Int));let z15:=(Lsc.Src.al x.src z40 s.y);let z33:=(q5 (aa9 z15 x.alpha));let z13:=((-9223372036854775808:Int)<=a0+z11-s.x0/\a0+z11-s.x0<=(9223372036854775807:Int));let z7:=(a0+z11-s.x0);let z42:=(z7.toNat<ns);let z41:=(fun (j:Nat)=>bs z7.toNat (z10+j));let z6:=(chp True (fun j:Nat=>q5 (bs z7.toNat (z10+j))) 9);let z2:=(Cmp.PaintG.mk z41 (fun (j:Nat)=>Sx.intOf (lst (inkL z32) (z10+j))) (aa9 z15 x.alpha) (Blend.aa4 x.blend.toNat) x.over);let z1:=(Cmp.PaintG.mk z41 (fun (j:Nat)=>Sx.intOf (ak0 [Go.Value.int IntKind.u8 z17,Go.Value.int IntKind.u8 z17,Go.Value.int IntKind.u8 z17,Go.Value.int IntKind.u8 z17,Go.Value.int IntKind.u8 z17,Go.Value.int IntKind.u8 z17,Go.Value.int IntKind.u8 z17,Go.Value.int IntKind.u8 z17] (z10+j))) (aa9 z15 x.alpha) (Blend.aa4 x.blend.toNat) x.over); z8.pre g->True/\True/\True/\Br (decide (a0+z11<a1)) (True/\True/\True/\True/\True/\True/\True/\(((q9 (a0+z11))/\(q9 s.y)/\(qS True x.src x.src)/\True)/\A ((x.src.kind≠z17/\x.src.kind≠(3:Int))/\SrcOK x.src/\xyOK z40 s.y))/\T11 (True/\(((q5 (Lsc.Src.al x.src z40 s.y))/\(q5 x.alpha)/\True)/\A ((z17<=Lsc.Src.al x.src z40 s.y/\Lsc.Src.al x.src z40 s.y<=(255:Int))/\z17<=x.alpha/\x.alpha<=(255:Int)))/\True/\True/\True/\Br (decide (aa9 z15 x.alpha=z17)) (True/\True/\True/\True/\True/\True/\A z13/\True/\True/\True/\True/\A z13/\A z16/\A z42/\T11 (((z6/\((((((((True/\A z5/\A z37)/\A z5/\A z37)/\A z5/\A z37)/\A z5/\A z37)/\A z5/\A z37)/\A z5/\A z37)/\A z5/\A z37)/\A z5/\A z37)/\z33/\z14/\A (x.over=x.over)/\True)/\A z1.ok)/\A z16/\A z42/\True/\A z18/\True/\∃ (g':Nat),let z30:=(↑g':Int); A (z8.pre g')/\True/\((z35/\A z28/\A z28/\A z28/\A z28/\(A z9/\A (a0+z11+(1:Int)=a0+z30))/\True)/\z0/\z12/\z29/\z29/\(A (ns=ns)/\∀ i:Nat,i<ns->(((((((((True/\A z5/\A ((bif decide (i=z7.toNat/\z10<=z10/\z10<z10+z27) then z1.res (z10-z10) else z4.at z11 i z10)=z4.at z30 i z10))/\A z5/\A ((bif decide (i=z7.toNat/\z10<=z19/\z19<z10+z27) then z1.res (z19-z10) else z4.at z11 i z19)=z4.at z30 i z19))/\A z5/\A ((bif decide (i=z7.toNat/\z10<=z20/\z20<z10+z27) then z1.res (z20-z10) else z4.at z11 i z20)=z4.at z30 i z20))/\A z5/\A ((bif decide (i=z7.toNat/\z10<=z21/\z21<z10+z27) then z1.res (z21-z10) else z4.at z11 i z21)=z4.at z30 i z21))/\A z5/\A ((bif decide (i=z7.toNat/\z10<=z22/\z22<z10+z27) then z1.res (z22-z10) else z4.at z11 i z22)=z4.at z30 i z22))/\A z5/\A ((bif decide (i=z7.toNat/\z10<=z23/\z23<z10+z27) then z1.res (z23-z10) else z4.at z11 i z23)=z4.at z30 i z23))/\A z5/\A ((bif decide (i=z7.toNat/\z10<=z24/\z24<z10+z27) then z1.res (z24-z10) else z4.at z11 i z24)=z4.at z30 i z24))/\A z5/\A ((bif decide (i=z7.toNat/\z10<=z25/\z25<z10+z27) then z1.res (z25-z10) else z4.at z11 i z25)=z4.at z30 i z25))/\A z5/\A ((bif decide (i=z7.toNat/\z10<=z26/\z26<z10+z27) then z1.res (z26-z10) else z4.at z11 i z26)=z4.at z30 i z26)))/\z3/\True)/\A (z8.meas g'<z8.meas g))) (True/\True/\True/\True/\A z13/\True/\True/\True/\True/\A z13/\A z16/\A z42/\T11 (((z6/\(qI True z32 z32)/\z33/\z14/\A (x.over=x.over)/\True)/\A z2.ok)/\A z16/\A z42/\True/\A z18/\True/\∃ (g':Nat),let z31:=(↑g':Int); A (z8.pre g')/\True/\((z35/\A z28/\A z28/\A z28/\A z28/\(A z9/\A (a0+z11+(1:Int)=a0+z31))/\True)/\z0/\z12/\z29/\z29/\(A (ns=ns)/\∀ i:Nat,i<ns->(((((((((True/\A z5/\A ((bif decide (i=z7.toNat/\z10<=z10/\z10<z10+z27) then z2.res (z10-z10) else z4.at z11 i z10)=z4.at z31 i z10))/\A z5/\A ((bif decide (i=z7.toNat/\z10<=z19/\z19<z10+z27) then z2.res (z19-z10) else z4.at z11 i z19)=z4.at z31 i z19))/\A z5/\A ((bif decide (i=z7.toNat/\z10<=z20/\z20<z10+z27) then z2.res (z20-z10) else z4.at z11 i z20)=z4.at z31 i z20))/\A z5/\A ((bif decide (i=z7.toNat/\z10<=z21/\z21<z10+z27) then z2.res (z21-z10) else z4.at z11 i z21)=z4.at z31 i z21))/\A z5/\A ((bif decide (i=z7.toNat/\z10<=z22/\z22<z10+z27) then z2.res (z22-z10) else z4.at z11 i z22)=z4.at z31 i z22))/\A z5/\A ((bif decide (i=z7.toNat/\z10<=z23/\z23<z10+z27) then z2.res (z23-z10) else z4.at z11 i z23)=z4.at z31 i z23))/\A z5/\A ((bif decide (i=z7.toNat/\z10<=z24/\z24<z10+z27) then z2.res (z24-z10) else z4.at z11 i z24)=z4.at z31 i z24))/\A z5/\A ((bif decide (i=z7.toNat/\z10<=z25/\z25<z10+z27) then z2.res (z25-z10) else z4.at z11 i z25)=z4.at z31 i z25))/\A z5/\A ((bif decide (i=z7.toNat/\z10<=z26/\z26<z10+z27) then z2.res (z26-z10) else z4.at z11 i z26)=z4.at z31 i z26)))/\z3/\True)/\A (z8.meas g'<z8.meas g))))) (True/\True/\z29/\z0/\z12/\z29/\z29/\(A (ns=ns)/\∀ i:Nat,i<ns->(((((((((True/\A z5/\A (z4.at z11 i z10=z4.fin i z10))/\A z5/\A (z4.at z11 i z19=z4.fin i z19))/\A z5/\A (z4.at z11 i z20=z4.fin i z20))/\A z5/\A (z4.at z11 i z21=z4.fin i z21))/\A z5/\A (z4.at z11 i z22=z4.fin i z22))/\A z5/\A (z4.at z11 i z23=z4.fin i z23))/\A z5/\A (z4.at z11 i z24=z4.fin i z24))/\A z5/\A (z4.at z11 i z25=z4.fin i z25))/\A z5/\A (z4.at z11 i z26=z4.fin i z26)))/\z3/\True)) (by kernel_rfl) ?_;simp only [chp];delta qG qI qM qS qT
  simp only [cln];refine ⟨⟨0,lm _,(uY _).symm,fun i _=>all9 fun j=>(congrFun (bo2 ⟨t,x,s,ns,st,bs,a0,a1⟩ i) j).symm⟩,fun k hk=>⟨fun hlt=>?_,fun hge=>?_⟩⟩
  ·obtain ⟨b1,b2⟩:=bm1 hg hk hlt;have hxy:=bm0 hg (k:=k) hlt;have hu:isU9 (bs (a0+k-s.x0).toNat):=hg.bs _ b1;have hal:0<=x.alpha/\x.alpha<=255:=hg.fill.alpha;have hq:0<=Src.al x.src (a0+k) s.y/\Src.al x.src (a0+k) s.y<=255:=(aH4 hg.fill.src hxy).2;have st9:∀ i j,i<ns->(bif decide (i=(a0+k-s.x0).toNat/\0<=j/\j<9) then ae9 x (a0+k) s.y (bs (a0+k-s.x0).toNat) (j-0) else PcG.at ⟨t,x,s,ns,st,bs,a0,a1⟩ k i j)=bif decide (j<9) then PcG.at ⟨t,x,s,ns,st,bs,a0,a1⟩ ((k+1:Nat):Int) i j else PcG.at ⟨t,x,s,ns,st,bs,a0,a1⟩ k i j:=fun i j hi=>aA7 hg hlt i j
   have mm:k+1<=(a1-a0).toNat/\(a1-a0).toNat-(k+1)<(a1-a0).toNat-k:=by omega
   have he:(fun j=>bs (a0+k-s.x0).toNat j)=bs (a0+k-s.x0).toNat:=rfl;have hb:=pc_b hg hk hlt;simp only [zf8,he];refine ⟨⟨⟨k0,k3⟩,hg.fill.src,hxy⟩,⟨hq,hal⟩,fun h0=>?_,fun h0=>?_⟩
   ·have hP:PaintG.ok ⟨bs (a0+k-s.x0).toNat,inkF z8,aa9 (Src.al x.src (a0+k) s.y) x.alpha,aa4 x.blend.toNat,x.over⟩:=by
     have:=af2 hg.fill hxy hu
     rwa [lg (show It.q x (a0+k) s.y=0 from h0)] at this
    have hr:PaintG.res ⟨bs (a0+k-s.x0).toNat,inkF z8,aa9 (Src.al x.src (a0+k) s.y) x.alpha,aa4 x.blend.toNat,x.over⟩=ae9 x (a0+k) s.y (bs (a0+k-s.x0).toNat):=by
     unfold ae9;rw [lg (show It.q x (a0+k) s.y=0 from h0)];rfl
    simp only [hr];exact ⟨hb.1,hb.1,hb.2.1,b1,hP,hb.2.1,b1,hb.2.2,k+1,mm.1,⟨by omega,fun i hi=>⟨⟨⟨⟨⟨⟨⟨⟨st9 i 0 hi,st9 i 1 hi⟩,st9 i 2 hi⟩,st9 i 3 hi⟩,st9 i 4 hi⟩,st9 i 5 hi⟩,st9 i 6 hi⟩,st9 i 7 hi⟩,st9 i 8 hi⟩⟩,mm.2⟩
   ·have hP:PaintG.ok ⟨bs (a0+k-s.x0).toNat,inkF (Src.at x.src (a0+k) s.y),aa9 (Src.al x.src (a0+k) s.y) x.alpha,aa4 x.blend.toNat,x.over⟩:=by
     have:=af2 hg.fill hxy hu
     rwa [lb (show ¬ It.q x (a0+k) s.y=0 from h0)] at this
    have hr:PaintG.res ⟨bs (a0+k-s.x0).toNat,inkF (Src.at x.src (a0+k) s.y),aa9 (Src.al x.src (a0+k) s.y) x.alpha,aa4 x.blend.toNat,x.over⟩=ae9 x (a0+k) s.y (bs (a0+k-s.x0).toNat):=by
     unfold ae9;rw [lb (show ¬ It.q x (a0+k) s.y=0 from h0)];rfl
    have eF:(fun j=>Sx.intOf (lst (inkL (Src.at x.src (a0+k) s.y)) j))=inkF (Src.at x.src (a0+k) s.y):=rfl;simp only [eF,hr];exact ⟨hb.1,hb.1,hb.2.1,b1,hP,hb.2.1,b1,hb.2.2,k+1,mm.1,⟨by omega,fun i hi=>⟨⟨⟨⟨⟨⟨⟨⟨st9 i 0 hi,st9 i 1 hi⟩,st9 i 2 hi⟩,st9 i 3 hi⟩,st9 i 4 hi⟩,st9 i 5 hi⟩,st9 i 6 hi⟩,st9 i 7 hi⟩,st9 i 8 hi⟩⟩,mm.2⟩
  ·exact fun i _=>all9 fun j=>congrFun (aP0 (g:=⟨t,x,s,ns,st,bs,a0,a1⟩) hk hge i) j
end Lpa
set_option linter.unusedSimpArgs false
set_option linter.unusedVariables false
namespace Lpr
open Go.RowKit Sx Num Aff Afi Img Imh Imp Imq Rga Blend Ble Lsg Lta Lrd Lri Luc Lck Lgr Lcs Lst Lch Lcl Lgp Lsc Cmp Lpm Lpa
set_option maxRecDepth 100000
structure RcG where
 t:Nat
 x:It
 s:StG
 ns:Nat
 st:Nat->Cl
 bs:Nat->Cl
structure RcOK (g:RcG):Prop where
 fill:FillOK g.x
 vr:Vr g.x.nr g.x.runs
 y : -8192<=g.s.y/\g.s.y<8192
 x0 : -8192<=g.s.x0
 x1:g.s.x1<=8192
 n:(g.ns:Int)=g.s.x1-g.s.x0
 st:∀ i,i<g.ns->isU9 (g.st i)
 bs:∀ i,i<g.ns->isU9 (g.bs i)
def RcG.at (g:RcG) (m i:Nat):Cl:=if covR g.x.runs m (g.s.x0+i) g.s.y then ae9 g.x (g.s.x0+i) g.s.y (g.bs i) else g.st i
def RcG.ix (g:RcG):Nat:=ixB g.x.runs g.s g.x.nr 0
theorem bQ9 {g:RcG}(h:RcOK g):BsOK ⟨g.x.nr,g.x.runs,g.s⟩:=h.vr.mono g.s
theorem b13 {g:RcG}(h:RcOK g) {j:Nat}(hj:j<g.ix):Bfr (g.x.runs j) g.s:=a05 g.x.runs g.s g.x.nr 0 j (lm _) hj
theorem b14 {g:RcG}(h:RcOK g):g.ix<=g.x.nr:=by
 have:=a06 g.x.runs g.s g.x.nr 0
 unfold RcG.ix; omega
theorem bM8 {g:RcG}(h:RcOK g) {i:Nat}(hi:i<g.ns):g.at g.ix i=g.st i:=by
 unfold RcG.at;refine lb ?_;rintro ⟨j,hj,h1,h2,h3⟩;rcases b13 h hj with h4 | ⟨h4,h5⟩
 ·omega
 ·omega
theorem b12 {g:RcG}(h:RcOK g) {k i:Nat}(hk:k<g.x.nr) (hy:(g.x.runs k).y=g.s.y) (h1:(g.x.runs k).x0<=g.s.x0+i):¬ covR g.x.runs k (g.s.x0+i) g.s.y:=by
 rintro ⟨j,hj,h2,h3,h4⟩;rcases h.vr.far k j hj hk with h5 | ⟨h5,h6⟩
 ·omega
 ·omega
theorem bu4 {g:RcG}(h:RcOK g) {k i:Nat}(hk:k<g.x.nr) (hy:(g.x.runs k).y=g.s.y) (hi:i<g.ns) {a0 a1:Int}(e0:a0=if g.s.x0>(g.x.runs k).x0 then g.s.x0 else (g.x.runs k).x0) (e1:a1=if g.s.x1<(g.x.runs k).x1 then g.s.x1 else (g.x.runs k).x1) :
  (a0<=g.s.x0+i/\g.s.x0+i<a1->g.at k i=g.st i/\g.at (k+1) i=ae9 g.x (g.s.x0+i) g.s.y (g.bs i))/\(¬ (a0<=g.s.x0+i/\g.s.x0+i<a1)->g.at (k+1) i=g.at k i):=by
 have hn:=h.n;have e:(a0<=g.s.x0+i/\g.s.x0+i<a1)<->((g.x.runs k).x0<=g.s.x0+i/\g.s.x0+i<(g.x.runs k).x1):=by
  subst e0 e1;split<;>split<;>omega
 rw [e];constructor
 ·intro hc;unfold RcG.at;rw [lb (b12 h hk hy hc.1),lg (az3.2 (.inr ⟨hy,hc⟩))];exact ⟨rfl,rfl⟩
 ·intro hc;unfold RcG.at;by_cases h2:covR g.x.runs k (g.s.x0+i) g.s.y
  ·rw [lg h2,lg (az3.2 (.inl h2))]
  ·rw [lb h2,lb (fun h3=>(az3.1 h3).elim h2 (fun h4=>hc h4.2))]
theorem aO9 {g:RcG}(h:RcOK g) {k i:Nat}(hk:g.ix<=k/\k<=g.x.nr) (hi:i<g.ns) (hx:k<g.x.nr->¬ ((g.x.runs k).y=g.s.y/\(g.x.runs k).x0<g.s.x1)):g.at k i=g.at g.x.nr i:=by
 have hn:=h.n;unfold RcG.at;by_cases h2:covR g.x.runs k (g.s.x0+i) g.s.y
 ·obtain ⟨j,hj,h3⟩:=h2;rw [lg ⟨j,hj,h3⟩,lg ⟨j,by omega,h3⟩]
 ·rw [lb h2,lb ?_];rintro ⟨j,hj,h3,h4,h5⟩;have hkj:k<=j:=xF.1 fun hc=>h2 ⟨j,hc,h3,h4,h5⟩
  have hkn:k<g.x.nr:=by omega
  have hnx:=hx hkn;have hb:¬ Bfr (g.x.runs k) g.s:=fun hc=>by
   have:=(bQ9 h).below (j:=k) hkn hc
   have:k<g.ix:=this
   omega
  unfold Bfr at hb;by_cases e:j=k
  ·subst e;exact hnx ⟨h3,by omega⟩
  ·rcases h.vr.far j k (by omega) hj with h6 | ⟨h6,h7⟩
   ·omega
   ·have:=h.vr.lt k hkn
    exact hnx ⟨by omega,by omega⟩
theorem b11 {g:RcG}(h:RcOK g) (k:Nat) {i:Nat}(hi:i<g.ns):isU9 (g.at k i):=by
 have hn:=h.n;have h0:=h.x0;have h1:=h.x1;unfold RcG.at;split
 ·exact bi1 h.fill ⟨by omega,h.y⟩ (h.bs i hi)
 ·exact h.st i hi
noncomputable def rcO (g:RcG) (f:Nat->Cl):List SO:=[.cells 1 (lst [.ref 37 (fcS g.t g.x (srcX g.x.src))]) TPf,.cells 3 (lst (stL g.s)) TRp,.cells 1 (lst [.osl 4 0]) TSs,.cells 1 (lst [.osl 4 0]) TSs,stR g.ns f]
noncomputable def rcP (g:RcG) (f:Nat->Cl):List SO:=[.cells 1 (lst [.ref 37 (fcS g.t g.x (srcX g.x.src))]) TPf,.cells 3 (lst (stL g.s)) TRp,.cells 1 (lst [.osl 5 0]) TSs,.cells 1 (lst [.osl 4 0]) TSs,stR g.ns f,stR g.ns g.bs]
def pcF:SV:= .fn 63 4 (lst [.own 0 0,.own 1 0,.own 2 0,.own 3 0])
def bE6 (g:RcG) (i:Nat):Prop:=(g.ix<=i/\i<=g.x.nr)/\∀ j,g.ix<=j->j<i->(g.x.runs j).y=g.s.y
noncomputable def rcI (g:RcG):Inv:=⟨Nat,bE6 g,fun i=>⟨[(1,rgS ⟨g.x.nr,g.x.runs⟩),(2,pcF),(3,.own 5 0),(6,.int .i64 i)],rcO g (g.at i)++[.cells 3 (lst (stL g.s)) TRp]⟩,fun i=>g.x.nr-i⟩
noncomputable def rcJ (g:RcG):Inv:=⟨Nat,bE6 g,fun i=>⟨[(1,rgS ⟨g.x.nr,g.x.runs⟩),(2,pcF),(3,.own 6 0),(6,.int .i64 i)],rcP g (g.at i)++[.cells 3 (lst (stL g.s)) TRp]⟩,fun i=>g.x.nr-i⟩
noncomputable def spRa:FSpec:=ac3 62 [.part 2 0,.part 2 1,.part 2 2,.part 2 3,.cell 3 0] (γ:=RcG)
 (fun _ o=>some ⟨(Sx.intOf (refG (clG (o.getD 0 .dead) 0) 34)).toNat,itD (refG (clG (o.getD 0 .dead) 0)),stD (clG (o.getD 1 .dead)),aI4 (o.getD 4 .dead),stFD (o.getD 4 .dead),stFD (o.getD 4 .dead)⟩)
 (fun g=>[stS g.s,rgS ⟨g.x.nr,g.x.runs⟩,pcF]) (fun g=>rcO g g.st) (fun g=>RcOK g/\g.bs=g.st) (fun _=> .tup 0 (lst [])) (fun g=>rcO g (g.at g.x.nr))
set_option maxHeartbeats 1000000 in
theorem ok_Ra:aa2 Tryz.prog spRa:=by
 refine smW (specs:=[spBs,spPc]) (⟨bT7,ok_pc,trivial⟩) Tryz.func62 (fun g=>(⟨[(2,.inv (rcI g))],[]⟩:Ann)) true ?_;rintro ⟨t,x,s,ns,st,bs⟩ ⟨hg,hbs⟩;have hbs:st=bs:=hbs.symm;subst hbs;refine ab2 (B:=let T2:=fun p:Prop=>True/\True/\p;let T5:=fun p:Prop=>True/\True/\True/\True/\True/\p;let A:=Sx.Ask;let z28:=(8:Nat);let z27:=(7:Nat);let z26:=(6:Nat);let z25:=(5:Nat);let z24:=(4:Nat);let z23:=(3:Nat);let z22:=(2:Nat);let z21:=(1:Nat);let z19:=(↑t:Int);let z18:=(0:Nat);let z17:=(fcS z19.toNat x (srcX x.src) (35:Nat));let z16:=((86:Go.FuncId)=(86:Go.FuncId));let z15:=((112:Go.FuncId)=(112:Go.FuncId));let z14:=(Blend.aa4 x.blend.toNat=Blend.aa4 x.blend.toNat);let z12:=(fcS t x (srcX x.src) (35:Nat));let z11:=(True/\True);let z9:=(z18=z18);let z13:=(A ((63:Go.FuncId)=(63:Go.FuncId))/\(((True/\A z9)/\A z9)/\A z9)/\A z9);let z7:=(IntKind.i64=IntKind.i64);let q7:=fun p:Int=>A z7/\A (p=p);let z6:=(A (x.nr=x.nr)/\∀ i:Nat,i<x.nr->(((True/\q7 ((x.runs i).y))/\q7 ((x.runs i).x0))/\q7 ((x.runs i).x1)));let z5:=(IntKind.u8=IntKind.u8);let q5:=fun p:Int=>A z5/\A (p=p);let z4:=(RcG.mk t x s ns st st);let z3:=(True/\(((qT True x x)/\q7 z19)/\SVle [] [] z12 z12)/\A z16/\T2 (A z15/\T2 (A z14/\True)));let z2:=(((True/\q7 s.y)/\q7 s.x0)/\q7 s.x1);T2 (True/\((z6/\z2/\(A ((88:Nat)=(88:Go.FuncId))/\True)/\True)/\A (BsOK (BsG.mk x.nr x.runs s)))/\T5 ((∃ g:Nat,A ((rcI z4).pre g)/\True/\(z6/\z13/\A z9/\(A z7/\A ((↑(ixB x.runs s x.nr z18):Int)=(↑g:Int)))/\True)/\z3/\z2/\z11/\z11/\(A (ns=ns)/\∀ i:Nat,i<ns->(((((((((True/\A z5/\A (st i z18=z4.at g i z18))/\A z5/\A (st i z21=z4.at g i z21))/\A z5/\A (st i z22=z4.at g i z22))/\A z5/\A (st i z23=z4.at g i z23))/\A z5/\A (st i z24=z4.at g i z24))/\A z5/\A (st i z25=z4.at g i z25))/\A z5/\A (st i z26=z4.at g i z26))/\A z5/\A (st i z27=z4.at g i z27))/\A z5/\A (st i z28=z4.at g i z28)))/\z2/\True)/\∀ g:Nat,let z20:=(↑g:Int);let z10:=((0:Int)<=z20/\z20<(↑x.nr:Int));let z8:=(x.runs z20.toNat);let z30:=(if s.x1<z8.x1 then s.x1 else z8.x1);let z29:=(if s.x0>z8.x0 then s.x0 else z8.x0);let z1:=(Lpa.PcG.mk z19.toNat x s ns (z4.at g) (z4.at g) z29 z30);let z0:=(A (ns=ns)/\∀ i:Nat,i<ns->(((((((((True/\A z5/\A (z4.at g i z18=z4.at x.nr i z18))/\A z5/\A (z4.at g i z21=z4.at x.nr i z21))/\A z5/\A (z4.at g i z22=z4.at x.nr i z22))/\A z5/\A (z4.at g i z23=z4.at x.nr i z23))/\A z5/\A (z4.at g i z24=z4.at x.nr i z24))/\A z5/\A (z4.at g i z25=z4.at x.nr i z25))/\A z5/\A (z4.at g i z26=z4.at x.nr i z26))/\A z5/\A (z4.at g i z27=z4.at x.nr i z27))/\A z5/\A (z4.at g i z28=z4.at x.nr i z28))); (rcI z4).pre g->T5 (Br (decide (z20<(↑x.nr:Int))) (T2 (A z10/\T5 (T2 (Br (decide (z8.y=s.y)) (T2 (A z10/\T5 (True/\Br (decide (z8.x0<s.x1)) (T2 (True/\A z10/\T5 (T2 (A z10/\T5 (((True/\((A z7/\A (z29=if s.x0>z8.x0 then s.x0 else z8.x0))/\(A z7/\A (z30=if s.x1<z8.x1 then s.x1 else z8.x1))/\A z9/\A z9/\A z9/\A z9/\True)/\(True/\(((qT True x x)/\A z7/\A (z19=(↑z19.toNat:Int)))/\SVle [] [] z12 z17)/\A z16/\T2 (A z15/\T2 (A z14/\True)))/\z2/\z11/\z11/\(A (ns=ns)/\∀ i:Nat,i<ns->(chp True (fun j:Nat=>q5 (z4.at g i j)) 9))/\True)/\A (Lpa.PcOK z1/\z4.at g=z4.at g))/\True/\A ((-9223372036854775808:Int)<=z20+(1:Int)/\z20+(1:Int)<=(9223372036854775807:Int))/\True/\∃ (g':Nat),A ((rcI z4).pre g')/\True/\((z6/\z13/\A z9/\(A z7/\A (z20+(1:Int)=(↑g':Int)))/\True)/\(True/\(((qT True x x)/\A z7/\A ((↑z19.toNat:Int)=z19))/\SVle [] [] z17 z12)/\A z16/\T2 (A z15/\T2 (A z14/\True)))/\z2/\z11/\z11/\(A (ns=ns)/\∀ i:Nat,i<ns->(((((((((True/\A z5/\A (z1.fin i z18=z4.at g' i z18))/\A z5/\A (z1.fin i z21=z4.at g' i z21))/\A z5/\A (z1.fin i z22=z4.at g' i z22))/\A z5/\A (z1.fin i z23=z4.at g' i z23))/\A z5/\A (z1.fin i z24=z4.at g' i z24))/\A z5/\A (z1.fin i z25=z4.at g' i z25))/\A z5/\A (z1.fin i z26=z4.at g' i z26))/\A z5/\A (z1.fin i z27=z4.at g' i z27))/\A z5/\A (z1.fin i z28=z4.at g' i z28)))/\z2/\True)/\A ((rcI z4).meas g'<(rcI z4).meas g)))))) (T2 (z11/\z3/\z2/\z11/\z11/\z0/\True))))) (T2 (True/\z11/\z3/\z2/\z11/\z11/\z0/\True)))))) (T5 (z11/\z3/\z2/\z11/\z11/\z0/\True)))))) (by kernel_rfl) ?_;simp only [chp];delta qG qI qM qS qT
 simp only [cln];simp only [lw];have hs:SVle [] [] (fcS t x (srcX x.src) 35) (fcS t x (srcX x.src) 35):=SVle.refl [] [] (aw7 x.src);refine ⟨bQ9 hg,⟨RcG.ix ⟨t,x,s,ns,st,st⟩,⟨⟨lh _,b14 hg⟩,fun j h1 h2=>absurd h2 (xF.2 h1)⟩,rfl,hs,fun i hi=>all9 fun j=>(congrFun (bM8 hg hi) j).symm⟩,fun k hk=>?_⟩;obtain ⟨⟨k1,k2⟩,k3⟩:=hk;have k2:k<=x.nr:=k2;have hl:x.nr<=4611686018427387904:=hg.vr.len;have hn:(ns:Int)=s.x1-s.x0:=hg.n;refine ⟨fun hlt=>?_,fun hge=>?_⟩
 ·have hlt:k<x.nr:=by omega
  refine ⟨by omega,fun hy=>⟨by omega,fun hx=>?_,fun hx=>?_⟩,fun hy=>?_⟩
  ·have hu:∀ i,i<ns->isU9 (RcG.at ⟨t,x,s,ns,st,st⟩ k i):=fun i hi=>b11 hg k hi
   have hp:PcOK ⟨t,x,s,ns,RcG.at ⟨t,x,s,ns,st,st⟩ k,RcG.at ⟨t,x,s,ns,st,st⟩ k,if s.x0>(x.runs k).x0 then s.x0 else (x.runs k).x0,if s.x1<(x.runs k).x1 then s.x1 else (x.runs k).x1⟩:=⟨hg.fill,hg.y,hg.x0,hg.x1,hg.n,by simp only; split<;>omega,by simp only; split<;>omega,hu,hu⟩
   have hstep:∀ i,i<ns->PcG.fin ⟨t,x,s,ns,RcG.at ⟨t,x,s,ns,st,st⟩ k,RcG.at ⟨t,x,s,ns,st,st⟩ k,if s.x0>(x.runs k).x0 then s.x0 else (x.runs k).x0,if s.x1<(x.runs k).x1 then s.x1 else (x.runs k).x1⟩ i=RcG.at ⟨t,x,s,ns,st,st⟩ (k+1) i:=fun i hi=>by
    have hst:=bu4 hg hlt hy hi rfl rfl;unfold PcG.fin;by_cases hc:(if s.x0>(x.runs k).x0 then s.x0 else (x.runs k).x0)<=s.x0+i/\s.x0+i<(if s.x1<(x.runs k).x1 then s.x1 else (x.runs k).x1)
    ·rw [lg hc];have h2:=hst.1 hc;exact (congrArg (ae9 x (s.x0+i) s.y) h2.1).trans h2.2.symm
    ·rw [lb hc];exact (hst.2 hc).symm
   have hpre:bE6 ⟨t,x,s,ns,st,st⟩ (k+1):=⟨⟨by omega,hlt⟩,fun j h1 h2=>by
    by_cases e:j=k
    ·subst e; exact hy
    ·exact k3 j h1 (by omega)⟩
   have hm:x.nr-(k+1)<x.nr-k:=by omega
   exact ⟨by omega,by omega,⟨⟨trivial,hs⟩,hp⟩,by omega,k+1,hpre,⟨by simp,⟨trivial,hs⟩,fun i hi=>all9 fun j=>congrFun (hstep i hi) j⟩,hm⟩
  ·exact ⟨hs,fun i hi=>all9 fun j=>congrFun (aO9 hg ⟨k1,k2⟩ hi (fun _ h=>hx h.2)) j⟩
  ·exact ⟨hs,fun i hi=>all9 fun j=>congrFun (aO9 hg ⟨k1,k2⟩ hi (fun _ h=>hy h.1)) j⟩
 ·exact ⟨hs,fun i hi=>all9 fun j=>congrFun (aO9 hg ⟨k1,k2⟩ hi (fun hc _=>hge (Int.ofNat_lt.2 hc))) j⟩
noncomputable def spRb:FSpec:=ac3 62 [.part 2 0,.part 2 1,.part 2 2,.part 2 3,.cell 3 0,.cell 2 0] (γ:=RcG)
 (fun _ o=>some ⟨(Sx.intOf (refG (clG (o.getD 0 .dead) 0) 34)).toNat,itD (refG (clG (o.getD 0 .dead) 0)),stD (clG (o.getD 1 .dead)),aI4 (o.getD 4 .dead),stFD (o.getD 4 .dead),stFD (o.getD 5 .dead)⟩)
 (fun g=>[stS g.s,rgS ⟨g.x.nr,g.x.runs⟩,pcF]) (fun g=>rcP g g.st) RcOK (fun _=> .tup 0 (lst [])) (fun g=>rcP g (g.at g.x.nr))
set_option maxHeartbeats 1000000 in
theorem ok_Rb:aa2 Tryz.prog spRb:=by
 refine smW (specs:=[spBs,spPd]) (⟨bT7,ok_pd,trivial⟩) Tryz.func62 (fun g=>(⟨[(2,.inv (rcJ g))],[]⟩:Ann)) true ?_;rintro ⟨t,x,s,ns,st,bs⟩ hg;refine ab2 (B:=let T2:=fun p:Prop=>True/\True/\p;let T5:=fun p:Prop=>True/\True/\True/\True/\True/\p;let A:=Sx.Ask;let z28:=(↑t:Int);let z27:=(8:Nat);let z26:=(7:Nat);let z25:=(6:Nat);let z24:=(5:Nat);let z23:=(4:Nat);let z22:=(3:Nat);let z21:=(2:Nat);let z20:=(1:Nat);let z19:=(fcS z28.toNat x (srcX x.src) (35:Nat));let z18:=(0:Nat);let z17:=((86:Go.FuncId)=(86:Go.FuncId));let z16:=((112:Go.FuncId)=(112:Go.FuncId));let z15:=(Blend.aa4 x.blend.toNat=Blend.aa4 x.blend.toNat);let z13:=(fcS t x (srcX x.src) (35:Nat));let z12:=(True/\True);let z10:=(z18=z18);let z14:=(A ((63:Go.FuncId)=(63:Go.FuncId))/\(((True/\A z10)/\A z10)/\A z10)/\A z10);let z8:=(IntKind.i64=IntKind.i64);let q8:=fun p:Int=>A z8/\A (p=p);let z7:=(A (x.nr=x.nr)/\∀ i:Nat,i<x.nr->(((True/\q8 ((x.runs i).y))/\q8 ((x.runs i).x0))/\q8 ((x.runs i).x1)));let z6:=(IntKind.u8=IntKind.u8);let q6:=fun p:Int=>A z6/\A (p=p);let z5:=(RcG.mk t x s ns st bs);let z4:=(True/\(((qT True x x)/\q8 z28)/\SVle [] [] z13 z13)/\A z17/\T2 (A z16/\T2 (A z15/\True)));let z3:=(((True/\q8 s.y)/\q8 s.x0)/\q8 s.x1);let z0:=(A (ns=ns)/\∀ i:Nat,i<ns->(chp True (fun j:Nat=>q6 (bs i j)) 9));T2 (True/\((z7/\z3/\(A ((88:Nat)=(88:Go.FuncId))/\True)/\True)/\A (BsOK (BsG.mk x.nr x.runs s)))/\T5 ((∃ g:Nat,A ((rcJ z5).pre g)/\True/\(z7/\z14/\A z10/\(A z8/\A ((↑(ixB x.runs s x.nr z18):Int)=(↑g:Int)))/\True)/\z4/\z3/\z12/\z12/\(A (ns=ns)/\∀ i:Nat,i<ns->(((((((((True/\A z6/\A (st i z18=z5.at g i z18))/\A z6/\A (st i z20=z5.at g i z20))/\A z6/\A (st i z21=z5.at g i z21))/\A z6/\A (st i z22=z5.at g i z22))/\A z6/\A (st i z23=z5.at g i z23))/\A z6/\A (st i z24=z5.at g i z24))/\A z6/\A (st i z25=z5.at g i z25))/\A z6/\A (st i z26=z5.at g i z26))/\A z6/\A (st i z27=z5.at g i z27)))/\z0/\z3/\True)/\∀ g:Nat,let z29:=(↑g:Int);let z11:=((0:Int)<=z29/\z29<(↑x.nr:Int));let z9:=(x.runs z29.toNat);let z31:=(if s.x1<z9.x1 then s.x1 else z9.x1);let z30:=(if s.x0>z9.x0 then s.x0 else z9.x0);let z2:=(Lpa.PcG.mk z28.toNat x s ns (z5.at g) bs z30 z31);let z1:=(A (ns=ns)/\∀ i:Nat,i<ns->(((((((((True/\A z6/\A (z5.at g i z18=z5.at x.nr i z18))/\A z6/\A (z5.at g i z20=z5.at x.nr i z20))/\A z6/\A (z5.at g i z21=z5.at x.nr i z21))/\A z6/\A (z5.at g i z22=z5.at x.nr i z22))/\A z6/\A (z5.at g i z23=z5.at x.nr i z23))/\A z6/\A (z5.at g i z24=z5.at x.nr i z24))/\A z6/\A (z5.at g i z25=z5.at x.nr i z25))/\A z6/\A (z5.at g i z26=z5.at x.nr i z26))/\A z6/\A (z5.at g i z27=z5.at x.nr i z27))); (rcJ z5).pre g->T5 (Br (decide (z29<(↑x.nr:Int))) (T2 (A z11/\T5 (T2 (Br (decide (z9.y=s.y)) (T2 (A z11/\T5 (True/\Br (decide (z9.x0<s.x1)) (T2 (True/\A z11/\T5 (T2 (A z11/\T5 (((True/\((A z8/\A (z30=if s.x0>z9.x0 then s.x0 else z9.x0))/\(A z8/\A (z31=if s.x1<z9.x1 then s.x1 else z9.x1))/\A z10/\A z10/\A z10/\A z10/\True)/\(True/\(((qT True x x)/\A z8/\A (z28=(↑z28.toNat:Int)))/\SVle [] [] z13 z19)/\A z17/\T2 (A z16/\T2 (A z15/\True)))/\z3/\z12/\z12/\(A (ns=ns)/\∀ i:Nat,i<ns->(chp True (fun j:Nat=>q6 (z5.at g i j)) 9))/\z0/\True)/\A (Lpa.PcOK z2))/\True/\A ((-9223372036854775808:Int)<=z29+(1:Int)/\z29+(1:Int)<=(9223372036854775807:Int))/\True/\∃ (g':Nat),A ((rcJ z5).pre g')/\True/\((z7/\z14/\A z10/\(A z8/\A (z29+(1:Int)=(↑g':Int)))/\True)/\(True/\(((qT True x x)/\A z8/\A ((↑z28.toNat:Int)=z28))/\SVle [] [] z19 z13)/\A z17/\T2 (A z16/\T2 (A z15/\True)))/\z3/\z12/\z12/\(A (ns=ns)/\∀ i:Nat,i<ns->(((((((((True/\A z6/\A (z2.fin i z18=z5.at g' i z18))/\A z6/\A (z2.fin i z20=z5.at g' i z20))/\A z6/\A (z2.fin i z21=z5.at g' i z21))/\A z6/\A (z2.fin i z22=z5.at g' i z22))/\A z6/\A (z2.fin i z23=z5.at g' i z23))/\A z6/\A (z2.fin i z24=z5.at g' i z24))/\A z6/\A (z2.fin i z25=z5.at g' i z25))/\A z6/\A (z2.fin i z26=z5.at g' i z26))/\A z6/\A (z2.fin i z27=z5.at g' i z27)))/\z0/\z3/\True)/\A ((rcJ z5).meas g'<(rcJ z5).meas g)))))) (T2 (z12/\z4/\z3/\z12/\z12/\z1/\z0/\True))))) (T2 (True/\z12/\z4/\z3/\z12/\z12/\z1/\z0/\True)))))) (T5 (z12/\z4/\z3/\z12/\z12/\z1/\z0/\True)))))) (by kernel_rfl) ?_;simp only [chp];delta qG qI qM qS qT
 simp only [cln];simp only [lw];have hs:SVle [] [] (fcS t x (srcX x.src) 35) (fcS t x (srcX x.src) 35):=SVle.refl [] [] (aw7 x.src);refine ⟨bQ9 hg,⟨RcG.ix ⟨t,x,s,ns,st,bs⟩,⟨⟨lh _,b14 hg⟩,fun j h1 h2=>absurd h2 (xF.2 h1)⟩,rfl,hs,fun i hi=>all9 fun j=>(congrFun (bM8 hg hi) j).symm⟩,fun k hk=>?_⟩;obtain ⟨⟨k1,k2⟩,k3⟩:=hk;have k2:k<=x.nr:=k2;have hl:x.nr<=4611686018427387904:=hg.vr.len;have hn:(ns:Int)=s.x1-s.x0:=hg.n;refine ⟨fun hlt=>?_,fun hge=>?_⟩
 ·have hlt:k<x.nr:=by omega
  refine ⟨by omega,fun hy=>⟨by omega,fun hx=>?_,fun hx=>?_⟩,fun hy=>?_⟩
  ·have hu:∀ i,i<ns->isU9 (RcG.at ⟨t,x,s,ns,st,bs⟩ k i):=fun i hi=>b11 hg k hi
   have hp:PcOK ⟨t,x,s,ns,RcG.at ⟨t,x,s,ns,st,bs⟩ k,bs,if s.x0>(x.runs k).x0 then s.x0 else (x.runs k).x0,if s.x1<(x.runs k).x1 then s.x1 else (x.runs k).x1⟩:=⟨hg.fill,hg.y,hg.x0,hg.x1,hg.n,by simp only; split<;>omega,by simp only; split<;>omega,hu,hg.bs⟩
   have hstep:∀ i,i<ns->PcG.fin ⟨t,x,s,ns,RcG.at ⟨t,x,s,ns,st,bs⟩ k,bs,if s.x0>(x.runs k).x0 then s.x0 else (x.runs k).x0,if s.x1<(x.runs k).x1 then s.x1 else (x.runs k).x1⟩ i=RcG.at ⟨t,x,s,ns,st,bs⟩ (k+1) i:=fun i hi=>by
    have hst:=bu4 hg hlt hy hi rfl rfl;unfold PcG.fin;by_cases hc:(if s.x0>(x.runs k).x0 then s.x0 else (x.runs k).x0)<=s.x0+i/\s.x0+i<(if s.x1<(x.runs k).x1 then s.x1 else (x.runs k).x1)
    ·rw [lg hc];have h2:=hst.1 hc;exact h2.2.symm
    ·rw [lb hc];exact (hst.2 hc).symm
   have hpre:bE6 ⟨t,x,s,ns,st,bs⟩ (k+1):=⟨⟨by omega,hlt⟩,fun j h1 h2=>by
    by_cases e:j=k
    ·subst e; exact hy
    ·exact k3 j h1 (by omega)⟩
   have hm:x.nr-(k+1)<x.nr-k:=by omega
   exact ⟨by omega,by omega,⟨⟨trivial,hs⟩,hp⟩,by omega,k+1,hpre,⟨by simp,⟨trivial,hs⟩,fun i hi=>all9 fun j=>congrFun (hstep i hi) j⟩,hm⟩
  ·exact ⟨hs,fun i hi=>all9 fun j=>congrFun (aO9 hg ⟨k1,k2⟩ hi (fun _ h=>hx h.2)) j⟩
  ·exact ⟨hs,fun i hi=>all9 fun j=>congrFun (aO9 hg ⟨k1,k2⟩ hi (fun _ h=>hy h.1)) j⟩
 ·exact ⟨hs,fun i hi=>all9 fun j=>congrFun (aO9 hg ⟨k1,k2⟩ hi (fun hc _=>hge (Int.ofNat_lt.2 hc))) j⟩
end Lpr
set_option linter.unusedSimpArgs false
set_option linter.unusedVariables false
namespace Lbt
open Go.RowKit Sx Num Aff Blend Ble Cmp
set_option maxRecDepth 100000
structure MixG where
 a:Nat->Int
 b:Nat->Int
 t:Int
def MixG.p (g:MixG):Int:=(255-g.t)*g.a 0
def MixG.q (g:MixG):Int:=g.t*g.b 0
def MixG.val (g:MixG) (i:Nat):Int:=nr (g.p*g.a (1+i)+g.q*g.b (1+i)) (g.p+g.q)
def MixG.al (g:MixG):Int:=nr (g.p+g.q) 255
def MixG.res (g:MixG) (j:Nat):Int:=if g.al=0 then 0 else if j=0 then g.al else g.val (j-1)
def MixG.at (g:MixG) (i:Int) (j:Nat):Int:=if j=0 then g.al else if (j:Int)<=i then g.val (j-1) else 0
def MixG.ok (g:MixG):Prop:=(isU8 g.a/\isU8 g.b)/\0<=g.t/\g.t<=255
structure MixF (g:MixG):Prop where
 p:0<=g.p/\g.p<=65025
 q:0<=g.q/\g.q<=65025
 pq:g.p+g.q<=65025
 al:0<=g.al/\g.al<=255
 t1:∀ i,0<=g.p*g.a i/\g.p*g.a i<=255*g.p
 t2:∀ i,0<=g.q*g.b i/\g.q*g.b i<=255*g.q
theorem MixG.ok.facts {g:MixG}(h:g.ok):MixF g:=by
 obtain ⟨⟨ha,hb⟩,ht,ht'⟩:=h;have a0:=ha 0;have b0:=hb 0;have p1:0<=g.p:=lQ (by omega) a0.1;have p2:g.p<=(255-g.t)*255:=lE a0.2 (by omega);have q1:0<=g.q:=lQ ht b0.1;have q2:g.q<=g.t*255:=lE b0.2 ht;refine ⟨by omega,by omega,by omega,ai4 (by omega) (by omega) (by omega),fun i=>?_,fun i=>?_⟩
 ·have h1:0<=g.p*g.a i:=lQ p1 (ha i).1;have h2:g.p*g.a i<=g.p*255:=lE (ha i).2 p1;omega
 ·have h1:0<=g.q*g.b i:=lQ q1 (hb i).1;have h2:g.q*g.b i<=g.q*255:=lE (hb i).2 q1;omega
theorem MixF.sum {g:MixG}(h:MixF g) (h0:g.al≠0):1<=g.p+g.q:=by
 have:=h.p
 have:=h.q
 refine Int.not_lt.1 fun hc=>h0 ?_
 unfold MixG.al;rw [show g.p+g.q=0 by omega];rfl
theorem bH1 (g:MixG) (i:Int) (hi:0<=i) (v:Int) (hv:v=g.val i.toNat) (j:Nat) :
  (bif decide (1+i.toNat<=j/\j<1+i.toNat+1) then v else g.at i j)=g.at (i+1) j:=by
 subst hv;by_cases hj:j=1+i.toNat
 ·have hd:decide (1+i.toNat<=j/\j<1+i.toNat+1)=true:=lk (by omega);rw [hd];have e:j-1=i.toNat:=by omega
  show g.val i.toNat=g.at (i+1) j;unfold MixG.at;rw [lb (by omega),lg (by omega),e]
 ·have hd:decide (1+i.toNat<=j/\j<1+i.toNat+1)=false:=li (by omega);rw [hd];simp only [xm];unfold MixG.at;by_cases h0:j=0
  ·rw [lg h0,lg h0]
  ·rw [lb h0,lb h0];by_cases h1:(j:Int)<=i
   ·rw [lg h1,lg (by omega)]
   ·rw [lb h1,lb (by omega)]
def aP4 (g:MixG):Inv:=⟨Int,fun i=>0<=i/\i<=8,
 fun i=>⟨[(3,.own 0 0),(4,.own 1 0),(6,.own 2 0),(7,.int .i64 g.p),(8,.int .i64 g.q),(9,.own 3 0),(34,.int .i64 i)],
  [.cells 9 (fun j=> .int .u8 (g.a j)) 96,.cells 9 (fun j=> .int .u8 (g.b j)) 96,.cells 9 (fun _=> .any) 96,.cells 9 (fun j=> .int .u8 (g.at i j)) 96]⟩,
 fun i=>(8-i).toNat⟩
def aH9:FSpec:=aa3 92 (γ:=MixG) (fun | [x,y,.int _ t]=>some ⟨rowOf x,rowOf y,t⟩ | _=>none) (fun g=>[u8S 9 g.a,u8S 9 g.b,.int .u8 g.t]) MixG.ok (fun g=>u8S 9 g.res)
theorem aI9:aa2 Tryz.prog aH9:=by
 refine seW (specs:=[aH8]) (⟨aA9,trivial⟩) (eqs:=eqC) bA7 Tryz.func92 (fun g=>(⟨[(6,.inv (aP4 g))],[]⟩:Ann)) ?_;intro g hg;have hf:=hg.facts;obtain ⟨⟨ha,hb⟩,ht,ht'⟩:=hg;refine ab2 (B:=let K:=Br;let A:=Sx.Ask;let z25:=(255:Int);let z24:=(7:Nat);let z23:=(6:Nat);let z22:=(5:Nat);let z21:=(4:Nat);let z20:=(3:Nat);let z19:=(2:Nat);let z17:=(4611686018427387904:Int);let z16:=(8:Nat);let z15:=(((((((((True/\True)/\True)/\True)/\True)/\True)/\True)/\True)/\True)/\True);let z13:=(0:Int);let z10:=(z25-g.t);let z9:=(IntKind.i64=IntKind.i64);let q9:=fun p:Int=>A z9/\A (p=p);let z8:=(9223372036854775807:Int);let z7:=(-9223372036854775808:Int);let z6:=(1:Nat);let z2:=(0:Nat);let z26:=(z2=z2);let z12:=(z2+z2);let z11:=(nr (IntKind.u8.wrap z10*g.a z12+g.t*g.b z12) z25);let z1:=(IntKind.u8=IntKind.u8);let q1:=fun p:Int=>A z1/\A (p=p);let z4:=(chp True (fun j:Nat=>q1 (g.b j)) 9);let z3:=(chp True (fun j:Nat=>q1 (g.a j)) 9);True/\True/\True/\True/\A True/\A (z7<=IntKind.u8.wrap z10/\IntKind.u8.wrap z10<=z8)/\True/\True/\A (z7<=g.a z12/\g.a z12<=z8)/\A (z7<=IntKind.u8.wrap z10*g.a z12/\IntKind.u8.wrap z10*g.a z12<=z8)/\True/\A (z7<=g.t/\g.t<=z8)/\True/\True/\A (z7<=g.b z12/\g.b z12<=z8)/\A (z7<=g.t*g.b z12/\g.t*g.b z12<=z8)/\True/\True/\True/\True/\A (z7<=IntKind.u8.wrap z10*g.a z12+g.t*g.b z12/\IntKind.u8.wrap z10*g.a z12+g.t*g.b z12<=z8)/\(((q9 (IntKind.u8.wrap z10*g.a z12+g.t*g.b z12))/\(q9 z25)/\True)/\A (((-4611686018427387904:Int)<=IntKind.u8.wrap z10*g.a z12+g.t*g.b z12/\IntKind.u8.wrap z10*g.a z12+g.t*g.b z12<=z17)/\(1:Int)<=z25/\z25<=z17))/\A True/\True/\True/\True/\True/\True/\True/\K (decide (IntKind.u8.wrap z11=z13)) (True/\True/\(True/\True)/\((((((((True/\A z1/\A (IntKind.u8.wrap z11=g.res z2))/\A z1/\A (z13=g.res z6))/\A z1/\A (z13=g.res z19))/\A z1/\A (z13=g.res z20))/\A z1/\A (z13=g.res z21))/\A z1/\A (z13=g.res z22))/\A z1/\A (z13=g.res z23))/\A z1/\A (z13=g.res z24))/\A z1/\A (z13=g.res z16)) (True/\(∃ g_1:Int,A ((aP4 g).pre g_1)/\(A z26/\A z26/\A z26/\(A z9/\A (IntKind.u8.wrap z10*g.a z12=g.p))/\(A z9/\A (g.t*g.b z12=g.q))/\A z26/\(A z9/\A (z13=g_1))/\True)/\z3/\z4/\z15/\(((((((((True/\A z1/\A (IntKind.u8.wrap z11=g.at g_1 z2))/\A z1/\A (z13=g.at g_1 z6))/\A z1/\A (z13=g.at g_1 z19))/\A z1/\A (z13=g.at g_1 z20))/\A z1/\A (z13=g.at g_1 z21))/\A z1/\A (z13=g.at g_1 z22))/\A z1/\A (z13=g.at g_1 z23))/\A z1/\A (z13=g.at g_1 z24))/\A z1/\A (z13=g.at g_1 z16))/\True)/\∀ g_1:Int,let z18:=(z13<=g_1/\g_1<(↑z16:Int));let z14:=(decide (z2+z6+g_1.toNat*z6+z6<=(9:Nat)));let z0:=(z2+z6+g_1.toNat*z6);let z5:=(nr (g.p*g.a z0+g.q*g.b z0) (g.p+g.q)); (aP4 g).pre g_1->True/\K (decide (g_1<(8:Int))) (True/\True/\True/\True/\True/\True/\A z18/\K z14 True False/\A (z7<=g.a z0/\g.a z0<=z8)/\A (z7<=g.p*g.a z0/\g.p*g.a z0<=z8)/\True/\True/\True/\A z18/\K z14 True False/\A (z7<=g.b z0/\g.b z0<=z8)/\A (z7<=g.q*g.b z0/\g.q*g.b z0<=z8)/\A (z7<=g.p*g.a z0+g.q*g.b z0/\g.p*g.a z0+g.q*g.b z0<=z8)/\True/\True/\A (z7<=g.p+g.q/\g.p+g.q<=z8)/\(((q9 (g.p*g.a z0+g.q*g.b z0))/\(q9 (g.p+g.q))/\True)/\A (((-4611686018427387904:Int)<=g.p*g.a z0+g.q*g.b z0/\g.p*g.a z0+g.q*g.b z0<=z17)/\(1:Int)<=g.p+g.q/\g.p+g.q<=z17))/\A True/\True/\A z18/\K z14 True False/\A (z7<=g_1+(1:Int)/\g_1+(1:Int)<=z8)/\True/\∃ (g':Int),A ((aP4 g).pre g')/\((A z26/\A z26/\A z26/\(q9 g.p)/\(q9 g.q)/\A z26/\(A z9/\A (g_1+(1:Int)=g'))/\True)/\z3/\z4/\z15/\(((((((((True/\A z1/\A ((bif decide (z2+z6+g_1.toNat*z6<=z2/\z2<z2+z6+g_1.toNat*z6+z6) then IntKind.u8.wrap z5 else g.at g_1 z2)=g.at g' z2))/\A z1/\A ((bif decide (z2+z6+g_1.toNat*z6<=z6/\z6<z2+z6+g_1.toNat*z6+z6) then IntKind.u8.wrap z5 else g.at g_1 z6)=g.at g' z6))/\A z1/\A ((bif decide (z2+z6+g_1.toNat*z6<=z19/\z19<z2+z6+g_1.toNat*z6+z6) then IntKind.u8.wrap z5 else g.at g_1 z19)=g.at g' z19))/\A z1/\A ((bif decide (z2+z6+g_1.toNat*z6<=z20/\z20<z2+z6+g_1.toNat*z6+z6) then IntKind.u8.wrap z5 else g.at g_1 z20)=g.at g' z20))/\A z1/\A ((bif decide (z2+z6+g_1.toNat*z6<=z21/\z21<z2+z6+g_1.toNat*z6+z6) then IntKind.u8.wrap z5 else g.at g_1 z21)=g.at g' z21))/\A z1/\A ((bif decide (z2+z6+g_1.toNat*z6<=z22/\z22<z2+z6+g_1.toNat*z6+z6) then IntKind.u8.wrap z5 else g.at g_1 z22)=g.at g' z22))/\A z1/\A ((bif decide (z2+z6+g_1.toNat*z6<=z23/\z23<z2+z6+g_1.toNat*z6+z6) then IntKind.u8.wrap z5 else g.at g_1 z23)=g.at g' z23))/\A z1/\A ((bif decide (z2+z6+g_1.toNat*z6<=z24/\z24<z2+z6+g_1.toNat*z6+z6) then IntKind.u8.wrap z5 else g.at g_1 z24)=g.at g' z24))/\A z1/\A ((bif decide (z2+z6+g_1.toNat*z6<=z16/\z16<z2+z6+g_1.toNat*z6+z6) then IntKind.u8.wrap z5 else g.at g_1 z16)=g.at g' z16))/\True)/\A ((aP4 g).meas g'<(aP4 g).meas g_1)) (True/\True/\(True/\True)/\((((((((True/\A z1/\A (g.at g_1 (z2+z12)=g.res z2))/\A z1/\A (g.at g_1 (z2+(z2+z6))=g.res z6))/\A z1/\A (g.at g_1 (z2+(z2+z19))=g.res z19))/\A z1/\A (g.at g_1 (z2+(z2+z20))=g.res z20))/\A z1/\A (g.at g_1 (z2+(z2+z21))=g.res z21))/\A z1/\A (g.at g_1 (z2+(z2+z22))=g.res z22))/\A z1/\A (g.at g_1 (z2+(z2+z23))=g.res z23))/\A z1/\A (g.at g_1 (z2+(z2+z24))=g.res z24))/\A z1/\A (g.at g_1 (z2+(z2+z16))=g.res z16)))) (by kernel_rfl) ?_;simp only [chp];have w1:IntKind.u8.wrap (255-g.t)=255-g.t:=u8w (by omega) (by omega);have ep:(255-g.t)*g.a 0=g.p:=rfl;have eq':g.t*g.b 0=g.q:=rfl;have eal:nr (g.p+g.q) 255=g.al:=rfl;have ev:∀ i,nr (g.p*g.a (1+i)+g.q*g.b (1+i)) (g.p+g.q)=g.val i:=fun _=>rfl
 simp only [lu,lX,xX,w1,ep,eq',eal,ev,u8w hf.al.1 hf.al.2];simp only [ac9,ae4,eq_self,xD,xC,lA,lI,uW,ne_eq,uj,lag,xp];have f1:=hf.p;have f2:=hf.q;have f3:=hf.pq;have f4:=ha 0;have f5:=hb 0;refine ⟨by omega,by omega,by omega,by omega,by omega,by omega,by omega,by omega,fun h0=>by simp [MixG.res,h0],fun h0=>⟨⟨(0:Int),⟨by omega,by omega⟩,rfl,by simp [MixG.at]⟩,fun i hi=>⟨fun hlt=>?_,fun hge=>?_⟩⟩⟩
 ·have g1:=hf.t1 (1+i.toNat);have g2:=hf.t2 (1+i.toNat);have g3:=hf.sum h0;have g4:=ha (1+i.toNat);have g5:=hb (1+i.toNat);have hi':0<=i/\i<=8:=hi;have hr:0<=g.val i.toNat/\g.val i.toNat<=255:=ai4 g3 (by omega) (by omega);have st:=bH1 g i hi'.1 _ rfl;simp only [u8w hr.1 hr.2,st];refine ⟨by omega,by omega,by omega,by omega,by omega,by omega,by omega,by omega,by omega,by omega,by omega,by omega,by omega,by omega,(i+1:Int),⟨by omega,by omega⟩,⟨rfl,by simp only [eq_self,ud]⟩,?_⟩;show (8-(i+1)).toNat<(8-i).toNat;omega
 ·have hi':0<=i/\i<=8:=hi;obtain rfl:i=8:=by omega
  simp [MixG.at,MixG.res,h0]
theorem MixG.b08 {g:MixG}(h:g.ok):isU8 g.res:=by
 intro j;have f:=h.facts;unfold MixG.res;split
 ·exact ⟨xN 0,by decide⟩
 ·rename_i h0;split
  ·exact f.al
  ·have:=f.t1 (1+(j-1)); have:=f.t2 (1+(j-1))
   exact ai4 (f.sum h0) (by omega) (by omega)
end Lbt
set_option linter.unusedSimpArgs false
set_option linter.unusedVariables false
namespace Lpn
open Go.RowKit Sx Num Aff Afi Img Imh Imp Imq Rga Blend Ble Lsg Lta Lrd Lri Luc Lck Lgr Lcs Lst Lch Lcl Lgp Lsc Cmp Lpm Lpa Lpr Lbt
inductive Nd:Type
 | fill (t:Nat) (x:It)
 | grp (t:Int) (mx:Bool) (x:It) (n:Nat) (k:Nat->Nd)
def ndT:Nd->TypeId
 | .fill _ _=>TPf
 | .grp _ _ _ _ _=>TPg
def mxS (x:It):Bool->SV
 | true=> .nilfn
 | false=>mixS x
noncomputable def ndC:Nd->Nat->SV
 | .fill t x=>fcS t x (srcX x.src)
 | .grp t mx x n k=>lst (itL x++[.int .i64 t,mxS x mx,.sl n 1 (fun a _=> .ifc (ndT (k a)) (fun _=> .ref 37 (ndC (k a))))])
theorem bN7 (nd:Nd):∃ f,f=ndC nd:=⟨_,rfl⟩
noncomputable def ndX (nd:Nd):Nat->SV:=Classical.choose (bN7 nd)
theorem aP3 (nd:Nd):ndX nd=ndC nd:=xv (bN7 nd)
theorem bU5:∀ {a b:Nd},ndC a=ndC b->a=b:=by
 intro a;induction a with
 | fill t x=>
  intro b h;cases b with
  | fill t' x'=>
   have h1:itD (fcS t x (srcX x.src))=itD (fcS t' x' (srcX x'.src)):=congrArg itD h;have h1:x=x':=h1;have h2:SV.int .i64 (t:Int)=SV.int .i64 (t':Int):=congrFun h 34;injection h2 with _ h2
   rw [h1,Int.ofNat.inj h2]
  | grp t' mx' x' n' k'=>
   have h2:mixS x = .sl n' 1 (fun a _=> .ifc (ndT (k' a)) (fun _=> .ref 37 (ndC (k' a)))):=congrFun h 36;cases h2
 | grp t mx x n k ih=>
  intro b h;cases b with
  | fill t' x'=>
   have h2:SV.sl n 1 (fun a _=> .ifc (ndT (k a)) (fun _=> .ref 37 (ndC (k a))))=mixS x':=congrFun h 36;cases h2
  | grp t' mx' x' n' k'=>
   have h1:x=x':=congrArg itD h;have h2:SV.int .i64 t=SV.int .i64 t':=congrFun h 34;injection h2 with _ h2
   have h3:mxS x mx=mxS x' mx':=congrFun h 35;have h3:mx=mx':=by
    cases mx<;>cases mx'<;>first | rfl | cases h3
   have h4:SV.sl n 1 (fun a _=> .ifc (ndT (k a)) (fun _=> .ref 37 (ndC (k a))))=SV.sl n' 1 (fun a _=> .ifc (ndT (k' a)) (fun _=> .ref 37 (ndC (k' a)))):=congrFun h 36;injection h4 with h5 _ h6
   have h7:k=k':=funext fun a=>by
    have h8:SV.ifc (ndT (k a)) (fun _=> .ref 37 (ndC (k a)))=SV.ifc (ndT (k' a)) (fun _=> .ref 37 (ndC (k' a))):=congrFun (congrFun h6 a) 0;injection h8 with _ h9
    have h10:SV.ref 37 (ndC (k a))=SV.ref 37 (ndC (k' a)):=congrFun h9 0;injection h10 with _ h11
    exact ih a h11
   rw [h1,h2,h3,h5,h7]
instance:Inhabited Nd:=⟨.fill 0 zIt⟩
theorem bx1 (c:Nat->SV):∃ nd,(∃ d,ndX d=c)->ndX nd=c:=by
 by_cases h:∃ d,ndX d=c
 ·obtain ⟨d,hd⟩:=h;exact ⟨d,fun _=>hd⟩
 ·exact ⟨default,fun h2=>absurd h2 h⟩
noncomputable def ndOf (c:Nat->SV):Nd:=Classical.choose (bx1 c)
theorem aq2 (nd:Nd):ndOf (ndX nd)=nd:=by
 have h:=xv (bx1 (ndX nd)) ⟨nd,rfl⟩;have h:ndX (ndOf (ndX nd))=ndX nd:=h;exact bU5 ((aP3 _).symm.trans (h.trans (aP3 nd)))
def itN {α:Type}(f:Nat->α->α) (c:α):Nat->α
 | 0=>c
 | m+1=>f m (itN f c m)
def Nd.cov (cx cy:Int):Nd->Bool
 | .fill _ x=>decide (covR x.runs x.nr cx cy)
 | .grp _ _ _ n k=>(List.range n).any fun a=>(k a).cov cx cy
def covK (k:Nat->Nd) (cx cy:Int) (m:Nat):Bool:=(List.range m).any fun a=>(k a).cov cx cy
theorem bB0 (k:Nat->Nd) (cx cy:Int) (m:Nat):covK k cx cy (m+1)=(covK k cx cy m||(k m).cov cx cy):=by
 unfold covK;rw [List.range_succ,List.any_append];simp
def isoC (b inner:Cl) (x:It):Cl:=(PaintG.mk b (if aa9 (inner 0) x.alpha=0 then inkF z8 else fun j=>inner (1+j)) (aa9 (inner 0) x.alpha) (aa4 x.blend.toNat) false).res
def Nd.pnt (cx cy:Int):Nd->Cl->Cl->Cl
 | .fill _ x,b,c=>if covR x.runs x.nr cx cy then ae9 x cx cy b else c
 | .grp _ _ x n k,b,c=>if (List.range n).any (fun a=>(k a).cov cx cy)=true then
   (if x.iso=true then isoC b (itN (fun a st=>(k a).pnt cx cy (if x.knock=true then (fun _=>0) else st) st) (fun _=>0) n) x
    else (MixG.mk b (itN (fun a st=>(k a).pnt cx cy (if x.knock=true then b else st) st) b n) x.alpha).res) else c
def pntK (k:Nat->Nd) (kn:Bool) (cx cy:Int) (c:Cl) (m:Nat):Cl:=itN (fun a st=>(k a).pnt cx cy (if kn=true then c else st) st) c m
theorem bu7 (k:Nat->Nd) (kn:Bool) (cx cy:Int) (c:Cl) (m:Nat):pntK k kn cx cy c (m+1)=(k m).pnt cx cy (if kn=true then c else pntK k kn cx cy c m) (pntK k kn cx cy c m):=rfl
inductive NdOK:Nat->Nd->Prop
 | fill {d t x} (h:FillOK x) (hv:Vr x.nr x.runs):NdOK d (.fill t x)
 | grp {d t mx x n k} (hn:n<=4294967296) (hm:mx=false) (ha:0<=x.alpha/\x.alpha<=255) (hb:0<=x.blend/\x.blend<=11) (hk:∀ a,a<n->NdOK d (k a)):NdOK (d+1) (.grp t mx x n k)
theorem bU6 (x:It) (b:Bool):ae8 (mxS x b):=by
 cases b
 ·exact ax5 x
 ·trivial
theorem bU4:∀ (nd:Nd) (j:Nat),ae8 (ndC nd j):=by
 intro nd;induction nd with
 | fill t x=>
  refine ac0 fun s hs=>?_
  rcases xa.1 hs with h1 | h1
  ·exact as5 _ s h1
  ·simp only [lP,lJ,uk] at h1;rcases h1 with rfl | rfl | rfl
   ·trivial
   ·exact aw7 _
   ·exact ax5 _
 | grp t mx x n k ih=>
  refine ac0 fun s hs=>?_
  rcases xa.1 hs with h1 | h1
  ·exact as5 _ s h1
  ·simp only [lP,lJ,uk] at h1;rcases h1 with rfl | rfl | rfl
   ·trivial
   ·exact bU6 _ _
   ·exact fun a _ _ j=>ih a j
theorem an3 (nd:Nd) (j:Nat):ae8 (ndX nd j):=by rw [aP3]; exact bU4 nd j
theorem aF8 (t:Nat) (x:It):ndX (.fill t x)=fcS t x (srcX x.src):=aP3 _
theorem aj2 (t:Int) (mx:Bool) (x:It) (n:Nat) (k:Nat->Nd):ndX (.grp t mx x n k)=lst (itL x++[.int .i64 t,mxS x mx,.sl n 1 (fun a _=> .ifc (ndT (k a)) (fun _=> .ref 37 (ndX (k a))))]):=by
 rw [aP3];have:(fun (a:Nat) (_:Nat)=>SV.ifc (ndT (k a)) (fun _=> .ref 37 (ndX (k a))))=fun a _=> .ifc (ndT (k a)) (fun _=> .ref 37 (ndC (k a))):=by
  funext a _;rw [aP3]
 rw [this];rfl
def Nd.n:Nd->Nat
 | .fill _ _=>0
 | .grp _ _ _ n _=>n
def Nd.k:Nd->Nat->Nd
 | .fill t x=>fun _=> .fill t x
 | .grp _ _ _ _ k=>k
def Nd.x:Nd->It
 | .fill _ x=>x
 | .grp _ _ x _ _=>x
noncomputable def kidS (n:Nat) (k:Nat->Nd):SV:= .sl n 1 (fun a _=> .ifc (ndT (k a)) (fun _=> .ref 37 (ndX (k a))))
theorem ba8 {b inner:Cl}{x:It}(hb:isU9 b) (hi:isU9 inner) (ha:0<=x.alpha/\x.alpha<=255) (hx:0<=x.blend/\x.blend<=11):PaintG.ok (PaintG.mk b (if aa9 (inner 0) x.alpha=0 then inkF z8 else fun j=>inner (1+j)) (aa9 (inner 0) x.alpha) (aa4 x.blend.toNat) false):=by
 refine ⟨⟨hb,?_⟩,ad4 (hi 0).1 (hi 0).2 ha.1 ha.2,x.blend.toNat,by omega,rfl⟩;split
 ·exact ba9 bY5
 ·exact fun j=>hi (1+j)
theorem bV4 {b inner:Cl}{x:It}(hb:isU9 b) (hi:isU9 inner) (ha:0<=x.alpha/\x.alpha<=255) (hx:0<=x.blend/\x.blend<=11):isU9 (isoC b inner x):=PaintG.bM7 (ba8 hb hi ha hx)
theorem bp8:isU9 (fun _=>0):=fun _=>⟨xN 0,(show (0:Int)<=255 by decide)⟩
theorem bh2 {k:Nat->Nd}{kn:Prop} [Decidable kn] {cx cy:Int}{i0:Cl}(h0:isU9 i0) {n:Nat}(hk:∀ a,a<n->∀ b c,isU9 b->isU9 c->isU9 ((k a).pnt cx cy b c)):∀ m,m<=n->isU9 (itN (fun a st=>(k a).pnt cx cy (if kn then i0 else st) st) i0 m)
 | 0,_=>h0
 | m+1,h=>by
  have ih:=bh2 (kn:=kn) h0 hk m (by omega);refine hk m (by omega) _ _ ?_ ih;by_cases hkn:kn
  ·rw [lg hkn]; exact h0
  ·rw [lb hkn]; exact ih
theorem b16:∀ {d:Nat}{nd:Nd},NdOK d nd->∀ {cx cy:Int},xyOK cx cy->∀ {b c:Cl},isU9 b->isU9 c->isU9 (nd.pnt cx cy b c):=by
 intro d nd h;induction h with
 | fill h hv=>
  intro cx cy hxy b c hb hc;unfold Nd.pnt;split
  ·exact bi1 h hxy hb
  ·exact hc
 | grp hn hm ha hx hk ih=>
  intro cx cy hxy b c hb hc;unfold Nd.pnt;split
  ·split
   ·exact bV4 hb (bh2 bp8 (fun a h b c hb hc=>ih a h hxy hb hc) _ (lh _)) ha hx
   ·exact MixG.b08 ⟨⟨hb,bh2 hb (fun a h b c hb hc=>ih a h hxy hb hc) _ (lh _)⟩,ha⟩
  ·exact hc
theorem aT3 {d:Nat}{k:Nat->Nd}{kn:Bool}{n:Nat}(hk:∀ a,a<n->NdOK d (k a)) {cx cy:Int}(hxy:xyOK cx cy) {c:Cl}(hc:isU9 c) {m:Nat}(hm:m<=n):isU9 (pntK k kn cx cy c m):=bh2 hc (fun a h b c hb hc=>b16 (hk a h) hxy hb hc) m hm
end Lpn
set_option linter.unusedSimpArgs false
set_option linter.unusedVariables false
namespace Lpc
open Go.RowKit Sx Num Aff Afi Img Imh Imp Imq Rga Blend Ble Lsg Lta Lrd Lri Luc Lck Lgr Lcs Lst Lch Lcl Lgp Lsc Cmp Lpm Lpa Lpr Lbt Lpn
set_option maxRecDepth 100000
abbrev TBl:TypeId:=4
abbrev TBs:TypeId:=149
def mkR (n:Nat) (f:Nat->Bool):SO:= .row 0 n 1 (fun i _=> .bool (f i)) TBl
def mkFD:SO->Nat->Bool
 | .row _ _ _ g _=>fun i=>au7 (g i 0)
 | _=>fun _=>false
structure CcG where
 s:StG
 n:Nat
 mf:Nat->Bool
 a0:Int
 a1:Int
structure CcOK (g:CcG):Prop where
 x0 : -8192<=g.s.x0
 x1:g.s.x1<=8192
 n:(g.n:Int)=g.s.x1-g.s.x0
 l:g.s.x0<=g.a0
 h:g.a1<=g.s.x1
def CcG.at (g:CcG) (k:Int) (i:Nat):Bool:=g.mf i||decide (g.a0<=g.s.x0+i/\g.s.x0+i<g.a0+k)
def CcG.fin (g:CcG) (i:Nat):Bool:=g.mf i||decide (g.a0<=g.s.x0+i/\g.s.x0+i<g.a1)
theorem bV0 {c:Prop} [Decidable c] {b b':Bool}(h1:c->b'=true) (h2:¬ c->b=b'):SVle [] [] (bif decide c then .lit true else .bool b) (.bool b'):=by
 by_cases h:c
 ·rw [lk h];exact ⟨(h1 h).symm⟩
 ·rw [li h];exact ⟨h2 h⟩
def ccO (s:StG) (n:Nat) (f:Nat->Bool):List SO:=[.cells 1 (lst [.osl 2 0]) TBs,.cells 3 (lst (stL s)) TRp,mkR n f]
def ccI (g:CcG):Inv:=⟨Nat,fun k=>k<=(g.a1-g.a0).toNat,fun k=>⟨[(1,.int .i64 g.a1),(2,.own 0 0),(3,.own 1 0),(6,.int .i64 (g.a0+k))],ccO g.s g.n (g.at k)⟩,fun k=>(g.a1-g.a0).toNat-k⟩
def spCc:FSpec:=ac3 114 [.arg 2,.arg 3,.cell 0 0] (γ:=CcG)
 (fun | .int _ a0:: .int _ a1::_,o=>some ⟨stD (clG (o.getD 1 .dead)),aI4 (o.getD 2 .dead),mkFD (o.getD 2 .dead),a0,a1⟩ | _,_=>none)
 (fun g=>[.int .i64 g.a0,.int .i64 g.a1,.own 0 0,.own 1 0]) (fun g=>ccO g.s g.n g.mf) CcOK (fun _=> .tup 0 (lst [])) (fun g=>ccO g.s g.n g.fin)
theorem ok_cc:aa2 Tryz.prog spCc:=by
 refine smW (specs:=[]) trivial Tryz.func114 (fun g=>(⟨[(1,.inv (ccI g))],[]⟩:Ann)) true ?_;rintro ⟨s,n,mf,a0,a1⟩ hg;refine ab2 (B:=let A:=Sx.Ask;let z4:=((0:Nat)=(0:Nat));let z2:=(IntKind.i64=IntKind.i64);let q2:=fun p:Int=>A z2/\A (p=p);let z1:=(CcG.mk s n mf a0 a1);let z0:=(((True/\q2 s.y)/\q2 s.x0)/\q2 s.x1);True/\True/\(∃ g:Nat,A ((ccI z1).pre g)/\True/\((q2 a1)/\A z4/\A z4/\(A z2/\A (a0=a0+(↑g:Int)))/\True)/\(True/\True)/\z0/\(A (n=n)/\∀ i:Nat,i<n->True/\A (mf i=z1.at (↑g:Int) i))/\True)/\∀ g:Nat,let z3:=(↑g:Int); (ccI z1).pre g->True/\True/\True/\Br (decide (a0+z3<a1)) (True/\True/\True/\True/\A ((-9223372036854775808:Int)<=a0+z3-s.x0/\a0+z3-s.x0<=(9223372036854775807:Int))/\A ((0:Int)<=a0+z3-s.x0/\a0+z3-s.x0<(↑n:Int))/\A ((a0+z3-s.x0).toNat<n)/\True/\A ((-9223372036854775808:Int)<=a0+z3+(1:Int)/\a0+z3+(1:Int)<=(9223372036854775807:Int))/\True/\∃ (g':Nat),A ((ccI z1).pre g')/\True/\(((q2 a1)/\A z4/\A z4/\(A z2/\A (a0+z3+(1:Int)=a0+(↑g':Int)))/\True)/\(True/\True)/\z0/\(A (n=n)/\∀ i:Nat,i<n->True/\SVle [] [] (bif decide (i=(a0+z3-s.x0).toNat/\(0:Nat)<=(0:Nat)/\(0:Nat)<(0:Nat)+(1:Nat)) then SV.lit true else SV.bool (z1.at z3 i)) (SV.bool (z1.at (↑g':Int) i)))/\True)/\A ((ccI z1).meas g'<(ccI z1).meas g)) (True/\True/\(True/\True)/\(True/\True)/\z0/\(A (n=n)/\∀ i:Nat,i<n->True/\A (z1.at z3 i=z1.fin i))/\True)) (by kernel_rfl) ?_;simp only [cln];refine ⟨⟨0,lm _,by simp,fun i _=>by simp [CcG.at]; omega⟩,fun k hk=>⟨fun hlt=>?_,fun hge i _=>?_⟩⟩
 ·have hn:(n:Int)=s.x1-s.x0:=hg.n;have h0 : -8192<=s.x0:=hg.x0;have h1:s.x1<=8192:=hg.x1;have hl:s.x0<=a0:=hg.l;have hh:a1<=s.x1:=hg.h;have hk:k<=(a1-a0).toNat:=hk;have mm:k+1<=(a1-a0).toNat/\(a1-a0).toNat-(k+1)<(a1-a0).toNat-k:=by omega
  refine ⟨by omega,by omega,by omega,by omega,k+1,mm.1,⟨by omega,fun i hi=>bV0 (fun hc=>?_) (fun hc=>?_)⟩,mm.2⟩
  ·unfold CcG.at;simp only
   rw [lk (by omega),Bool.or_true]
  ·have hc:¬ i=(a0+k-s.x0).toNat:=fun he=>hc ⟨he,lh _,by decide⟩
   unfold CcG.at;simp only
   congr 1;exact xV.2 ⟨fun h=>by omega,fun h=>by omega⟩
 ·have hk:k<=(a1-a0).toNat:=hk;unfold CcG.at CcG.fin;simp only
  congr 1;exact xV.2 ⟨fun h=>by omega,fun h=>by omega⟩
structure RvG where
 s:StG
 nr:Nat
 f:Nat->Rn
 n:Nat
 mf:Nat->Bool
structure RvOK (g:RvG):Prop where
 vr:Vr g.nr g.f
 x0 : -8192<=g.s.x0
 x1:g.s.x1<=8192
 n:(g.n:Int)=g.s.x1-g.s.x0
def RvG.ix (g:RvG):Nat:=ixB g.f g.s g.nr 0
def RvG.at (g:RvG) (m i:Nat):Bool:=g.mf i||decide (covR g.f m (g.s.x0+i) g.s.y)
theorem rv_ix {g:RvG}(h:RvOK g):g.ix<=g.nr:=by
 have:=a06 g.f g.s g.nr 0
 unfold RvG.ix; omega
theorem b06 {g:RvG}(h:RvOK g) {i:Nat}(hi:i<g.n):g.at g.ix i=g.mf i:=by
 unfold RvG.at;rw [li,xA];rintro ⟨j,hj,h1,h2,h3⟩;have hl:Bfr (g.f j) g.s:=a05 g.f g.s g.nr 0 j (lm _) hj;rcases hl with h4 | ⟨h4,h5⟩
 ·omega
 ·omega
theorem bQ6 {g:RvG}(h:RvOK g) {k i:Nat}(hk:k<g.nr) (hy:(g.f k).y=g.s.y) (hi:i<g.n):CcG.fin ⟨g.s,g.n,g.at k,if g.s.x0>(g.f k).x0 then g.s.x0 else (g.f k).x0,if g.s.x1<(g.f k).x1 then g.s.x1 else (g.f k).x1⟩ i=g.at (k+1) i:=by
 have hn:=h.n;unfold CcG.fin RvG.at;rw [Bool.or_assoc];congr 1;simp only
 have e:((if g.s.x0>(g.f k).x0 then g.s.x0 else (g.f k).x0)<=g.s.x0+i/\g.s.x0+i<(if g.s.x1<(g.f k).x1 then g.s.x1 else (g.f k).x1))<->((g.f k).x0<=g.s.x0+i/\g.s.x0+i<(g.f k).x1):=by
  split<;>split<;>omega
 rw [<-Bool.decide_or];refine xV.2 ?_;rw [e,az3];constructor
 ·rintro (h1 | h1)
  ·exact .inl h1
  ·exact .inr ⟨hy,h1⟩
 ·rintro (h1 | h1)
  ·exact .inl h1
  ·exact .inr h1.2
theorem bt8 {g:RvG}(h:RvOK g) {k i:Nat}(hk:g.ix<=k/\k<=g.nr) (hi:i<g.n) (hx:k<g.nr->¬ ((g.f k).y=g.s.y/\(g.f k).x0<g.s.x1)):g.at k i=g.at g.nr i:=by
 have hn:=h.n;unfold RvG.at;congr 1;refine xV.2 ⟨fun ⟨j,hj,h3⟩=>⟨j,by omega,h3⟩,fun ⟨j,hj,h3,h4,h5⟩=>?_⟩;refine lC fun h2=>?_
 have hkj:k<=j:=xF.1 fun hc=>h2 ⟨j,hc,h3,h4,h5⟩
 have hkn:k<g.nr:=by omega
 have hnx:=hx hkn;have hb:¬ Bfr (g.f k) g.s:=fun hc=>by
  have:=(h.vr.mono g.s).below (j:=k) hkn hc
  have:k<g.ix:=this
  omega
 unfold Bfr at hb;by_cases e:j=k
 ·subst e;exact hnx ⟨h3,by omega⟩
 ·rcases h.vr.far j k (by omega) hj with h6 | ⟨h6,h7⟩
  ·omega
  ·have:=h.vr.lt k hkn
   exact hnx ⟨by omega,by omega⟩
def ccF:SV:= .fn 114 2 (lst [.own 0 0,.own 1 0])
def rvPre (g:RvG) (i:Nat):Prop:=(g.ix<=i/\i<=g.nr)/\∀ j,g.ix<=j->j<i->(g.f j).y=g.s.y
def rvI (g:RvG):Inv:=⟨Nat,rvPre g,fun i=>⟨[(1,rgS ⟨g.nr,g.f⟩),(2,ccF),(3,.own 3 0),(6,.int .i64 i)],ccO g.s g.n (g.at i)++[.cells 3 (lst (stL g.s)) TRp]⟩,fun i=>g.nr-i⟩
def spRv:FSpec:=ac3 62 [.part 2 0,.part 2 1,.cell 0 0] (γ:=RvG)
 (fun l o=>match l with | [_,r,_]=>some ⟨stD (clG (o.getD 1 .dead)),ai9 r,rgD r,aI4 (o.getD 2 .dead),mkFD (o.getD 2 .dead)⟩ | _=>none)
 (fun g=>[stS g.s,rgS ⟨g.nr,g.f⟩,ccF]) (fun g=>ccO g.s g.n g.mf) RvOK (fun _=> .tup 0 (lst [])) (fun g=>ccO g.s g.n (g.at g.nr))
theorem b43:aa2 Tryz.prog spRv:=by
 refine smW (specs:=[spBs,spCc]) (⟨bT7,ok_cc,trivial⟩) Tryz.func62 (fun g=>(⟨[(2,.inv (rvI g))],[]⟩:Ann)) true ?_;rintro ⟨s,nr,f,n,mf⟩ hg;refine ab2 (B:=let T5:=fun p:Prop=>True/\True/\True/\True/\True/\p;let A:=Sx.Ask;let z10:=(True/\True);let z7:=((0:Nat)=(0:Nat));let z9:=(A ((114:Go.FuncId)=(114:Go.FuncId))/\(True/\A z7)/\A z7);let z4:=(IntKind.i64=IntKind.i64);let q4:=fun p:Int=>A z4/\A (p=p);let z3:=(RvG.mk s nr f n mf);let z1:=(A (nr=nr)/\∀ i:Nat,i<nr->((True/\q4 ((f i).y))/\q4 ((f i).x0))/\q4 ((f i).x1));let z0:=(((True/\q4 s.y)/\q4 s.x0)/\q4 s.x1);True/\True/\True/\((z1/\z0/\(A ((88:Nat)=(88:Go.FuncId))/\True)/\True)/\A (BsOK (BsG.mk nr f s)))/\T5 ((∃ g:Nat,A ((rvI z3).pre g)/\True/\(z1/\z9/\A z7/\(A z4/\A ((↑(ixB f s nr (0:Nat)):Int)=(↑g:Int)))/\True)/\z10/\z0/\(A (n=n)/\∀ i:Nat,i<n->True/\A (mf i=z3.at g i))/\z0/\True)/\∀ g:Nat,let z11:=(↑g:Int);let z6:=((0:Int)<=z11/\z11<(↑nr:Int));let z5:=(A (n=n)/\∀ i:Nat,i<n->True/\A (z3.at g i=z3.at nr i));let z2:=(f z11.toNat);let z13:=(if s.x1<z2.x1 then s.x1 else z2.x1);let z12:=(if s.x0>z2.x0 then s.x0 else z2.x0);let z8:=(CcG.mk s n (z3.at g) z12 z13); (rvI z3).pre g->T5 (Br (decide (z11<(↑nr:Int))) (True/\True/\A z6/\T5 (True/\True/\Br (decide (z2.y=s.y)) (True/\True/\A z6/\T5 (True/\Br (decide (z2.x0<s.x1)) (True/\True/\True/\A z6/\T5 (True/\True/\A z6/\T5 (((True/\((A z4/\A (z12=if s.x0>z2.x0 then s.x0 else z2.x0))/\(A z4/\A (z13=if s.x1<z2.x1 then s.x1 else z2.x1))/\A z7/\A z7/\True)/\z10/\z0/\(A (n=n)/\∀ i:Nat,i<n->True/\A (z3.at g i=z3.at g i))/\True)/\A (CcOK z8))/\True/\A ((-9223372036854775808:Int)<=z11+(1:Int)/\z11+(1:Int)<=(9223372036854775807:Int))/\True/\∃ (g':Nat),A ((rvI z3).pre g')/\True/\((z1/\z9/\A z7/\(A z4/\A (z11+(1:Int)=(↑g':Int)))/\True)/\z10/\z0/\(A (n=n)/\∀ i:Nat,i<n->True/\A (z8.fin i=z3.at g' i))/\z0/\True)/\A ((rvI z3).meas g'<(rvI z3).meas g)))) (True/\True/\z10/\z10/\z0/\z5/\True))) (True/\True/\True/\z10/\z10/\z0/\z5/\True))) (T5 (z10/\z10/\z0/\z5/\True))))) (by kernel_rfl) ?_;simp only [cln];simp only [lw];have hl:nr<=4611686018427387904:=hg.vr.len;have hn:(n:Int)=s.x1-s.x0:=hg.n;refine ⟨hg.vr.mono s,⟨RvG.ix ⟨s,nr,f,n,mf⟩,⟨⟨lh _,rv_ix hg⟩,fun j h1 h2=>absurd h2 (xF.2 h1)⟩,rfl,fun i hi=>(b06 hg hi).symm⟩,fun k hk=>?_⟩;obtain ⟨⟨k1,k2⟩,k3⟩:=hk;have k2:k<=nr:=k2;refine ⟨fun hlt=>?_,fun hge=>?_⟩
 ·have hlt:k<nr:=by omega
  refine ⟨by omega,fun hy=>⟨by omega,fun hx=>?_,fun hx=>?_⟩,fun hy=>?_⟩
  ·have hp:CcOK ⟨s,n,RvG.at ⟨s,nr,f,n,mf⟩ k,if s.x0>(f k).x0 then s.x0 else (f k).x0,if s.x1<(f k).x1 then s.x1 else (f k).x1⟩:=⟨hg.x0,hg.x1,hg.n,by simp only; split<;>omega,by simp only; split<;>omega⟩
   refine ⟨by omega,by omega,hp,by omega,k+1,⟨⟨by omega,hlt⟩,fun j h1 h2=>?_⟩,⟨by simp,fun i hi=>bQ6 hg hlt hy hi⟩,(show nr-(k+1)<nr-k by omega)⟩;by_cases e:j=k
   ·subst e; exact hy
   ·exact k3 j h1 (by omega)
  ·exact fun i hi=>bt8 hg ⟨k1,k2⟩ hi (fun _ h=>hx h.2)
  ·exact fun i hi=>bt8 hg ⟨k1,k2⟩ hi (fun _ h=>hy h.1)
 ·exact fun i hi=>bt8 hg ⟨k1,k2⟩ hi (fun hc _=>hge (Int.ofNat_lt.2 hc))
def ax0:SV->Nat->SV
 | .ref _ g=>g
 | _=>fun _=> .any
structure CvG where
 s:StG
 c:Nat->SV
 nd:Nd
 n:Nat
 mf:Nat->Bool
structure CvOK (d:Nat) (g:CvG):Prop where
 c:g.c=ndX g.nd
 nd:NdOK d g.nd
 x0 : -8192<=g.s.x0
 x1:g.s.x1<=8192
 n:(g.n:Int)=g.s.x1-g.s.x0
def CvG.at (g:CvG) (m i:Nat):Bool:=g.mf i||covK g.nd.k (g.s.x0+i) g.s.y m
def CvG.fin (g:CvG) (i:Nat):Bool:=g.mf i||g.nd.cov (g.s.x0+i) g.s.y
noncomputable def cvI (g:CvG):Inv:=⟨Nat,fun i=>i<=g.nd.n,fun i=>⟨[(3,.own 1 0),(5,.own 2 0),(28,kidS g.nd.n g.nd.k),(29,.int .i64 g.nd.n),(30,.int .i64 i)],[mkR g.n (g.at i),.cells 3 (lst (stL g.s)) TRp,.cells 1 (lst [.osl 0 0]) TBs]⟩,fun i=>g.nd.n-i⟩
noncomputable def spCv (d:Nat):FSpec:=ac3 90 [.arg 2] (γ:=CvG)
 (fun l o=>match l with | [.agg _ s,.ifc _ h,_]=>some ⟨stD s,ax0 (h 0),ndOf (ax0 (h 0)),aI4 (o.getD 0 .dead),mkFD (o.getD 0 .dead)⟩ | _=>none)
 (fun g=>[stS g.s,.ifc (ndT g.nd) (fun _=> .ref 37 g.c),.osl 0 0]) (fun g=>[mkR g.n g.mf]) (CvOK d) (fun _=> .tup 0 (lst [])) (fun g=>[mkR g.n g.fin])
theorem b36:∀ d,aa2 Tryz.prog (spCv d):=by
 intro d;induction d with
 | zero=>
  refine smW (specs:=[spRv]) (⟨b43,trivial⟩) Tryz.func90 (fun g=>A0) true ?_;rintro ⟨s,c,nd,n,mf⟩ hg;have hc:c=ndX nd:=hg.c;cases hg.nd with
  | fill h hv=>
   rename_i t x;rw [aF8] at hc;subst hc;refine ab2 (B:=let A:=Sx.Ask;let z0:=(IntKind.i64=IntKind.i64);let q0:=fun p:Int=>A z0/\A (p=p);let z1:=(((True/\q0 s.y)/\q0 s.x0)/\q0 s.x1);True/\True/\True/\True/\True/\True/\True/\True/\True/\True/\True/\True/\True/\True/\((True/\(z1/\(A (x.nr=x.nr)/\∀ i:Nat,i<x.nr->((True/\q0 ((x.runs i).y))/\q0 ((x.runs i).x0))/\q0 ((x.runs i).x1))/\(A ((114:Nat)=(114:Go.FuncId))/\(True/\A ((0:Nat)=(0:Nat)))/\A ((0:Nat)=(0:Nat)))/\True)/\(True/\True)/\z1/\(A (n=n)/\∀ i:Nat,i<n->True/\A (mf i=mf i))/\True)/\A (RvOK (RvG.mk s x.nr x.runs n mf)))/\True/\True/\(True/\True)/\(A (n=n)/\∀ i:Nat,i<n->True/\A ((RvG.mk s x.nr x.runs n mf).at x.nr i=(CvG.mk s (fcS t x (srcX x.src)) (Nd.fill t x) n mf).fin i))/\True) (by kernel_rfl) ?_;simp only [cln];exact ⟨⟨hv,hg.x0,hg.x1,hg.n⟩,fun i _=>rfl⟩
 | succ d ih=>
  refine smW (specs:=[spRv,spCv d]) (⟨b43,ih,trivial⟩) Tryz.func90 (fun g=>(⟨[(8,.inv (cvI g))],[]⟩:Ann)) true ?_;rintro ⟨s,c,nd,n,mf⟩ hg;have hc:c=ndX nd:=hg.c;cases hg.nd with
  | fill h hv=>
   rename_i t x;rw [aF8] at hc;subst hc;refine ab2 (B:=let A:=Sx.Ask;let z0:=(IntKind.i64=IntKind.i64);let q0:=fun p:Int=>A z0/\A (p=p);let z1:=(((True/\q0 s.y)/\q0 s.x0)/\q0 s.x1);True/\True/\True/\True/\True/\True/\True/\True/\True/\True/\True/\True/\True/\True/\((True/\(z1/\(A (x.nr=x.nr)/\∀ i:Nat,i<x.nr->((True/\q0 ((x.runs i).y))/\q0 ((x.runs i).x0))/\q0 ((x.runs i).x1))/\(A ((114:Nat)=(114:Go.FuncId))/\(True/\A ((0:Nat)=(0:Nat)))/\A ((0:Nat)=(0:Nat)))/\True)/\(True/\True)/\z1/\(A (n=n)/\∀ i:Nat,i<n->True/\A (mf i=mf i))/\True)/\A (RvOK (RvG.mk s x.nr x.runs n mf)))/\True/\True/\(True/\True)/\(A (n=n)/\∀ i:Nat,i<n->True/\A ((RvG.mk s x.nr x.runs n mf).at x.nr i=(CvG.mk s (fcS t x (srcX x.src)) (Nd.fill t x) n mf).fin i))/\True) (by kernel_rfl) ?_;simp only [cln];exact ⟨⟨hv,hg.x0,hg.x1,hg.n⟩,fun i _=>rfl⟩
  | grp hn hm ha hb hk=>
   rename_i t mx x m k;rw [aj2] at hc;subst hc;refine ab2 (B:=let V:=fun p:SV=>SVle [] [] p p;let K:=IntKind.i64;let A:=Sx.Ask;let z5:=(0:Nat);let z4:=(K=K);let q4:=fun p:Int=>A z4/\A (p=p);let z3:=(((True/\q4 s.y)/\q4 s.x0)/\q4 s.x1);let z0:=(Nd.grp t mx x m k);let z7:=(↑z0.n:Int);let z1:=(CvG.mk s (lst (itL x++[SV.int K t,mxS x mx,SV.sl m (1:Nat) fun (a x:Nat)=>SV.ifc (ndT (k a)) fun (x:Nat)=>SV.ref (37:Nat) (ndX (k a))])) z0 n mf);True/\True/\True/\True/\True/\True/\True/\True/\True/\True/\True/\True/\True/\True/\True/\True/\(∃ g:Nat,A ((cvI z1).pre g)/\True/\(A (z5=z5)/\A (z5=z5)/\(A (m=z0.n)/\∀ i:Nat,i<z0.n->True/\A (ndT (k i)=ndT (z0.k i))/\((((((((((((((((((((((((((((((((((((True/\SVle [] [] (ndX (k i) z5) (ndX (z0.k i) z5))/\SVle [] [] (ndX (k i) (1:Nat)) (ndX (z0.k i) (1:Nat)))/\SVle [] [] (ndX (k i) (2:Nat)) (ndX (z0.k i) (2:Nat)))/\SVle [] [] (ndX (k i) (3:Nat)) (ndX (z0.k i) (3:Nat)))/\SVle [] [] (ndX (k i) (4:Nat)) (ndX (z0.k i) (4:Nat)))/\SVle [] [] (ndX (k i) (5:Nat)) (ndX (z0.k i) (5:Nat)))/\SVle [] [] (ndX (k i) (6:Nat)) (ndX (z0.k i) (6:Nat)))/\SVle [] [] (ndX (k i) (7:Nat)) (ndX (z0.k i) (7:Nat)))/\SVle [] [] (ndX (k i) (8:Nat)) (ndX (z0.k i) (8:Nat)))/\SVle [] [] (ndX (k i) (9:Nat)) (ndX (z0.k i) (9:Nat)))/\SVle [] [] (ndX (k i) (10:Nat)) (ndX (z0.k i) (10:Nat)))/\SVle [] [] (ndX (k i) (11:Nat)) (ndX (z0.k i) (11:Nat)))/\SVle [] [] (ndX (k i) (12:Nat)) (ndX (z0.k i) (12:Nat)))/\SVle [] [] (ndX (k i) (13:Nat)) (ndX (z0.k i) (13:Nat)))/\SVle [] [] (ndX (k i) (14:Nat)) (ndX (z0.k i) (14:Nat)))/\SVle [] [] (ndX (k i) (15:Nat)) (ndX (z0.k i) (15:Nat)))/\SVle [] [] (ndX (k i) (16:Nat)) (ndX (z0.k i) (16:Nat)))/\SVle [] [] (ndX (k i) (17:Nat)) (ndX (z0.k i) (17:Nat)))/\SVle [] [] (ndX (k i) (18:Nat)) (ndX (z0.k i) (18:Nat)))/\SVle [] [] (ndX (k i) (19:Nat)) (ndX (z0.k i) (19:Nat)))/\SVle [] [] (ndX (k i) (20:Nat)) (ndX (z0.k i) (20:Nat)))/\SVle [] [] (ndX (k i) (21:Nat)) (ndX (z0.k i) (21:Nat)))/\SVle [] [] (ndX (k i) (22:Nat)) (ndX (z0.k i) (22:Nat)))/\SVle [] [] (ndX (k i) (23:Nat)) (ndX (z0.k i) (23:Nat)))/\SVle [] [] (ndX (k i) (24:Nat)) (ndX (z0.k i) (24:Nat)))/\SVle [] [] (ndX (k i) (25:Nat)) (ndX (z0.k i) (25:Nat)))/\SVle [] [] (ndX (k i) (26:Nat)) (ndX (z0.k i) (26:Nat)))/\SVle [] [] (ndX (k i) (27:Nat)) (ndX (z0.k i) (27:Nat)))/\SVle [] [] (ndX (k i) (28:Nat)) (ndX (z0.k i) (28:Nat)))/\SVle [] [] (ndX (k i) (29:Nat)) (ndX (z0.k i) (29:Nat)))/\SVle [] [] (ndX (k i) (30:Nat)) (ndX (z0.k i) (30:Nat)))/\SVle [] [] (ndX (k i) (31:Nat)) (ndX (z0.k i) (31:Nat)))/\SVle [] [] (ndX (k i) (32:Nat)) (ndX (z0.k i) (32:Nat)))/\SVle [] [] (ndX (k i) (33:Nat)) (ndX (z0.k i) (33:Nat)))/\SVle [] [] (ndX (k i) (34:Nat)) (ndX (z0.k i) (34:Nat)))/\SVle [] [] (ndX (k i) (35:Nat)) (ndX (z0.k i) (35:Nat)))/\SVle [] [] (ndX (k i) (36:Nat)) (ndX (z0.k i) (36:Nat)))/\(A z4/\A ((↑m:Int)=z7))/\(A z4/\A ((0:Int)=(↑g:Int)))/\True)/\(A (n=n)/\∀ i:Nat,i<n->True/\A (mf i=z1.at g i))/\z3/\(True/\True)/\True)/\∀ g:Nat,let z8:=(↑g:Int);let z2:=(z0.k z8.toNat);let z6:=(CvG.mk s (ndX z2) (ndOf (ndX z2)) n (z1.at g)); (cvI z1).pre g->True/\Br (decide (z8<z7)) (A ((0:Int)<=z8/\z8<z7)/\True/\True/\True/\True/\True/\((True/\(z3/\(A (ndT z2=ndT (ndOf (ndX z2)))/\((((((((((((((((((((((((((((((((((((True/\V (ndX z2 0))/\V (ndX z2 (1:Nat)))/\V (ndX z2 (2:Nat)))/\V (ndX z2 (3:Nat)))/\V (ndX z2 (4:Nat)))/\V (ndX z2 (5:Nat)))/\V (ndX z2 (6:Nat)))/\V (ndX z2 (7:Nat)))/\V (ndX z2 (8:Nat)))/\V (ndX z2 (9:Nat)))/\V (ndX z2 (10:Nat)))/\V (ndX z2 (11:Nat)))/\V (ndX z2 (12:Nat)))/\V (ndX z2 (13:Nat)))/\V (ndX z2 (14:Nat)))/\V (ndX z2 (15:Nat)))/\V (ndX z2 (16:Nat)))/\V (ndX z2 (17:Nat)))/\V (ndX z2 (18:Nat)))/\V (ndX z2 (19:Nat)))/\V (ndX z2 (20:Nat)))/\V (ndX z2 (21:Nat)))/\V (ndX z2 (22:Nat)))/\V (ndX z2 (23:Nat)))/\V (ndX z2 (24:Nat)))/\V (ndX z2 (25:Nat)))/\V (ndX z2 (26:Nat)))/\V (ndX z2 (27:Nat)))/\V (ndX z2 (28:Nat)))/\V (ndX z2 (29:Nat)))/\V (ndX z2 (30:Nat)))/\V (ndX z2 (31:Nat)))/\V (ndX z2 (32:Nat)))/\V (ndX z2 (33:Nat)))/\V (ndX z2 (34:Nat)))/\V (ndX z2 (35:Nat)))/\V (ndX z2 (36:Nat)))/\True/\True)/\(A (n=n)/\∀ i:Nat,i<n->True/\A (z1.at g i=z1.at g i))/\True)/\A (CvOK d z6))/\A ((-9223372036854775808:Int)<=z8+(1:Int)/\z8+(1:Int)<=(9223372036854775807:Int))/\True/\∃ (g':Nat),A ((cvI z1).pre g')/\True/\((A (z5=z5)/\A (z5=z5)/\(A (z0.n=z0.n)/\∀ i:Nat,i<z0.n->True/\A (ndT (z0.k i)=ndT (z0.k i))/\((((((((((((((((((((((((((((((((((((True/\V (ndX (z0.k i) 0))/\V (ndX (z0.k i) (1:Nat)))/\V (ndX (z0.k i) (2:Nat)))/\V (ndX (z0.k i) (3:Nat)))/\V (ndX (z0.k i) (4:Nat)))/\V (ndX (z0.k i) (5:Nat)))/\V (ndX (z0.k i) (6:Nat)))/\V (ndX (z0.k i) (7:Nat)))/\V (ndX (z0.k i) (8:Nat)))/\V (ndX (z0.k i) (9:Nat)))/\V (ndX (z0.k i) (10:Nat)))/\V (ndX (z0.k i) (11:Nat)))/\V (ndX (z0.k i) (12:Nat)))/\V (ndX (z0.k i) (13:Nat)))/\V (ndX (z0.k i) (14:Nat)))/\V (ndX (z0.k i) (15:Nat)))/\V (ndX (z0.k i) (16:Nat)))/\V (ndX (z0.k i) (17:Nat)))/\V (ndX (z0.k i) (18:Nat)))/\V (ndX (z0.k i) (19:Nat)))/\V (ndX (z0.k i) (20:Nat)))/\V (ndX (z0.k i) (21:Nat)))/\V (ndX (z0.k i) (22:Nat)))/\V (ndX (z0.k i) (23:Nat)))/\V (ndX (z0.k i) (24:Nat)))/\V (ndX (z0.k i) (25:Nat)))/\V (ndX (z0.k i) (26:Nat)))/\V (ndX (z0.k i) (27:Nat)))/\V (ndX (z0.k i) (28:Nat)))/\V (ndX (z0.k i) (29:Nat)))/\V (ndX (z0.k i) (30:Nat)))/\V (ndX (z0.k i) (31:Nat)))/\V (ndX (z0.k i) (32:Nat)))/\V (ndX (z0.k i) (33:Nat)))/\V (ndX (z0.k i) (34:Nat)))/\V (ndX (z0.k i) (35:Nat)))/\V (ndX (z0.k i) (36:Nat)))/\(q4 z7)/\(A z4/\A (z8+(1:Int)=(↑g':Int)))/\True)/\(A (n=n)/\∀ i:Nat,i<n->True/\A (z6.fin i=z1.at g' i))/\z3/\(True/\True)/\True)/\A ((cvI z1).meas g'<(cvI z1).meas g)) (True/\True/\(True/\True)/\(A (n=n)/\∀ i:Nat,i<n->True/\A (z1.at g i=z1.fin i))/\True)) (by kernel_rfl) ?_;simp only [cln];have hs:∀ nd j,SVle [] [] (ndX nd j) (ndX nd j)=True:=fun nd j=>uF (SVle.refl [] [] (an3 nd j))
   simp only [Nd.n,Nd.k,aq2,hs,lw,ud,xC,xD,xp];refine ⟨⟨0,lm _,rfl,fun i _=>by simp [CvG.at,covK]⟩,fun q hq=>?_⟩;have hq:q<=m:=hq;refine ⟨fun hlt=>⟨by omega,⟨rfl,hk q (by omega),hg.x0,hg.x1,hg.n⟩,by omega,q+1,(show q+1<=m by omega),⟨by simp,fun i _=>?_⟩,(show m-(q+1)<m-q by omega)⟩,fun hge i _=>?_⟩
   ·show ((mf i||covK k (s.x0+i) s.y q)||(k q).cov (s.x0+i) s.y)=(mf i||covK k (s.x0+i) s.y (q+1));rw [bB0,Bool.or_assoc]
   ·have:q=m:=by omega
    subst this;rfl
end Lpc
namespace Sx
open Go.RowKit
def b69:SV->Prop
 | .int ..=>True
 | .bool _=>True
 | .lit _=>True
 | .str _=>True
 | _=>False
theorem bI0 {w w' X X' E E' sv v} (hf:b69 sv) (h:R w X E sv v):R w' X' E' sv v:=by
 cases h<;>first | exact hf.elim | constructor
def bb2:SO->Prop
 | .row _ len n g _=>∀ i j,i<len->j<n->b69 (g i j)
 | _=>False
theorem Rep.hide {X:Nat->Prop}{w w':World}{row:SO}{E:Env}(h:Rep w (Fr.of fun _=>False) [row] E w') (hx:∀ b,X b->b<w.heap.size) (hf:bb2 row):Rep w (Fr.of X) [row] E w':=by
 refine ⟨h.below,fun b hb=>⟨hx b hb,id⟩,h.nm,h.dom,fun k e he=>?_,h.low,h.inj⟩;have hk:k=0:=by have:=h.dom k e he; simpa using this
 subst hk;have hok:=h.ok 0 e he;have hrow:[row].getD 0 SO.dead=row:=rfl;rw [hrow] at hok ⊢;cases row<;>simp only [bb2] at hf
 rename_i ver len n g T;cases e with
 | blk b=>exact hok
 | slc ver' v us=>
  obtain ⟨h1,xs,h2,h3⟩:=hok;exact ⟨h1,xs,h2,fun i j hi hj=>⟨(h3 i j hi hj).1,bI0 (hf i j hi hj) (h3 i j hi hj).2⟩⟩
def bH4 (f:FuncId) {γ:Type}(dec:List SV->Option γ) (args:γ->List SV) (pre:γ->Prop) (row:γ->SO):FSpec:=
 { f:=f,eff:=false,run:=fun l H nm=>match as4 H l with
   | some l'=>match dec l' with
     | some g=>some ⟨aa3.leArgs l' (args g)/\Ask (pre g),big [.dead] [nm] (.osl 0 0),.new (bigO [.dead] [nm] 0 (row g))⟩
     | none=>none
   | none=>none }
theorem aX7 {P:Program}{specs:List FSpec}(hspecs:∀ s∈specs,aa2 P s) {eqs:List (TypeId×List CK)}(heqs:∀ t n,(t,n)∈eqs->EqOK P t n) (hm:P.follows .mixedOrders=true)
  {f:FuncId}{fn:Func}{body:Code}(hf:P.funcs[f]?=some fn) (hb:fn.body=some body) (_:bp2 (effS specs) body=true) (hent:∀ args w,(callFunc f args).run P w = .ok (.enter f args) w)
  {γ:Type}{dec:List SV->Option γ}{args:γ->List SV}{pre:γ->Prop}{row:γ->SO}(A:γ->Ann) (k:γ->Nat) (hlen:∀ g,(args g).length<=fn.ntmps) (hflat:∀ g,bb2 (row g))
  (h:∀ g,pre g->vc P specs eqs fn.ntmps 0 false (A g) body (retN P fn (k g) (.osl 0 0) (row g)) ⟨ar3 0 (args g),[]⟩):aa2 P (bH4 f dec args pre row):=by
 refine ⟨hent,fun l H HF nm y he _ hrun=>?_,fun l H nm y hrun hp w0 X0 E w hrep hfree vals ha=>?_⟩
 ·simp only [bH4] at hrun ⊢;split at hrun
  case h_2=>cases hrun
  rename_i l' hl';rw [av2 he hl'];exact hrun
 simp only [bH4] at hrun;split at hrun
 case h_2=>cases hrun
 rename_i l' hl';split at hrun
 case h_2=>cases hrun
 rename_i g hdec;cases hrun;obtain ⟨hle,⟨hpre⟩⟩:=hp;obtain ⟨hll,hle⟩:=an9 hle;obtain ⟨p1,p2⟩:=aq1 hrep hl';have hr:∀ i,i<l'.length->R w (fun _=>False) E0 (l'.getD i .any) (vals.getD i undef):=fun i hi=>p2 i _ (by omega) (ha.2 i (by omega))
 have hsz:=ha.1;have hxo:Xo (Fr.of fun _=>False) E0 []=fun _=>False:=by
  funext b;apply propext;exact ⟨fun hb=>hb.elim id (fun ⟨k,e,he,_⟩=>(nomatch he)),fun hb=>hb.elim⟩
 have hT:=ao8 fn.ntmps vals (args g) w (fun _=>False) E0 (by omega) (hlen g) (fun i hi=>bl6 (fun _ hb=>hb) (hle i hi) (hr i (by omega)));refine aq8 (w0:=w) (X0:=Fr.of fun _=>False) (G:=bq1 P fn (k g) (.osl 0 0) (row g)) hf hb (bd5 (w0:=w) (X0:=Fr.of fun _=>False) hspecs heqs hm body (.inl rfl) (fun _=>rfl) (fun k hk=>absurd rfl hk) _ _ _ _ (h g hpre) (fun e s a w' hk hs=>?walk) _ w ?start) (fun s a w' hk _ hs=>?fin)
 case walk=>
  cases e with
  | normal=>exact ⟨s,hk,hs⟩
  | ret=>exact ⟨s,hk,hs⟩
  | exit id=>exact hk.elim
 case fin=>
   obtain ⟨E1,hrep1,htr⟩:=hs;unfold bq1 at hk;split at hk
   case h_2=>exact hk.elim
   rename_i p l hres;obtain ⟨hp,hk⟩:=hk;obtain ⟨v,hv1,hv2⟩:=al0 rfl hrep1 htr hres hp;split at hk
   case h_2=>exact hk.elim
   rename_i hal;have hal':(aa5 s.H [k g]).all ar2=true:=by simp only [aa5,uf,List.map_nil,List.all_cons,hal,List.all_nil,Bool.and_self]
   obtain ⟨p1,p2⟩:=hrep1.pick (ks:=[k g]) rfl hal';obtain ⟨p3,p4⟩:=p1.le (m:=0) hk.2 (fun k hk=>absurd rfl hk) (by simp [NmLe,Nat.ble_eq_true_of_le (lm _)]);have hsv:=ai0 p4 (fun k ver v us he ver' hr=>az9 (p1.ok k _ he) hr) (ar6 hk.1 0) (bd2 p2 (hrep1.aX1 hal') hv2);have p5:=p3.hide (X:=Xo X0 E H) (fun b hb=>hrep.xlt b hb) (hflat g);refine ⟨v,hv1,v,rfl,Goes.b45 hrep hfree p5 ?_⟩;cases hsv with
   | osl he hv=>exact .osl he hv
   | oslOld he hl hv=>exact .oslOld he hl hv
 case start=>
  refine ⟨E0,⟨Bel.refl _ _,fun b hb=>hb.elim,fun k e he=>(nomatch he),fun k e he=>(nomatch he),fun k e he=>(nomatch he),fun k e b he=>(nomatch he),fun k k' e e' b he=>(nomatch he)⟩,hT.1,aA0.nil _ _ _,fun t ht=>?_⟩;rw [hxo];exact hT.2 t ht
theorem aC6 {os:List SO}{ps:List NP}{a:Prop}(h:a) (h2:aQ0 os ps):al6 os ps a:=by
 unfold al6;split
 ·exact ⟨h,h2⟩
 ·exact h
theorem bk5 {P:Program}{f:FuncId}{paths:List NP}{γ:Type}{dec:List SV->List SO->Option γ}{args:γ->List SV}{objs:γ->List SO}{pre pre1 pre2:γ->Prop}{res:γ->SV}{post:γ->List SO}
  (h1:aa2 P (ac3 f paths dec args objs pre1 res post)) (h2:aa2 P (ac3 f paths dec args objs pre2 res post)) (hc:∀ g,pre g->pre1 g\/pre2 g):aa2 P (ac3 f paths dec args objs pre res post):=by
 refine ⟨h1.1,fun l H HF nm y he hns hrun=>?_,fun l H nm y hrun hask w0 X0 E w hrep hf vals ha=>?_⟩
 ·simp only [ac3] at hrun;split at hrun
  case h_2=>cases hrun
  split at hrun
  case h_2=>cases hrun
  split at hrun
  case h_2=>cases hrun
  cases hrun;exact absurd rfl (hns _)
 ·simp only [ac3] at hrun;split at hrun
  case h_2=>cases hrun
  rename_i ks hks;split at hrun
  case h_2=>cases hrun
  rename_i hn;split at hrun
  case h_2=>cases hrun
  rename_i g hdec;cases hrun;obtain ⟨⟨hle,⟨hpre⟩⟩,hholes⟩:=ap6 hask;rcases hc g hpre with hp | hp
  ·exact h1.2.2 l H nm ⟨al6 (aa5 H ks) paths (bB9 (l.map (sml (aa5 H ks) ks)) ((aa5 H ks).map (smlO (aa5 H ks) ks)) (args g) (objs g)/\Ask (pre1 g)),_,_⟩ (by simp only [ac3,hks,hn,hdec]) (aC6 ⟨hle,⟨hp⟩⟩ hholes) w0 X0 E w hrep hf vals ha
  ·exact h2.2.2 l H nm ⟨al6 (aa5 H ks) paths (bB9 (l.map (sml (aa5 H ks) ks)) ((aa5 H ks).map (smlO (aa5 H ks) ks)) (args g) (objs g)/\Ask (pre2 g)),_,_⟩ (by simp only [ac3,hks,hn,hdec]) (aC6 ⟨hle,⟨hp⟩⟩ hholes) w0 X0 E w hrep hf vals ha
end Sx
set_option linter.unusedSimpArgs false
set_option linter.unusedVariables false
namespace Lpd
open Go.RowKit Sx Num Aff Afi Img Imh Imp Imq Rga Blend Ble Lsg Lta Lrd Lri Luc Lck Lgr Lcs Lst Lch Lcl Lgp Lsc Cmp Lpm Lpa Lpr Lbt Lpn Lpc
set_option maxRecDepth 100000
structure SsG where
 n:Nat
 f:Nat->Cl
def ssS (g:SsG):SV:= .sl g.n 9 (fun i j=> .int .u8 (g.f i j))
def ssD:SV->SsG
 | .sl n _ f=>⟨n,fun i j=>Sx.intOf (f i j)⟩
 | _=>⟨0,fun _ _=>0⟩
def b02:FSpec:=bH4 61 (γ:=SsG) (fun | [s]=>some (ssD s) | _=>none) (fun g=>[ssS g]) (fun g=>0<g.n/\g.n<=4294967296) (fun g=>stR g.n g.f)
theorem b38:aa2 Tryz.prog b02:=by
 refine aX7 (specs:=[]) (az5 trivial) (eqs:=[]) (fun _ _ h=>(lJ h).elim) Aff.mixed Tryz.func61 rfl (by kernel_rfl) (fun _ _=>by kernel_rfl) (fun g=>(⟨[],[(1,[.nilc 0])]⟩:Ann)) (fun g=>0) (fun g=>lH (by kernel_rfl)) (fun _ _ _ _ _=>trivial) ?_;rintro ⟨n,f⟩ ⟨h0,hn⟩;simp only at h0 hn
 refine ab2 (B:=let A:=Sx.Ask;let z0:=(IntKind.u8=IntKind.u8);True/\(n=(0:Nat)->True/\True/\True/\True/\False)/\True/\True/\True/\True/\A ((0:Nat)+n<=(9223372036854775807:Nat)/\((0:Nat)+n)*(9:Nat)<=(140737488355328:Nat))/\True/\True/\(True/\True)/\(A ((0:Nat)+n=n)/\∀ i:Nat,let z1:=(i-(0:Nat)); i<n->((((((((True/\A z0/\A (f z1 (0:Nat)=f i (0:Nat)))/\A z0/\A (f z1 (1:Nat)=f i (1:Nat)))/\A z0/\A (f z1 (2:Nat)=f i (2:Nat)))/\A z0/\A (f z1 (3:Nat)=f i (3:Nat)))/\A z0/\A (f z1 (4:Nat)=f i (4:Nat)))/\A z0/\A (f z1 (5:Nat)=f i (5:Nat)))/\A z0/\A (f z1 (6:Nat)=f i (6:Nat)))/\A z0/\A (f z1 (7:Nat)=f i (7:Nat)))/\A z0/\A (f z1 (8:Nat)=f i (8:Nat)))/\True) (by kernel_rfl) ?_;simp only [cln];exact ⟨fun h=>by omega,⟨by omega,by omega⟩,fun i _=>all9 fun j=>rfl⟩
structure BxG where
 n:Nat
 mf:Nat->Bool
def bxS (g:BxG):SV:= .sl g.n 1 (fun i _=> .bool (g.mf i))
def bxD:SV->BxG
 | .sl n _ f=>⟨n,fun i=>au7 (f i 0)⟩
 | _=>⟨0,fun _=>false⟩
def bX (mf:Nat->Bool):Nat->Nat->Int
 | 0,_=> -1
 | m+1,k=>if mf k=true then (k:Int) else bX mf m (k+1)
theorem bX3 {mf} {n i:Nat}(h:i<n):bX mf (n-i) i=if mf i=true then (i:Int) else bX mf (n-(i+1)) (i+1):=by
 rw [show n-i=(n-(i+1))+1 by omega]; rfl
theorem bP0 {mf}:∀ m k,0<=bX mf m k<->∃ i,k<=i/\i<k+m/\mf i=true
 | 0,k=>by simp only [bX]; exact ⟨fun h=>absurd h (by decide),fun ⟨i,h1,h2,_⟩=>by omega⟩
 | m+1,k=>by
  unfold bX;split
  ·rename_i h;exact ⟨fun _=>⟨k,lh _,by omega,h⟩,fun _=>by omega⟩
  ·rename_i h;rw [bP0 m (k+1)];exact ⟨fun ⟨i,h1,h2,h3⟩=>⟨i,by omega,by omega,h3⟩,fun ⟨i,h1,h2,h3⟩=>⟨i,by (have:i≠k:=fun e=>h (e▸h3)); omega,by omega,h3⟩⟩
def bxI (g:BxG):Inv:=⟨Nat,fun i=>i<=g.n/\bX g.mf g.n 0=bX g.mf (g.n-i) i,fun i=>⟨[(0,bxS g),(1,.bool true),(7,.int .i64 g.n),(8,.int .i64 i)],[]⟩,fun i=>g.n-i⟩
def bL4:FSpec:=aa3 115 (γ:=BxG) (fun | [m,_]=>some (bxD m) | _=>none) (fun g=>[bxS g,.bool true]) (fun g=>g.n<=4294967296) (fun g=> .int .i64 (bX g.mf g.n 0))
theorem bT0:aa2 Tryz.prog bL4:=by
 refine ssW (specs:=[]) trivial Tryz.func115 (fun g=>(⟨[(2,.inv (bxI g))],[]⟩:Ann)) ?_;rintro g hg;refine ab2 (B:=let A:=Sx.Ask;let z1:=(A (g.n=g.n)/\∀ i:Nat,i<g.n->True/\A (g.mf i=g.mf i));let z0:=(IntKind.i64=IntKind.i64);let z3:=(A z0/\A ((↑g.n:Int)=(↑g.n:Int)));True/\True/\True/\True/\(∃ g_1:Nat,A ((bxI g).pre g_1)/\(z1/\A (true=true)/\z3/\(A z0/\A ((0:Int)=(↑g_1:Int)))/\True)/\True)/\∀ g_1:Nat,let z2:=(↑g_1:Int); (bxI g).pre g_1->True/\Br (decide (z2<(↑g.n:Int))) (True/\True/\True/\True/\True/\A ((0:Int)<=z2/\z2<(↑g.n:Int))/\True/\True/\Br (true==g.mf z2.toNat) (True/\True/\True/\A z0/\A (z2=bX g.mf g.n (0:Nat))) (A ((-9223372036854775808:Int)<=z2+(1:Int)/\z2+(1:Int)<=(9223372036854775807:Int))/\True/\∃ (g':Nat),A ((bxI g).pre g')/\((z1/\A (true=true)/\z3/\(A z0/\A (z2+(1:Int)=(↑g':Int)))/\True)/\True)/\A ((bxI g).meas g'<(bxI g).meas g_1))) (True/\True/\A z0/\A ((-1:Int)=bX g.mf g.n (0:Nat)))) (by kernel_rfl) ?_;simp only [cln];simp only [lw];refine ⟨⟨0,⟨lm _,rfl⟩,rfl⟩,fun q hq=>?_⟩;obtain ⟨q1,q2⟩:q<=g.n/\bX g.mf g.n 0=bX g.mf (g.n-q) q:=hq;refine ⟨fun hlt=>?_,fun hge=>?_⟩
 ·have hlt:q<g.n:=by omega
  rw [bX3 hlt] at q2;cases hm:g.mf q
  ·rw [hm,lb xW] at q2;exact ⟨by omega,fun h=>absurd h (by decide),fun _=>⟨by omega,q+1,⟨hlt,q2⟩,by simp,(show g.n-(q+1)<g.n-q by omega)⟩⟩
  ·rw [hm,lg rfl] at q2;exact ⟨by omega,fun _=>q2.symm,fun h=>absurd h (by decide)⟩
 ·have:q=g.n:=by omega
  rw [this,xB] at q2;exact q2.symm
def bt0:FSpec:=aa3 91 (γ:=BxG) (fun | [m,_]=>some (bxD m) | _=>none) (fun g=>[bxS g,.bool true]) (fun g=>g.n<=4294967296) (fun g=> .bool (decide (0<=bX g.mf g.n 0)))
theorem bw1:aa2 Tryz.prog bt0:=by
 refine ssW (specs:=[bL4]) (⟨bT0,trivial⟩) Tryz.func91 (fun g=>A0) ?_;rintro g hg;refine ab2 (B:=let A:=Sx.Ask;True/\True/\True/\(((A (g.n=g.n)/\∀ i:Nat,i<g.n->True/\A (g.mf i=g.mf i))/\A (true=true)/\True)/\A (g.n<=(4294967296:Nat)))/\True/\True/\True/\A (decide ((0:Int)<=bX g.mf g.n (0:Nat))=decide ((0:Int)<=bX g.mf g.n (0:Nat)))) (by kernel_rfl) ?_;simp only [cln];exact hg
end Lpd
end Go.Proofs.YthappngbapbkfaaGreat
