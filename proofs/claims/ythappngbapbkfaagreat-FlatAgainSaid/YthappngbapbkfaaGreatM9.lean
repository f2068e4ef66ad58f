/- Part 9 of the texts that the law's proof leans on. -/
import Derived.Test.YthappngbapbkfaaGreatM8
namespace Go.Proofs.YthappngbapbkfaaGreat
set_option linter.unusedSimpArgs false
set_option linter.unusedVariables false
namespace Lpe
open Go.RowKit Sx Num Aff Afi Img Imh Imp Imq Rga Blend Ble Lsg Lta Lrd Lri Luc Lck Lgr Lcs Lst Lch Lcl Lgp Lsc Cmp Lpm Lpa Lpr Lbt Lpn Lpc Lpd
set_option maxRecDepth 100000
structure PnG where
 s:StG
 c:Nat->SV
 nd:Nd
 ns:Nat
 st:Nat->Cl
 bs:Nat->Cl
structure BdOK (g:PnG):Prop where
 y : -8192<=g.s.y/\g.s.y<8192
 x0 : -8192<=g.s.x0
 x1:g.s.x1<=8192
 n:(g.ns:Int)=g.s.x1-g.s.x0
 pos:0<g.ns
 st:∀ i,i<g.ns->isU9 (g.st i)
 bs:∀ i,i<g.ns->isU9 (g.bs i)
structure PtOK (d:Nat) (g:PnG):Prop where
 c:g.c=ndX g.nd
 isg:ndT g.nd=TPg
 n:g.nd.n<=4294967296
 k:∀ a,a<g.nd.n->NdOK d (g.nd.k a)
 b:BdOK g
structure NsOK (d:Nat) (g:PnG):Prop where
 c:g.c=ndX g.nd
 isg:ndT g.nd=TPg
 k:NdOK d g.nd
 b:BdOK g
def PnG.pt (g:PnG) (m i:Nat):Cl:=pntK g.nd.k g.nd.x.knock (g.s.x0+i) g.s.y (g.st i) m
def PnG.nx (g:PnG) (i:Nat):Cl:=g.nd.pnt (g.s.x0+i) g.s.y (g.bs i) (g.st i)
noncomputable def spPt (d:Nat):FSpec:=ac3 41 [.arg 2] (γ:=PnG)
 (fun l o=>match l with | [.agg _ s,r,_]=>some ⟨stD s,ax0 r,ndOf (ax0 r),aI4 (o.getD 0 .dead),stFD (o.getD 0 .dead),stFD (o.getD 0 .dead)⟩ | _=>none)
 (fun g=>[stS g.s,.ref 37 g.c,.osl 0 0]) (fun g=>[stR g.ns g.st]) (PtOK d) (fun _=> .tup 0 (lst [])) (fun g=>[stR g.ns (g.pt g.nd.n)])
noncomputable def spNa (d:Nat):FSpec:=ac3 66 [.arg 3] (γ:=PnG)
 (fun l o=>match l with | [.agg _ s,r,_,_]=>some ⟨stD s,ax0 r,ndOf (ax0 r),aI4 (o.getD 0 .dead),stFD (o.getD 0 .dead),stFD (o.getD 0 .dead)⟩ | _=>none)
 (fun g=>[stS g.s,.ref 37 g.c,.osl 0 0,.osl 0 0]) (fun g=>[stR g.ns g.st]) (fun g=>NsOK d g/\g.bs=g.st) (fun _=> .tup 0 (lst [])) (fun g=>[stR g.ns g.nx])
noncomputable def spNb (d:Nat):FSpec:=ac3 66 [.arg 3,.arg 2] (γ:=PnG)
 (fun l o=>match l with | [.agg _ s,r,_,_]=>some ⟨stD s,ax0 r,ndOf (ax0 r),aI4 (o.getD 0 .dead),stFD (o.getD 0 .dead),stFD (o.getD 1 .dead)⟩ | _=>none)
 (fun g=>[stS g.s,.ref 37 g.c,.osl 1 0,.osl 0 0]) (fun g=>[stR g.ns g.st,stR g.ns g.bs]) (NsOK d) (fun _=> .tup 0 (lst [])) (fun g=>[stR g.ns g.nx,stR g.ns g.bs])
def PnG.cv (g:PnG) (i:Nat):Bool:=g.nd.cov (g.s.x0+i) g.s.y
def PnG.i0 (g:PnG) (i:Nat):Cl:=if g.nd.x.iso=true then (fun _=>0) else g.bs i
def PnG.inn (g:PnG) (i:Nat):Cl:=pntK g.nd.k g.nd.x.knock (g.s.x0+i) g.s.y (g.i0 i) g.nd.n
def PnG.at (g:PnG) (m i:Nat):Cl:=if i<m then g.nx i else g.st i
def nsT (g:PnG) (b k:Nat) (q:Nat):Tmps:=[(1,.ref 37 g.c),(2,.osl b 0),(3,.osl 0 0),(8,.osl (k+1) 0),(9,.osl (k+2) 0),(41,.osl (k+1) 0),(42,.int .i64 g.ns),(43,.int .i64 q)]
def nsO (g:PnG):List SO:=[.cells 3 (lst (stL g.s)) TRp,mkR g.ns g.cv,stR g.ns g.inn]
def naI (g:PnG):Inv:=⟨Nat,fun q=>q<=g.ns,fun q=>⟨nsT g 0 1 q,stR g.ns (g.at q)::nsO g⟩,fun q=>g.ns-q⟩
def nbI (g:PnG):Inv:=⟨Nat,fun q=>q<=g.ns,fun q=>⟨nsT g 1 2 q,stR g.ns (g.at q)::stR g.ns g.bs::nsO g⟩,fun q=>g.ns-q⟩
def nc0 (g:PnG):List SO:=[.cells 3 (lst (stL g.s)) TRp,mkR g.ns g.cv,stR g.ns g.i0]
def naC (g:PnG):Inv:=⟨Unit,fun _=>True,fun _=>⟨[(1,.ref 37 g.c),(2,.osl 0 0),(3,.osl 0 0),(4,.own 1 0),(8,.osl 2 0),(9,.osl 3 0)],stR g.ns g.st::nc0 g⟩,fun _=>0⟩
def nbC (g:PnG):Inv:=⟨Unit,fun _=>True,fun _=>⟨[(1,.ref 37 g.c),(2,.osl 1 0),(3,.osl 0 0),(4,.own 2 0),(8,.osl 3 0),(9,.osl 4 0)],stR g.ns g.st::stR g.ns g.bs::nc0 g⟩,fun _=>0⟩
theorem bT9 {g:PnG}(hg:ndT g.nd=TPg) {i:Nat}(h:g.cv i=false):g.nx i=g.st i:=by
 obtain ⟨s,c,nd,ns,st,bs⟩:=g;cases nd with
 | fill t x=>exact absurd (show TPf=TPg from hg) (by decide)
 | grp t mx x m k=>
  unfold PnG.cv at h;unfold PnG.nx Nd.pnt;unfold Nd.cov at h;rw [lb (by rw [h]; exact xW)]
theorem bN5 {g:PnG}(hg:ndT g.nd=TPg) {i:Nat}(h:g.cv i=true) (hx:g.nd.x.iso=false):g.nx i=(MixG.mk (g.bs i) (g.inn i) g.nd.x.alpha).res:=by
 obtain ⟨s,c,nd,ns,st,bs⟩:=g;cases nd with
 | fill t x=>exact absurd (show TPf=TPg from hg) (by decide)
 | grp t mx x m k=>
  have hx:x.iso=false:=hx;have hi0:PnG.i0 ⟨s,c,.grp t mx x m k,ns,st,bs⟩ i=bs i:=by
   show (if x.iso=true then (fun _=>0:Cl) else bs i)=bs i;rw [lb (by rw [hx]; exact xW)]
  have hin:PnG.inn ⟨s,c,.grp t mx x m k,ns,st,bs⟩ i=pntK k x.knock (s.x0+i) s.y (bs i) m:=congrArg (fun z=>pntK k x.knock (s.x0+i) s.y z m) hi0;rw [hin];have h1:PnG.nx ⟨s,c,.grp t mx x m k,ns,st,bs⟩ i=if covK k (s.x0+i) s.y m=true then (if x.iso=true then isoC (bs i) (pntK k x.knock (s.x0+i) s.y (fun _=>0) m) x else (MixG.mk (bs i) (pntK k x.knock (s.x0+i) s.y (bs i) m) x.alpha).res) else st i:=rfl
  rw [h1,lg (show covK k (s.x0+i) s.y m=true from h),lb (by rw [hx]; exact xW)];rfl
theorem bN6 {g:PnG}(hg:ndT g.nd=TPg) {i:Nat}(h:g.cv i=true) (hx:g.nd.x.iso=true):g.nx i=isoC (g.bs i) (g.inn i) g.nd.x:=by
 obtain ⟨s,c,nd,ns,st,bs⟩:=g;cases nd with
 | fill t x=>exact absurd (show TPf=TPg from hg) (by decide)
 | grp t mx x m k=>
  have hx:x.iso=true:=hx;have hi0:PnG.i0 ⟨s,c,.grp t mx x m k,ns,st,bs⟩ i=fun _=>0:=by
   show (if x.iso=true then (fun _=>0:Cl) else bs i)=_;rw [lg hx]
  have hin:PnG.inn ⟨s,c,.grp t mx x m k,ns,st,bs⟩ i=pntK k x.knock (s.x0+i) s.y (fun _=>0) m:=congrArg (fun z=>pntK k x.knock (s.x0+i) s.y z m) hi0;rw [hin];have h1:PnG.nx ⟨s,c,.grp t mx x m k,ns,st,bs⟩ i=if covK k (s.x0+i) s.y m=true then (if x.iso=true then isoC (bs i) (pntK k x.knock (s.x0+i) s.y (fun _=>0) m) x else (MixG.mk (bs i) (pntK k x.knock (s.x0+i) s.y (bs i) m) x.alpha).res) else st i:=rfl
  rw [h1,lg (show covK k (s.x0+i) s.y m=true from h),lg hx];rfl
theorem aB0 {g:PnG}{q:Nat}{V:Cl}(hV:V=g.nx q) (i j:Nat):(bif decide (i=q/\0<=j/\j<9) then V (j-0) else g.at q i j)=bif decide (j<9) then g.at (q+1) i j else g.at q i j:=by
 by_cases hj:j<9
 ·rw [lk hj,xK];by_cases hi:i=q
  ·rw [lk ⟨hi,lm _,hj⟩,xK,ue,hV];unfold PnG.at;rw [lg (by omega),hi]
  ·rw [li (fun h=>hi h.1),xm];unfold PnG.at;by_cases hc:i<q
   ·rw [lg hc,lg (by omega)]
   ·rw [lb hc,lb (by omega)]
 ·rw [li hj,li (fun h=>hj h.2.2),xm,xm]
theorem bw9 {g:PnG}(hg:ndT g.nd=TPg) {q:Nat}(h:g.cv q=false) (i:Nat):g.at q i=g.at (q+1) i:=by
 unfold PnG.at;by_cases hi:i=q
 ·subst hi;rw [lb (by omega),lg (by omega),bT9 hg h]
 ·by_cases hc:i<q
  ·rw [lg hc,lg (by omega)]
  ·rw [lb hc,lb (by omega)]
theorem bU0 {g:PnG}(q:Nat):g.at q q=g.st q:=lb (uH q)
theorem bX2 {g:PnG}(h:BdOK g) {i:Nat}(hi:i<g.ns):xyOK (g.s.x0+i) g.s.y:=by
 have:=h.n; have:=h.x0; have:=h.x1
 exact ⟨by omega,h.y⟩
theorem by5 {g:PnG}(h:BdOK g) {i:Nat}(hi:i<g.ns):isU9 (g.i0 i):=by
 unfold PnG.i0;split
 ·exact bp8
 ·exact h.bs i hi
theorem bO3 {d:Nat}{g:PnG}(h:BdOK g) (hk:∀ a,a<g.nd.n->NdOK d (g.nd.k a)) {i:Nat}(hi:i<g.ns):isU9 (g.inn i):=aT3 hk (bX2 h hi) (by5 h hi) (lh _)
theorem bP1 {mf:Nat->Bool}{n:Nat}(h:¬ 0<=bX mf n 0) {i:Nat}(hi:i<n):mf i=false:=by
 cases hm:mf i with
 | false=>rfl
 | true=>exact absurd ((bP0 n 0).2 ⟨i,lm _,by omega,hm⟩) h
theorem b29:aa2 Tryz.prog (spNa 0):=by
 refine smW (specs:=[]) trivial Tryz.func66 (fun g=>A0) true ?_;rintro ⟨s,c,nd,ns,st,bs⟩ ⟨hg,hbs⟩;have hc:c=ndX nd:=hg.c;cases hg.k with
 | fill h hv=>exact absurd (show TPf=TPg from hg.isg) (by decide)
set_option maxHeartbeats 1000000 in
theorem ok_na {d:Nat}(hp:aa2 Tryz.prog (spPt d)):aa2 Tryz.prog (spNa (d+1)):=by
 refine smW (specs:=[spCv (d+1),lend bt0,spPt d,aw8,aH9,aH7]) (⟨b36 (d+1),bx5 bw1,hp,ax3,aI9,aF7,trivial⟩) Tryz.func66 (fun g=>(⟨[(7,.cut (naC g)),(9,.inv (naI g))],[]⟩:Ann)) true ?_;rintro ⟨s,c,nd,ns,st,bs⟩ ⟨hg,hbs⟩;have hc:c=ndX nd:=hg.c;have hbs:st=bs:=hbs.symm;subst hbs;cases hg.k with
 | fill h hv=>exact absurd (show TPf=TPg from hg.isg) (by decide)
 | grp hn hm ha hb hk=>
  rename_i t mx x m k;subst hm;rw [aj2] at hc;subst hc;refine ab2 (B:=let T2:=fun p:Prop=>True/\True/\p;let T5:=fun p:Prop=>True/\True/\True/\True/\True/\p;let T6:=fun p:Prop=>True/\True/\True/\True/\True/\True/\p;let V:=fun p:SV=>SVle [] [] p p;let J:=IntKind.i64;let K:=Br;let A:=Sx.Ask;let z48:=(86:Go.FuncId);let z47:=(112:Go.FuncId);let z45:=(9223372036854775807:Int);let z43:=(Blend.aa4 x.blend.toNat=Blend.aa4 x.blend.toNat);let z39:=(ns=ns);let z34:=(↑ns:Int);let z32:=(9:Nat);let z30:=(A (z48=z48)/\T2 (A (z47=z47)/\T2 (A z43/\True)));let z29:=(8:Nat);let z28:=(7:Nat);let z27:=(6:Nat);let z26:=(5:Nat);let z25:=(4:Nat);let z24:=(3:Nat);let z23:=(2:Nat);let z21:=(0:Int);let z44:=(z21=z21);let z16:=(1:Nat);let z14:=(J=J);let q14:=fun p:Int=>A z14/\A (p=p);let z31:=(q14 z34);let z22:=(((qT True x x)/\q14 t)/\A (z48=z48)/\T2 (A (z47=z47)/\T2 (A z43/\True)));let z9:=(0:Nat);let z46:=(z9+z9);let z8:=(((True/\q14 s.y)/\q14 s.x0)/\q14 s.x1);let z4:=(IntKind.u8=IntKind.u8);let q4:=fun p:Int=>A z4/\A (p=p);let z49:=(q4 x.alpha);let z12:=(A z39/\∀ i:Nat,i<ns->(chp True (fun j:Nat=>q4 (st i j)) 9));let z2:=(lst (itL x++[SV.int J t,mxS x false,SV.sl m z16 fun (a x:Nat)=>SV.ifc (ndT (k a)) fun (x:Nat)=>SV.ref (37:Nat) (ndX (k a))]));let z36:=(ndOf z2);let z20:=(Lpc.CvG.mk s z2 z36 ns fun (i:Nat)=>false);let z1:=(z22/\A (m=m)/\∀ i:Nat,i<m->True/\A (ndT (k i)=ndT (k i))/\((((((((((((((((((((((((((((((((((((True/\V (ndX (k i) 0))/\V (ndX (k i) 1))/\V (ndX (k i) 2))/\V (ndX (k i) 3))/\V (ndX (k i) 4))/\V (ndX (k i) 5))/\V (ndX (k i) 6))/\V (ndX (k i) 7))/\V (ndX (k i) 8))/\V (ndX (k i) 9))/\V (ndX (k i) (10:Nat)))/\V (ndX (k i) (11:Nat)))/\V (ndX (k i) (12:Nat)))/\V (ndX (k i) (13:Nat)))/\V (ndX (k i) (14:Nat)))/\V (ndX (k i) (15:Nat)))/\V (ndX (k i) (16:Nat)))/\V (ndX (k i) (17:Nat)))/\V (ndX (k i) (18:Nat)))/\V (ndX (k i) (19:Nat)))/\V (ndX (k i) (20:Nat)))/\V (ndX (k i) (21:Nat)))/\V (ndX (k i) (22:Nat)))/\V (ndX (k i) (23:Nat)))/\V (ndX (k i) (24:Nat)))/\V (ndX (k i) (25:Nat)))/\V (ndX (k i) (26:Nat)))/\V (ndX (k i) (27:Nat)))/\V (ndX (k i) (28:Nat)))/\V (ndX (k i) (29:Nat)))/\V (ndX (k i) (30:Nat)))/\V (ndX (k i) (31:Nat)))/\V (ndX (k i) (32:Nat)))/\V (ndX (k i) (33:Nat)))/\V (ndX (k i) (34:Nat)))/\V (ndX (k i) (35:Nat)))/\V (ndX (k i) (36:Nat)));let z41:=(z1/\T2 (A (z9=z9)/\T2 (True)));let z0:=(PnG.mk s z2 (Nd.grp t false x m k) ns st st);let z38:=(A z39/\∀ i:Nat,i<ns->True/\A (z20.fin i=z0.cv i));let z18:=(A z39/\∀ i:Nat,i<ns->True/\A (z0.cv i=z0.cv i));let z13:=(PnG.mk s z2 z36 ns z0.i0 z0.i0);let z7:=(A z39/\∀ i:Nat,i<ns->(chp True (fun j:Nat=>q4 (z0.inn i j)) 9));T2 (True/\A (z21<=z34/\z34<=z34/\(↑z16:Int)*z34<=(140737488355328:Int)/\z34<=z45)/\T5 (((True/\(z8/\(A ((73:Nat)=ndT z36)/\z22/\A (m=m)/\∀ i:Nat,i<m->True/\A (ndT (k i)=ndT (k i))/\((((((((((((((((((((((((((((((((((((True/\V (ndX (k i) 0))/\V (ndX (k i) 1))/\V (ndX (k i) 2))/\V (ndX (k i) 3))/\V (ndX (k i) 4))/\V (ndX (k i) 5))/\V (ndX (k i) 6))/\V (ndX (k i) 7))/\V (ndX (k i) 8))/\V (ndX (k i) 9))/\V (ndX (k i) (10:Nat)))/\V (ndX (k i) (11:Nat)))/\V (ndX (k i) (12:Nat)))/\V (ndX (k i) (13:Nat)))/\V (ndX (k i) (14:Nat)))/\V (ndX (k i) (15:Nat)))/\V (ndX (k i) (16:Nat)))/\V (ndX (k i) (17:Nat)))/\V (ndX (k i) (18:Nat)))/\V (ndX (k i) (19:Nat)))/\V (ndX (k i) (20:Nat)))/\V (ndX (k i) (21:Nat)))/\V (ndX (k i) (22:Nat)))/\V (ndX (k i) (23:Nat)))/\V (ndX (k i) (24:Nat)))/\V (ndX (k i) (25:Nat)))/\V (ndX (k i) (26:Nat)))/\V (ndX (k i) (27:Nat)))/\V (ndX (k i) (28:Nat)))/\V (ndX (k i) (29:Nat)))/\V (ndX (k i) (30:Nat)))/\V (ndX (k i) (31:Nat)))/\V (ndX (k i) (32:Nat)))/\V (ndX (k i) (33:Nat)))/\V (ndX (k i) (34:Nat)))/\V (ndX (k i) (35:Nat)))/\V (ndX (k i) (36:Nat)))/\True/\True)/\(A (z34.toNat=ns)/\∀ i:Nat,i<ns->True/\A (false=false))/\True)/\A (CvOK (d+z16) z20))/\True/\(((A z39/\∀ i:Nat,i<ns->True/\A (z20.fin i=z20.fin i))/\A (true=true)/\True)/\A (ns<=(4294967296:Nat)))/\True/\K (!decide (z21<=bX z20.fin ns z9)) (T2 ((True/\True)/\(A z39/\∀ i:Nat,i<ns->(((((((((True/\A z4/\A (st i z9=z0.nx i z9))/\A z4/\A (st i z16=z0.nx i z16))/\A z4/\A (st i z23=z0.nx i z23))/\A z4/\A (st i z24=z0.nx i z24))/\A z4/\A (st i z25=z0.nx i z25))/\A z4/\A (st i z26=z0.nx i z26))/\A z4/\A (st i z27=z0.nx i z27))/\A z4/\A (st i z28=z0.nx i z28))/\A z4/\A (st i z29=z0.nx i z29)))/\True)) (T2 (A (z21<=z34/\z34<=z34/\(↑z32:Int)*z34<=(140737488355328:Int)/\z34<=z45)/\True/\(T6 (K (!x.iso) (T2 (True/\∃ g:Unit,A ((naC z0).pre g)/\True/\z41/\z12/\z8/\z38/\(A (z34.toNat=ns)/\∀ i:Nat,let z15:=(z9<=i/\i<z9+ns.min z34.toNat); i<ns->(((((((((True/\A z4/\A ((bif decide z15 then st (i-z9) z9 else z21)=z0.i0 i z9))/\A z4/\A ((bif decide z15 then st (i-z9) z16 else z21)=z0.i0 i z16))/\A z4/\A ((bif decide z15 then st (i-z9) z23 else z21)=z0.i0 i z23))/\A z4/\A ((bif decide z15 then st (i-z9) z24 else z21)=z0.i0 i z24))/\A z4/\A ((bif decide z15 then st (i-z9) z25 else z21)=z0.i0 i z25))/\A z4/\A ((bif decide z15 then st (i-z9) z26 else z21)=z0.i0 i z26))/\A z4/\A ((bif decide z15 then st (i-z9) z27 else z21)=z0.i0 i z27))/\A z4/\A ((bif decide z15 then st (i-z9) z28 else z21)=z0.i0 i z28))/\A z4/\A ((bif decide z15 then st (i-z9) z29 else z21)=z0.i0 i z29)))/\True)) (∃ g:Unit,A ((naC z0).pre g)/\True/\z41/\z12/\z8/\z38/\(A (z34.toNat=ns)/\∀ i:Nat,i<ns->(chp True (fun j:Nat=>A z4/\A (z21=z0.i0 i j)) 9))/\True)))/\∀ g:Unit,(naC z0).pre g->T2 (True/\((True/\(z8/\z1/\True/\True)/\(A z39/\∀ i:Nat,i<ns->(chp True (fun j:Nat=>q4 (z0.i0 i j)) 9))/\True)/\A (PtOK d z13))/\T2 (True/\(∃ g:Nat,A ((naI z0).pre g)/\True/\(z1/\T5 (z31/\(A z14/\A (z21=(↑g:Int)))/\True))/\(A z39/\∀ i:Nat,i<ns->(((((((((True/\A z4/\A (st i z9=z0.at g i z9))/\A z4/\A (st i z16=z0.at g i z16))/\A z4/\A (st i z23=z0.at g i z23))/\A z4/\A (st i z24=z0.at g i z24))/\A z4/\A (st i z25=z0.at g i z25))/\A z4/\A (st i z26=z0.at g i z26))/\A z4/\A (st i z27=z0.at g i z27))/\A z4/\A (st i z28=z0.at g i z28))/\A z4/\A (st i z29=z0.at g i z29)))/\z8/\z18/\(A z39/\∀ i:Nat,i<ns->(((((((((True/\A z4/\A (z13.pt z36.n i z9=z0.inn i z9))/\A z4/\A (z13.pt z36.n i z16=z0.inn i z16))/\A z4/\A (z13.pt z36.n i z23=z0.inn i z23))/\A z4/\A (z13.pt z36.n i z24=z0.inn i z24))/\A z4/\A (z13.pt z36.n i z25=z0.inn i z25))/\A z4/\A (z13.pt z36.n i z26=z0.inn i z26))/\A z4/\A (z13.pt z36.n i z27=z0.inn i z27))/\A z4/\A (z13.pt z36.n i z28=z0.inn i z28))/\A z4/\A (z13.pt z36.n i z29=z0.inn i z29)))/\True)/\∀ g:Nat,let z11:=(↑g:Int);let z42:=(z0.inn z11.toNat z46=z0.inn z11.toNat z46);let z37:=(fun (j:Nat)=>z0.at g z11.toNat (z9+j));let z35:=(z11.toNat<ns);let z33:=(z0.inn z11.toNat z46);let z40:=(q4 (aa9 z33 x.alpha));let z19:=((-9223372036854775808:Int)<=z11+(1:Int)/\z11+(1:Int)<=z45);let z17:=(z21<=z11/\z11<z34);let z10:=(MixG.mk z37 (fun (j:Nat)=>z0.inn z11.toNat (z9+j)) x.alpha);let z6:=(((((((((True/\q4 (z0.at g z11.toNat z46))/\q4 (z0.at g z11.toNat (z9+z16)))/\q4 (z0.at g z11.toNat (z9+z23)))/\q4 (z0.at g z11.toNat (z9+z24)))/\q4 (z0.at g z11.toNat (z9+z25)))/\q4 (z0.at g z11.toNat (z9+z26)))/\q4 (z0.at g z11.toNat (z9+z27)))/\q4 (z0.at g z11.toNat (z9+z28)))/\q4 (z0.at g z11.toNat (z9+z29)));let z5:=(Cmp.PaintG.mk z37 (fun (j:Nat)=>z0.inn z11.toNat (z9+z16+(z9+j))) (aa9 z33 x.alpha) (Blend.aa4 x.blend.toNat) false);let z3:=(Cmp.PaintG.mk z37 (fun (j:Nat)=>Sx.intOf (ak0 [Go.Value.int IntKind.u8 z21,Go.Value.int IntKind.u8 z21,Go.Value.int IntKind.u8 z21,Go.Value.int IntKind.u8 z21,Go.Value.int IntKind.u8 z21,Go.Value.int IntKind.u8 z21,Go.Value.int IntKind.u8 z21,Go.Value.int IntKind.u8 z21] (z9+j))) (aa9 z33 x.alpha) (Blend.aa4 x.blend.toNat) false); (naI z0).pre g->True/\K (decide (z11<z34)) (True/\A z17/\A z35/\T2 (T2 (K (!z0.cv z11.toNat) (A z19/\True/\∃ (g':Nat),A ((naI z0).pre g')/\True/\((z1/\T5 (z31/\(A z14/\A (z11+(1:Int)=(↑g':Int)))/\True))/\(A z39/\∀ i:Nat,i<ns->(((((((((True/\A z4/\A (z0.at g i z9=z0.at g' i z9))/\A z4/\A (z0.at g i z16=z0.at g' i z16))/\A z4/\A (z0.at g i z23=z0.at g' i z23))/\A z4/\A (z0.at g i z24=z0.at g' i z24))/\A z4/\A (z0.at g i z25=z0.at g' i z25))/\A z4/\A (z0.at g i z26=z0.at g' i z26))/\A z4/\A (z0.at g i z27=z0.at g' i z27))/\A z4/\A (z0.at g i z28=z0.at g' i z28))/\A z4/\A (z0.at g i z29=z0.at g' i z29)))/\z8/\z18/\z7/\True)/\A ((naI z0).meas g'<(naI z0).meas g)) (T6 (K (!x.iso) (T2 (T2 (A z17/\A z35/\T2 (A z17/\A z35/\T5 (((z6/\(((((((((True/\A z4/\A z42)/\q4 (z0.inn z11.toNat (z9+z16)))/\q4 (z0.inn z11.toNat (z9+z23)))/\q4 (z0.inn z11.toNat (z9+z24)))/\q4 (z0.inn z11.toNat (z9+z25)))/\q4 (z0.inn z11.toNat (z9+z26)))/\q4 (z0.inn z11.toNat (z9+z27)))/\q4 (z0.inn z11.toNat (z9+z28)))/\q4 (z0.inn z11.toNat (z9+z29)))/\z49/\True)/\A z10.ok)/\A z17/\A z35/\A z19/\True/\∃ (g':Nat),A ((naI z0).pre g')/\True/\((z1/\T5 (z31/\(A z14/\A (z11+(1:Int)=(↑g':Int)))/\True))/\(A z39/\∀ i:Nat,i<ns->(((((((((True/\A z4/\A ((bif decide (i=z11.toNat/\z9<=z9/\z9<z9+z32) then z10.res (z9-z9) else z0.at g i z9)=z0.at g' i z9))/\A z4/\A ((bif decide (i=z11.toNat/\z9<=z16/\z16<z9+z32) then z10.res (z16-z9) else z0.at g i z16)=z0.at g' i z16))/\A z4/\A ((bif decide (i=z11.toNat/\z9<=z23/\z23<z9+z32) then z10.res (z23-z9) else z0.at g i z23)=z0.at g' i z23))/\A z4/\A ((bif decide (i=z11.toNat/\z9<=z24/\z24<z9+z32) then z10.res (z24-z9) else z0.at g i z24)=z0.at g' i z24))/\A z4/\A ((bif decide (i=z11.toNat/\z9<=z25/\z25<z9+z32) then z10.res (z25-z9) else z0.at g i z25)=z0.at g' i z25))/\A z4/\A ((bif decide (i=z11.toNat/\z9<=z26/\z26<z9+z32) then z10.res (z26-z9) else z0.at g i z26)=z0.at g' i z26))/\A z4/\A ((bif decide (i=z11.toNat/\z9<=z27/\z27<z9+z32) then z10.res (z27-z9) else z0.at g i z27)=z0.at g' i z27))/\A z4/\A ((bif decide (i=z11.toNat/\z9<=z28/\z28<z9+z32) then z10.res (z28-z9) else z0.at g i z28)=z0.at g' i z28))/\A z4/\A ((bif decide (i=z11.toNat/\z9<=z29/\z29<z9+z32) then z10.res (z29-z9) else z0.at g i z29)=z0.at g' i z29)))/\z8/\z18/\z7/\True)/\A ((naI z0).meas g'<(naI z0).meas g)))))) (T2 (A z17/\True/\A z35/\T5 ((((A z4/\A z42)/\z49/\True)/\A ((z21<=z0.inn z11.toNat z46/\z0.inn z11.toNat z46<=(255:Int))/\z21<=x.alpha/\x.alpha<=(255:Int)))/\T2 (A z17/\True/\A z35/\T5 (K (decide (aa9 z33 x.alpha=z21)) (T6 (A z17/\A z35/\T6 (((z6/\((((((((True/\A z4/\A z44)/\A z4/\A z44)/\A z4/\A z44)/\A z4/\A z44)/\A z4/\A z44)/\A z4/\A z44)/\A z4/\A z44)/\A z4/\A z44)/\z40/\z30/\A (false=false)/\True)/\A z3.ok)/\A z17/\A z35/\A z19/\True/\∃ (g':Nat),A ((naI z0).pre g')/\True/\((z1/\T5 (z31/\(A z14/\A (z11+(1:Int)=(↑g':Int)))/\True))/\(A z39/\∀ i:Nat,i<ns->(((((((((True/\A z4/\A ((bif decide (i=z11.toNat/\z9<=z9/\z9<z9+z32) then z3.res (z9-z9) else z0.at g i z9)=z0.at g' i z9))/\A z4/\A ((bif decide (i=z11.toNat/\z9<=z16/\z16<z9+z32) then z3.res (z16-z9) else z0.at g i z16)=z0.at g' i z16))/\A z4/\A ((bif decide (i=z11.toNat/\z9<=z23/\z23<z9+z32) then z3.res (z23-z9) else z0.at g i z23)=z0.at g' i z23))/\A z4/\A ((bif decide (i=z11.toNat/\z9<=z24/\z24<z9+z32) then z3.res (z24-z9) else z0.at g i z24)=z0.at g' i z24))/\A z4/\A ((bif decide (i=z11.toNat/\z9<=z25/\z25<z9+z32) then z3.res (z25-z9) else z0.at g i z25)=z0.at g' i z25))/\A z4/\A ((bif decide (i=z11.toNat/\z9<=z26/\z26<z9+z32) then z3.res (z26-z9) else z0.at g i z26)=z0.at g' i z26))/\A z4/\A ((bif decide (i=z11.toNat/\z9<=z27/\z27<z9+z32) then z3.res (z27-z9) else z0.at g i z27)=z0.at g' i z27))/\A z4/\A ((bif decide (i=z11.toNat/\z9<=z28/\z28<z9+z32) then z3.res (z28-z9) else z0.at g i z28)=z0.at g' i z28))/\A z4/\A ((bif decide (i=z11.toNat/\z9<=z29/\z29<z9+z32) then z3.res (z29-z9) else z0.at g i z29)=z0.at g' i z29)))/\z8/\z18/\z7/\True)/\A ((naI z0).meas g'<(naI z0).meas g)))) (T2 (T2 (A z17/\A z35/\T6 (((z6/\((((((((True/\q4 (z0.inn z11.toNat (z9+z16+z46)))/\q4 (z0.inn z11.toNat (z9+z16+(z9+z16))))/\q4 (z0.inn z11.toNat (z9+z16+(z9+z23))))/\q4 (z0.inn z11.toNat (z9+z16+(z9+z24))))/\q4 (z0.inn z11.toNat (z9+z16+(z9+z25))))/\q4 (z0.inn z11.toNat (z9+z16+(z9+z26))))/\q4 (z0.inn z11.toNat (z9+z16+(z9+z27))))/\q4 (z0.inn z11.toNat (z9+z16+(z9+z28))))/\z40/\z30/\A (false=false)/\True)/\A z5.ok)/\A z17/\A z35/\A z19/\True/\∃ (g':Nat),A ((naI z0).pre g')/\True/\((z1/\T5 (z31/\(A z14/\A (z11+(1:Int)=(↑g':Int)))/\True))/\(A z39/\∀ i:Nat,i<ns->(((((((((True/\A z4/\A ((bif decide (i=z11.toNat/\z9<=z9/\z9<z9+z32) then z5.res (z9-z9) else z0.at g i z9)=z0.at g' i z9))/\A z4/\A ((bif decide (i=z11.toNat/\z9<=z16/\z16<z9+z32) then z5.res (z16-z9) else z0.at g i z16)=z0.at g' i z16))/\A z4/\A ((bif decide (i=z11.toNat/\z9<=z23/\z23<z9+z32) then z5.res (z23-z9) else z0.at g i z23)=z0.at g' i z23))/\A z4/\A ((bif decide (i=z11.toNat/\z9<=z24/\z24<z9+z32) then z5.res (z24-z9) else z0.at g i z24)=z0.at g' i z24))/\A z4/\A ((bif decide (i=z11.toNat/\z9<=z25/\z25<z9+z32) then z5.res (z25-z9) else z0.at g i z25)=z0.at g' i z25))/\A z4/\A ((bif decide (i=z11.toNat/\z9<=z26/\z26<z9+z32) then z5.res (z26-z9) else z0.at g i z26)=z0.at g' i z26))/\A z4/\A ((bif decide (i=z11.toNat/\z9<=z27/\z27<z9+z32) then z5.res (z27-z9) else z0.at g i z27)=z0.at g' i z27))/\A z4/\A ((bif decide (i=z11.toNat/\z9<=z28/\z28<z9+z32) then z5.res (z28-z9) else z0.at g i z28)=z0.at g' i z28))/\A z4/\A ((bif decide (i=z11.toNat/\z9<=z29/\z29<z9+z32) then z5.res (z29-z9) else z0.at g i z29)=z0.at g' i z29)))/\z8/\z18/\z7/\True)/\A ((naI z0).meas g'<(naI z0).meas g))))))))))))))) (T2 ((True/\True)/\(A z39/\∀ i:Nat,i<ns->(((((((((True/\A z4/\A (z0.at g i z9=z0.nx i z9))/\A z4/\A (z0.at g i z16=z0.nx i z16))/\A z4/\A (z0.at g i z23=z0.nx i z23))/\A z4/\A (z0.at g i z24=z0.nx i z24))/\A z4/\A (z0.at g i z25=z0.nx i z25))/\A z4/\A (z0.at g i z26=z0.nx i z26))/\A z4/\A (z0.at g i z27=z0.nx i z27))/\A z4/\A (z0.at g i z28=z0.nx i z28))/\A z4/\A (z0.at g i z29=z0.nx i z29)))/\True))))))))) (by kernel_rfl) ?_;simp only [chp];delta qG qI qM qS qT
  simp only [cln];have hs:∀ nd j,SVle [] [] (ndX nd j) (ndX nd j)=True:=fun nd j=>uF (SVle.refl [] [] (an3 nd j))
  have e:ndOf (lst (itL x++[.int .i64 t,mxS x false,.sl m 1 (fun a _=> .ifc (ndT (k a)) (fun _=> .ref 37 (ndX (k a))))])) = .grp t false x m k:=by rw [<-aj2]; exact aq2 _
  simp only [e,hs,lw,ud,xC,xD,xp,zf8];have hc:(lst (itL x++[.int .i64 t,mxS x false,.sl m 1 (fun a _=> .ifc (ndT (k a)) (fun _=> .ref 37 (ndX (k a))))]))=ndX (.grp t false x m k):=(aj2 _ _ _ _ _).symm;have hb':=hg.b;generalize lst (itL x++[.int .i64 t,mxS x false,.sl m 1 (fun a _=> .ifc (ndT (k a)) (fun _=> .ref 37 (ndX (k a))))])=C at *
  have hn1:(ns:Int)=s.x1-s.x0:=hb'.n;have hn2 : -8192<=s.x0:=hb'.x0;have hn3:s.x1<=8192:=hb'.x1;have hn4:0<ns:=hb'.pos;have hnd:NdOK (d+1) (.grp t false x m k):= .grp hn rfl ha hb hk;have hcv:CvOK (d+1) ⟨s,C,.grp t false x m k,ns,fun _=>false⟩:=⟨hc,hnd,hn2,hn3,hn1⟩
  have hfin:∀ i,CvG.fin ⟨s,C,.grp t false x m k,ns,fun _=>false⟩ i=PnG.cv ⟨s,C,.grp t false x m k,ns,st,st⟩ i:=fun i=>laf _
  refine ⟨by omega,⟨rfl,hcv⟩,by omega,fun hno i hi=>?_,fun hyes=>⟨by omega,⟨fun hx=>⟨(),trivial,fun i _=>hfin i,fun i hi=>?_⟩,fun hx=>⟨(),trivial,fun i _=>hfin i,fun i hi=>?_⟩⟩,fun _ _=>?_⟩⟩
  ·have hno:PnG.nx ⟨s,C,.grp t false x m k,ns,st,st⟩ i=st i:=bT9 (g:=⟨s,C,.grp t false x m k,ns,st,st⟩) rfl ((hfin i).symm.trans (bP1 (n:=ns) (by simpa using hno) hi));have h0:∀ j,st i j=PnG.nx ⟨s,C,.grp t false x m k,ns,st,st⟩ i j:=fun j=>(congrFun hno j).symm
   exact all9 h0
  ·have hx:x.iso=false:=by simpa using hx
   have h0:∀ j,(bif decide (0<=i/\i<ns.min ns) then st (i-0) j else 0)=PnG.i0 ⟨s,C,.grp t false x m k,ns,st,st⟩ i j:=fun j=>by
    have hi0:PnG.i0 ⟨s,C,.grp t false x m k,ns,st,st⟩ i=st i:=lb (show ¬ x.iso=true by rw [hx]; exact xW);have hmin:i<Nat.min ns ns:=by rw [show Nat.min ns ns=ns from Nat.min_self ns]; exact hi
    rw [lk ⟨lm _,hmin⟩,hi0];rfl
   exact all9 h0
  ·have hx:x.iso=true:=by simpa using hx
   have h0:∀ j,(0:Int)=PnG.i0 ⟨s,C,.grp t false x m k,ns,st,st⟩ i j:=fun j=>(congrFun (show PnG.i0 ⟨s,C,.grp t false x m k,ns,st,st⟩ i=fun _=>0 from lg hx) j).symm
   exact all9 h0
  have hu:=fun i (hi:i<ns)=>bO3 (g:=⟨s,C,.grp t false x m k,ns,st,st⟩) hb' hk hi
  have hbd:BdOK ⟨s,C,.grp t false x m k,ns,PnG.i0 ⟨s,C,.grp t false x m k,ns,st,st⟩,PnG.i0 ⟨s,C,.grp t false x m k,ns,st,st⟩⟩:=⟨hb'.y,hn2,hn3,hn1,hn4,fun i hi=>by5 hb' hi,fun i hi=>by5 hb' hi⟩
  refine ⟨⟨hc,rfl,hn,hk,hbd⟩,⟨0,lm _,rfl,fun i _=>all9 fun j=>(congrFun (lb (lj i)) j).symm,fun i _=>all9 fun j=>rfl⟩,fun q hq=>⟨fun hlt=>?_,fun hge i hi=>?_⟩⟩
  ·have hlt:q<ns:=by omega
   have hld:(fun j=>PnG.at ⟨s,C,.grp t false x m k,ns,st,st⟩ q q j)=st q:=bU0 q;have hbq:isU9 (st q):=hb'.bs q hlt;have hiq:=hu q hlt;have hmm:ns-(q+1)<ns-q:=by omega
   simp only [hld];refine ⟨by omega,hlt,fun hm=>⟨by omega,q+1,hlt,⟨by simp,fun i _=>all9 fun j=>congrFun (bw9 (g:=⟨s,C,.grp t false x m k,ns,st,st⟩) rfl (by simpa using hm) i) j⟩,hmm⟩,fun hm=>⟨fun hx=>?_,fun hx=>?_⟩⟩
   ·have hm:PnG.cv ⟨s,C,.grp t false x m k,ns,st,st⟩ q=true:=by simpa using hm
    have hx:x.iso=false:=by simpa using hx
    have hV:(MixG.mk (st q) (PnG.inn ⟨s,C,.grp t false x m k,ns,st,st⟩ q) x.alpha).res=PnG.nx ⟨s,C,.grp t false x m k,ns,st,st⟩ q:=(bN5 (g:=⟨s,C,.grp t false x m k,ns,st,st⟩) rfl hm hx).symm;have st9:=fun i=>aB0 hV i
    exact ⟨by omega,hlt,by omega,hlt,⟨⟨hbq,hiq⟩,ha⟩,by omega,hlt,by omega,q+1,hlt,⟨by simp,fun i hi=>⟨⟨⟨⟨⟨⟨⟨⟨st9 i 0,st9 i 1⟩,st9 i 2⟩,st9 i 3⟩,st9 i 4⟩,st9 i 5⟩,st9 i 6⟩,st9 i 7⟩,st9 i 8⟩⟩,hmm⟩
   ·have hm:PnG.cv ⟨s,C,.grp t false x m k,ns,st,st⟩ q=true:=by simpa using hm
    have hx:x.iso=true:=by simpa using hx
    have hV:isoC (st q) (PnG.inn ⟨s,C,.grp t false x m k,ns,st,st⟩ q) x=PnG.nx ⟨s,C,.grp t false x m k,ns,st,st⟩ q:=(bN6 (g:=⟨s,C,.grp t false x m k,ns,st,st⟩) rfl hm hx).symm;have hok:=ba8 hbq hiq ha hb;unfold isoC at hV;refine ⟨by omega,hlt,⟨hiq 0,ha⟩,by omega,hlt,fun hz=>?_,fun hz=>?_⟩
    ·rw [lg hz] at hV hok;have st9:=fun i=>aB0 hV i
     exact ⟨by omega,hlt,hok,by omega,hlt,by omega,q+1,hlt,⟨by simp,fun i hi=>⟨⟨⟨⟨⟨⟨⟨⟨st9 i 0,st9 i 1⟩,st9 i 2⟩,st9 i 3⟩,st9 i 4⟩,st9 i 5⟩,st9 i 6⟩,st9 i 7⟩,st9 i 8⟩⟩,hmm⟩
    ·rw [lb hz] at hV hok;have st9:=fun i=>aB0 hV i
     exact ⟨by omega,hlt,hok,by omega,hlt,by omega,q+1,hlt,⟨by simp,fun i hi=>⟨⟨⟨⟨⟨⟨⟨⟨st9 i 0,st9 i 1⟩,st9 i 2⟩,st9 i 3⟩,st9 i 4⟩,st9 i 5⟩,st9 i 6⟩,st9 i 7⟩,st9 i 8⟩⟩,hmm⟩
  ·have hq:q<=ns:=hq;have h0:∀ j,PnG.at ⟨s,C,.grp t false x m k,ns,st,st⟩ q i j=PnG.nx ⟨s,C,.grp t false x m k,ns,st,st⟩ i j:=fun j=>congrFun (lg (by omega)) j
   exact all9 h0
theorem b28:aa2 Tryz.prog (spNb 0):=by
 refine smW (specs:=[]) trivial Tryz.func66 (fun g=>A0) true ?_;rintro ⟨s,c,nd,ns,st,bs⟩ hg;cases hg.k with
 | fill h hv=>exact absurd (show TPf=TPg from hg.isg) (by decide)
set_option maxHeartbeats 1000000 in
theorem ok_nb {d:Nat}(hp:aa2 Tryz.prog (spPt d)):aa2 Tryz.prog (spNb (d+1)):=by
 refine smW (specs:=[spCv (d+1),lend bt0,spPt d,aw8,aH9,aH7]) (⟨b36 (d+1),bx5 bw1,hp,ax3,aI9,aF7,trivial⟩) Tryz.func66 (fun g=>(⟨[(7,.cut (nbC g)),(9,.inv (nbI g))],[]⟩:Ann)) true ?_;rintro ⟨s,c,nd,ns,st,bs⟩ hg;have hc:c=ndX nd:=hg.c;cases hg.k with
 | fill h hv=>exact absurd (show TPf=TPg from hg.isg) (by decide)
 | grp hn hm ha hb hk=>
  rename_i t mx x m k;subst hm;rw [aj2] at hc;subst hc;refine ab2 (B:=let T2:=fun p:Prop=>True/\True/\p;let T5:=fun p:Prop=>True/\True/\True/\True/\True/\p;let T6:=fun p:Prop=>True/\True/\True/\True/\True/\True/\p;let V:=fun p:SV=>SVle [] [] p p;let J:=IntKind.i64;let K:=Br;let A:=Sx.Ask;let z50:=(86:Go.FuncId);let z49:=(112:Go.FuncId);let z46:=(9223372036854775807:Int);let z44:=(Blend.aa4 x.blend.toNat=Blend.aa4 x.blend.toNat);let z38:=(ns=ns);let z35:=(↑ns:Int);let z34:=(9:Nat);let z31:=(A (z50=z50)/\T2 (A (z49=z49)/\T2 (A z44/\True)));let z30:=(8:Nat);let z29:=(7:Nat);let z28:=(6:Nat);let z27:=(5:Nat);let z26:=(4:Nat);let z25:=(3:Nat);let z24:=(2:Nat);let z22:=(0:Int);let z45:=(z22=z22);let z17:=(J=J);let q17:=fun p:Int=>A z17/\A (p=p);let z32:=(q17 z35);let z23:=(((qT True x x)/\q17 t)/\A (z50=z50)/\T2 (A (z49=z49)/\T2 (A z44/\True)));let z16:=(1:Nat);let z10:=(0:Nat);let z58:=(z10+z29);let z57:=(z10+z28);let z56:=(z10+z27);let z55:=(z10+z26);let z54:=(z10+z25);let z53:=(z10+z24);let z52:=(z10+z16);let z40:=(z10+z10);let z9:=(((True/\q17 s.y)/\q17 s.x0)/\q17 s.x1);let z4:=(IntKind.u8=IntKind.u8);let q4:=fun p:Int=>A z4/\A (p=p);let z51:=(q4 x.alpha);let z13:=(A z38/\∀ i:Nat,i<ns->(chp True (fun j:Nat=>q4 (st i j)) 9));let z3:=(A z38/\∀ i:Nat,i<ns->(chp True (fun j:Nat=>q4 (bs i j)) 9));let z2:=(lst (itL x++[SV.int J t,mxS x false,SV.sl m z16 fun (a x:Nat)=>SV.ifc (ndT (k a)) fun (x:Nat)=>SV.ref (37:Nat) (ndX (k a))]));let z37:=(ndOf z2);let z21:=(Lpc.CvG.mk s z2 z37 ns fun (i:Nat)=>false);let z1:=(z23/\A (m=m)/\∀ i:Nat,i<m->True/\A (ndT (k i)=ndT (k i))/\((((((((((((((((((((((((((((((((((((True/\V (ndX (k i) 0))/\V (ndX (k i) 1))/\V (ndX (k i) 2))/\V (ndX (k i) 3))/\V (ndX (k i) 4))/\V (ndX (k i) 5))/\V (ndX (k i) 6))/\V (ndX (k i) 7))/\V (ndX (k i) 8))/\V (ndX (k i) 9))/\V (ndX (k i) (10:Nat)))/\V (ndX (k i) (11:Nat)))/\V (ndX (k i) (12:Nat)))/\V (ndX (k i) (13:Nat)))/\V (ndX (k i) (14:Nat)))/\V (ndX (k i) (15:Nat)))/\V (ndX (k i) (16:Nat)))/\V (ndX (k i) (17:Nat)))/\V (ndX (k i) (18:Nat)))/\V (ndX (k i) (19:Nat)))/\V (ndX (k i) (20:Nat)))/\V (ndX (k i) (21:Nat)))/\V (ndX (k i) (22:Nat)))/\V (ndX (k i) (23:Nat)))/\V (ndX (k i) (24:Nat)))/\V (ndX (k i) (25:Nat)))/\V (ndX (k i) (26:Nat)))/\V (ndX (k i) (27:Nat)))/\V (ndX (k i) (28:Nat)))/\V (ndX (k i) (29:Nat)))/\V (ndX (k i) (30:Nat)))/\V (ndX (k i) (31:Nat)))/\V (ndX (k i) (32:Nat)))/\V (ndX (k i) (33:Nat)))/\V (ndX (k i) (34:Nat)))/\V (ndX (k i) (35:Nat)))/\V (ndX (k i) (36:Nat)));let z43:=(z1/\T2 (A (z10=z10)/\T2 (True)));let z0:=(PnG.mk s z2 (Nd.grp t false x m k) ns st bs);let z41:=(A z38/\∀ i:Nat,i<ns->True/\A (z21.fin i=z0.cv i));let z19:=(A z38/\∀ i:Nat,i<ns->True/\A (z0.cv i=z0.cv i));let z14:=(PnG.mk s z2 z37 ns z0.i0 z0.i0);let z8:=(A z38/\∀ i:Nat,i<ns->(chp True (fun j:Nat=>q4 (z0.inn i j)) 9));T2 (True/\A (z22<=z35/\z35<=z35/\(↑z16:Int)*z35<=(140737488355328:Int)/\z35<=z46)/\T5 (((True/\(z9/\(A ((73:Nat)=ndT z37)/\z23/\A (m=m)/\∀ i:Nat,i<m->True/\A (ndT (k i)=ndT (k i))/\((((((((((((((((((((((((((((((((((((True/\V (ndX (k i) 0))/\V (ndX (k i) 1))/\V (ndX (k i) 2))/\V (ndX (k i) 3))/\V (ndX (k i) 4))/\V (ndX (k i) 5))/\V (ndX (k i) 6))/\V (ndX (k i) 7))/\V (ndX (k i) 8))/\V (ndX (k i) 9))/\V (ndX (k i) (10:Nat)))/\V (ndX (k i) (11:Nat)))/\V (ndX (k i) (12:Nat)))/\V (ndX (k i) (13:Nat)))/\V (ndX (k i) (14:Nat)))/\V (ndX (k i) (15:Nat)))/\V (ndX (k i) (16:Nat)))/\V (ndX (k i) (17:Nat)))/\V (ndX (k i) (18:Nat)))/\V (ndX (k i) (19:Nat)))/\V (ndX (k i) (20:Nat)))/\V (ndX (k i) (21:Nat)))/\V (ndX (k i) (22:Nat)))/\V (ndX (k i) (23:Nat)))/\V (ndX (k i) (24:Nat)))/\V (ndX (k i) (25:Nat)))/\V (ndX (k i) (26:Nat)))/\V (ndX (k i) (27:Nat)))/\V (ndX (k i) (28:Nat)))/\V (ndX (k i) (29:Nat)))/\V (ndX (k i) (30:Nat)))/\V (ndX (k i) (31:Nat)))/\V (ndX (k i) (32:Nat)))/\V (ndX (k i) (33:Nat)))/\V (ndX (k i) (34:Nat)))/\V (ndX (k i) (35:Nat)))/\V (ndX (k i) (36:Nat)))/\True/\True)/\(A (z35.toNat=ns)/\∀ i:Nat,i<ns->True/\A (false=false))/\True)/\A (CvOK (d+z16) z21))/\True/\(((A z38/\∀ i:Nat,i<ns->True/\A (z21.fin i=z21.fin i))/\A (true=true)/\True)/\A (ns<=(4294967296:Nat)))/\True/\K (!decide (z22<=bX z21.fin ns z10)) (T2 ((True/\True)/\(A z38/\∀ i:Nat,i<ns->(((((((((True/\A z4/\A (st i z10=z0.nx i z10))/\A z4/\A (st i z16=z0.nx i z16))/\A z4/\A (st i z24=z0.nx i z24))/\A z4/\A (st i z25=z0.nx i z25))/\A z4/\A (st i z26=z0.nx i z26))/\A z4/\A (st i z27=z0.nx i z27))/\A z4/\A (st i z28=z0.nx i z28))/\A z4/\A (st i z29=z0.nx i z29))/\A z4/\A (st i z30=z0.nx i z30)))/\z3/\True)) (T2 (A (z22<=z35/\z35<=z35/\(↑z34:Int)*z35<=(140737488355328:Int)/\z35<=z46)/\True/\(T6 (K (!x.iso) (T2 (True/\∃ g:Unit,A ((nbC z0).pre g)/\True/\z43/\z13/\z3/\z9/\z41/\(A (z35.toNat=ns)/\∀ i:Nat,let z48:=(i-z10);let z15:=(z10<=i/\i<z10+ns.min z35.toNat); i<ns->(((((((((True/\A z4/\A ((bif decide z15 then bs z48 z10 else z22)=z0.i0 i z10))/\A z4/\A ((bif decide z15 then bs z48 z16 else z22)=z0.i0 i z16))/\A z4/\A ((bif decide z15 then bs z48 z24 else z22)=z0.i0 i z24))/\A z4/\A ((bif decide z15 then bs z48 z25 else z22)=z0.i0 i z25))/\A z4/\A ((bif decide z15 then bs z48 z26 else z22)=z0.i0 i z26))/\A z4/\A ((bif decide z15 then bs z48 z27 else z22)=z0.i0 i z27))/\A z4/\A ((bif decide z15 then bs z48 z28 else z22)=z0.i0 i z28))/\A z4/\A ((bif decide z15 then bs z48 z29 else z22)=z0.i0 i z29))/\A z4/\A ((bif decide z15 then bs z48 z30 else z22)=z0.i0 i z30)))/\True)) (∃ g:Unit,A ((nbC z0).pre g)/\True/\z43/\z13/\z3/\z9/\z41/\(A (z35.toNat=ns)/\∀ i:Nat,i<ns->(chp True (fun j:Nat=>A z4/\A (z22=z0.i0 i j)) 9))/\True)))/\∀ g:Unit,(nbC z0).pre g->T2 (True/\((True/\(z9/\z1/\True/\True)/\(A z38/\∀ i:Nat,i<ns->(chp True (fun j:Nat=>q4 (z0.i0 i j)) 9))/\True)/\A (PtOK d z14))/\T2 (True/\(∃ g:Nat,A ((nbI z0).pre g)/\True/\(z1/\T5 (z32/\(A z17/\A (z22=(↑g:Int)))/\True))/\(A z38/\∀ i:Nat,i<ns->(((((((((True/\A z4/\A (st i z10=z0.at g i z10))/\A z4/\A (st i z16=z0.at g i z16))/\A z4/\A (st i z24=z0.at g i z24))/\A z4/\A (st i z25=z0.at g i z25))/\A z4/\A (st i z26=z0.at g i z26))/\A z4/\A (st i z27=z0.at g i z27))/\A z4/\A (st i z28=z0.at g i z28))/\A z4/\A (st i z29=z0.at g i z29))/\A z4/\A (st i z30=z0.at g i z30)))/\z3/\z9/\z19/\(A z38/\∀ i:Nat,i<ns->(((((((((True/\A z4/\A (z14.pt z37.n i z10=z0.inn i z10))/\A z4/\A (z14.pt z37.n i z16=z0.inn i z16))/\A z4/\A (z14.pt z37.n i z24=z0.inn i z24))/\A z4/\A (z14.pt z37.n i z25=z0.inn i z25))/\A z4/\A (z14.pt z37.n i z26=z0.inn i z26))/\A z4/\A (z14.pt z37.n i z27=z0.inn i z27))/\A z4/\A (z14.pt z37.n i z28=z0.inn i z28))/\A z4/\A (z14.pt z37.n i z29=z0.inn i z29))/\A z4/\A (z14.pt z37.n i z30=z0.inn i z30)))/\True)/\∀ g:Nat,let z12:=(↑g:Int);let z47:=(z0.inn z12.toNat z40=z0.inn z12.toNat z40);let z39:=(fun (j:Nat)=>bs z12.toNat (z10+j));let z36:=(z12.toNat<ns);let z33:=(z0.inn z12.toNat z40);let z42:=(q4 (aa9 z33 x.alpha));let z20:=((-9223372036854775808:Int)<=z12+(1:Int)/\z12+(1:Int)<=z46);let z18:=(z22<=z12/\z12<z35);let z11:=(MixG.mk z39 (fun (j:Nat)=>z0.inn z12.toNat (z10+j)) x.alpha);let z7:=(((((((((True/\q4 (bs z12.toNat z40))/\q4 (bs z12.toNat z52))/\q4 (bs z12.toNat z53))/\q4 (bs z12.toNat z54))/\q4 (bs z12.toNat z55))/\q4 (bs z12.toNat z56))/\q4 (bs z12.toNat z57))/\q4 (bs z12.toNat z58))/\q4 (bs z12.toNat (z10+z30)));let z6:=(Cmp.PaintG.mk z39 (fun (j:Nat)=>z0.inn z12.toNat (z10+z16+(z10+j))) (aa9 z33 x.alpha) (Blend.aa4 x.blend.toNat) false);let z5:=(Cmp.PaintG.mk z39 (fun (j:Nat)=>Sx.intOf (ak0 [Go.Value.int IntKind.u8 z22,Go.Value.int IntKind.u8 z22,Go.Value.int IntKind.u8 z22,Go.Value.int IntKind.u8 z22,Go.Value.int IntKind.u8 z22,Go.Value.int IntKind.u8 z22,Go.Value.int IntKind.u8 z22,Go.Value.int IntKind.u8 z22] (z10+j))) (aa9 z33 x.alpha) (Blend.aa4 x.blend.toNat) false); (nbI z0).pre g->True/\K (decide (z12<z35)) (True/\A z18/\A z36/\T2 (T2 (K (!z0.cv z12.toNat) (A z20/\True/\∃ (g':Nat),A ((nbI z0).pre g')/\True/\((z1/\T5 (z32/\(A z17/\A (z12+(1:Int)=(↑g':Int)))/\True))/\(A z38/\∀ i:Nat,i<ns->(((((((((True/\A z4/\A (z0.at g i z10=z0.at g' i z10))/\A z4/\A (z0.at g i z16=z0.at g' i z16))/\A z4/\A (z0.at g i z24=z0.at g' i z24))/\A z4/\A (z0.at g i z25=z0.at g' i z25))/\A z4/\A (z0.at g i z26=z0.at g' i z26))/\A z4/\A (z0.at g i z27=z0.at g' i z27))/\A z4/\A (z0.at g i z28=z0.at g' i z28))/\A z4/\A (z0.at g i z29=z0.at g' i z29))/\A z4/\A (z0.at g i z30=z0.at g' i z30)))/\z3/\z9/\z19/\z8/\True)/\A ((nbI z0).meas g'<(nbI z0).meas g)) (T6 (K (!x.iso) (T2 (T2 (A z18/\A z36/\T2 (A z18/\A z36/\T5 (((z7/\(((((((((True/\A z4/\A z47)/\q4 (z0.inn z12.toNat z52))/\q4 (z0.inn z12.toNat z53))/\q4 (z0.inn z12.toNat z54))/\q4 (z0.inn z12.toNat z55))/\q4 (z0.inn z12.toNat z56))/\q4 (z0.inn z12.toNat z57))/\q4 (z0.inn z12.toNat z58))/\q4 (z0.inn z12.toNat (z10+z30)))/\z51/\True)/\A z11.ok)/\A z18/\A z36/\A z20/\True/\∃ (g':Nat),A ((nbI z0).pre g')/\True/\((z1/\T5 (z32/\(A z17/\A (z12+(1:Int)=(↑g':Int)))/\True))/\(A z38/\∀ i:Nat,i<ns->(((((((((True/\A z4/\A ((bif decide (i=z12.toNat/\z10<=z10/\z10<z10+z34) then z11.res (z10-z10) else z0.at g i z10)=z0.at g' i z10))/\A z4/\A ((bif decide (i=z12.toNat/\z10<=z16/\z16<z10+z34) then z11.res (z16-z10) else z0.at g i z16)=z0.at g' i z16))/\A z4/\A ((bif decide (i=z12.toNat/\z10<=z24/\z24<z10+z34) then z11.res (z24-z10) else z0.at g i z24)=z0.at g' i z24))/\A z4/\A ((bif decide (i=z12.toNat/\z10<=z25/\z25<z10+z34) then z11.res (z25-z10) else z0.at g i z25)=z0.at g' i z25))/\A z4/\A ((bif decide (i=z12.toNat/\z10<=z26/\z26<z10+z34) then z11.res (z26-z10) else z0.at g i z26)=z0.at g' i z26))/\A z4/\A ((bif decide (i=z12.toNat/\z10<=z27/\z27<z10+z34) then z11.res (z27-z10) else z0.at g i z27)=z0.at g' i z27))/\A z4/\A ((bif decide (i=z12.toNat/\z10<=z28/\z28<z10+z34) then z11.res (z28-z10) else z0.at g i z28)=z0.at g' i z28))/\A z4/\A ((bif decide (i=z12.toNat/\z10<=z29/\z29<z10+z34) then z11.res (z29-z10) else z0.at g i z29)=z0.at g' i z29))/\A z4/\A ((bif decide (i=z12.toNat/\z10<=z30/\z30<z10+z34) then z11.res (z30-z10) else z0.at g i z30)=z0.at g' i z30)))/\z3/\z9/\z19/\z8/\True)/\A ((nbI z0).meas g'<(nbI z0).meas g)))))) (T2 (A z18/\True/\A z36/\T5 ((((A z4/\A z47)/\z51/\True)/\A ((z22<=z0.inn z12.toNat z40/\z0.inn z12.toNat z40<=(255:Int))/\z22<=x.alpha/\x.alpha<=(255:Int)))/\T2 (A z18/\True/\A z36/\T5 (K (decide (aa9 z33 x.alpha=z22)) (T6 (A z18/\A z36/\T6 (((z7/\((((((((True/\A z4/\A z45)/\A z4/\A z45)/\A z4/\A z45)/\A z4/\A z45)/\A z4/\A z45)/\A z4/\A z45)/\A z4/\A z45)/\A z4/\A z45)/\z42/\z31/\A (false=false)/\True)/\A z5.ok)/\A z18/\A z36/\A z20/\True/\∃ (g':Nat),A ((nbI z0).pre g')/\True/\((z1/\T5 (z32/\(A z17/\A (z12+(1:Int)=(↑g':Int)))/\True))/\(A z38/\∀ i:Nat,i<ns->(((((((((True/\A z4/\A ((bif decide (i=z12.toNat/\z10<=z10/\z10<z10+z34) then z5.res (z10-z10) else z0.at g i z10)=z0.at g' i z10))/\A z4/\A ((bif decide (i=z12.toNat/\z10<=z16/\z16<z10+z34) then z5.res (z16-z10) else z0.at g i z16)=z0.at g' i z16))/\A z4/\A ((bif decide (i=z12.toNat/\z10<=z24/\z24<z10+z34) then z5.res (z24-z10) else z0.at g i z24)=z0.at g' i z24))/\A z4/\A ((bif decide (i=z12.toNat/\z10<=z25/\z25<z10+z34) then z5.res (z25-z10) else z0.at g i z25)=z0.at g' i z25))/\A z4/\A ((bif decide (i=z12.toNat/\z10<=z26/\z26<z10+z34) then z5.res (z26-z10) else z0.at g i z26)=z0.at g' i z26))/\A z4/\A ((bif decide (i=z12.toNat/\z10<=z27/\z27<z10+z34) then z5.res (z27-z10) else z0.at g i z27)=z0.at g' i z27))/\A z4/\A ((bif decide (i=z12.toNat/\z10<=z28/\z28<z10+z34) then z5.res (z28-z10) else z0.at g i z28)=z0.at g' i z28))/\A z4/\A ((bif decide (i=z12.toNat/\z10<=z29/\z29<z10+z34) then z5.res (z29-z10) else z0.at g i z29)=z0.at g' i z29))/\A z4/\A ((bif decide (i=z12.toNat/\z10<=z30/\z30<z10+z34) then z5.res (z30-z10) else z0.at g i z30)=z0.at g' i z30)))/\z3/\z9/\z19/\z8/\True)/\A ((nbI z0).meas g'<(nbI z0).meas g)))) (T2 (T2 (A z18/\A z36/\T6 (((z7/\((((((((True/\q4 (z0.inn z12.toNat (z10+z16+z40)))/\q4 (z0.inn z12.toNat (z10+z16+z52)))/\q4 (z0.inn z12.toNat (z10+z16+z53)))/\q4 (z0.inn z12.toNat (z10+z16+z54)))/\q4 (z0.inn z12.toNat (z10+z16+z55)))/\q4 (z0.inn z12.toNat (z10+z16+z56)))/\q4 (z0.inn z12.toNat (z10+z16+z57)))/\q4 (z0.inn z12.toNat (z10+z16+z58)))/\z42/\z31/\A (false=false)/\True)/\A z6.ok)/\A z18/\A z36/\A z20/\True/\∃ (g':Nat),A ((nbI z0).pre g')/\True/\((z1/\T5 (z32/\(A z17/\A (z12+(1:Int)=(↑g':Int)))/\True))/\(A z38/\∀ i:Nat,i<ns->(((((((((True/\A z4/\A ((bif decide (i=z12.toNat/\z10<=z10/\z10<z10+z34) then z6.res (z10-z10) else z0.at g i z10)=z0.at g' i z10))/\A z4/\A ((bif decide (i=z12.toNat/\z10<=z16/\z16<z10+z34) then z6.res (z16-z10) else z0.at g i z16)=z0.at g' i z16))/\A z4/\A ((bif decide (i=z12.toNat/\z10<=z24/\z24<z10+z34) then z6.res (z24-z10) else z0.at g i z24)=z0.at g' i z24))/\A z4/\A ((bif decide (i=z12.toNat/\z10<=z25/\z25<z10+z34) then z6.res (z25-z10) else z0.at g i z25)=z0.at g' i z25))/\A z4/\A ((bif decide (i=z12.toNat/\z10<=z26/\z26<z10+z34) then z6.res (z26-z10) else z0.at g i z26)=z0.at g' i z26))/\A z4/\A ((bif decide (i=z12.toNat/\z10<=z27/\z27<z10+z34) then z6.res (z27-z10) else z0.at g i z27)=z0.at g' i z27))/\A z4/\A ((bif decide (i=z12.toNat/\z10<=z28/\z28<z10+z34) then z6.res (z28-z10) else z0.at g i z28)=z0.at g' i z28))/\A z4/\A ((bif decide (i=z12.toNat/\z10<=z29/\z29<z10+z34) then z6.res (z29-z10) else z0.at g i z29)=z0.at g' i z29))/\A z4/\A ((bif decide (i=z12.toNat/\z10<=z30/\z30<z10+z34) then z6.res (z30-z10) else z0.at g i z30)=z0.at g' i z30)))/\z3/\z9/\z19/\z8/\True)/\A ((nbI z0).meas g'<(nbI z0).meas g))))))))))))))) (T2 ((True/\True)/\(A z38/\∀ i:Nat,i<ns->(((((((((True/\A z4/\A (z0.at g i z10=z0.nx i z10))/\A z4/\A (z0.at g i z16=z0.nx i z16))/\A z4/\A (z0.at g i z24=z0.nx i z24))/\A z4/\A (z0.at g i z25=z0.nx i z25))/\A z4/\A (z0.at g i z26=z0.nx i z26))/\A z4/\A (z0.at g i z27=z0.nx i z27))/\A z4/\A (z0.at g i z28=z0.nx i z28))/\A z4/\A (z0.at g i z29=z0.nx i z29))/\A z4/\A (z0.at g i z30=z0.nx i z30)))/\z3/\True))))))))) (by kernel_rfl) ?_;simp only [chp];delta qG qI qM qS qT
  simp only [cln];have hs:∀ nd j,SVle [] [] (ndX nd j) (ndX nd j)=True:=fun nd j=>uF (SVle.refl [] [] (an3 nd j))
  have e:ndOf (lst (itL x++[.int .i64 t,mxS x false,.sl m 1 (fun a _=> .ifc (ndT (k a)) (fun _=> .ref 37 (ndX (k a))))])) = .grp t false x m k:=by rw [<-aj2]; exact aq2 _
  simp only [e,hs,lw,ud,xC,xD,xp,zf8];have hc:(lst (itL x++[.int .i64 t,mxS x false,.sl m 1 (fun a _=> .ifc (ndT (k a)) (fun _=> .ref 37 (ndX (k a))))]))=ndX (.grp t false x m k):=(aj2 _ _ _ _ _).symm;have hb':=hg.b;generalize lst (itL x++[.int .i64 t,mxS x false,.sl m 1 (fun a _=> .ifc (ndT (k a)) (fun _=> .ref 37 (ndX (k a))))])=C at *
  have hn1:(ns:Int)=s.x1-s.x0:=hb'.n;have hn2 : -8192<=s.x0:=hb'.x0;have hn3:s.x1<=8192:=hb'.x1;have hn4:0<ns:=hb'.pos;have hnd:NdOK (d+1) (.grp t false x m k):= .grp hn rfl ha hb hk;have hcv:CvOK (d+1) ⟨s,C,.grp t false x m k,ns,fun _=>false⟩:=⟨hc,hnd,hn2,hn3,hn1⟩
  have hfin:∀ i,CvG.fin ⟨s,C,.grp t false x m k,ns,fun _=>false⟩ i=PnG.cv ⟨s,C,.grp t false x m k,ns,st,bs⟩ i:=fun i=>laf _
  refine ⟨by omega,⟨rfl,hcv⟩,by omega,fun hno i hi=>?_,fun hyes=>⟨by omega,⟨fun hx=>⟨(),trivial,fun i _=>hfin i,fun i hi=>?_⟩,fun hx=>⟨(),trivial,fun i _=>hfin i,fun i hi=>?_⟩⟩,fun _ _=>?_⟩⟩
  ·have hno:PnG.nx ⟨s,C,.grp t false x m k,ns,st,bs⟩ i=st i:=bT9 (g:=⟨s,C,.grp t false x m k,ns,st,bs⟩) rfl ((hfin i).symm.trans (bP1 (n:=ns) (by simpa using hno) hi));have h0:∀ j,st i j=PnG.nx ⟨s,C,.grp t false x m k,ns,st,bs⟩ i j:=fun j=>(congrFun hno j).symm
   exact all9 h0
  ·have hx:x.iso=false:=by simpa using hx
   have h0:∀ j,(bif decide (0<=i/\i<ns.min ns) then bs (i-0) j else 0)=PnG.i0 ⟨s,C,.grp t false x m k,ns,st,bs⟩ i j:=fun j=>by
    have hi0:PnG.i0 ⟨s,C,.grp t false x m k,ns,st,bs⟩ i=bs i:=lb (show ¬ x.iso=true by rw [hx]; exact xW);have hmin:i<Nat.min ns ns:=by rw [show Nat.min ns ns=ns from Nat.min_self ns]; exact hi
    rw [lk ⟨lm _,hmin⟩,hi0];rfl
   exact all9 h0
  ·have hx:x.iso=true:=by simpa using hx
   have h0:∀ j,(0:Int)=PnG.i0 ⟨s,C,.grp t false x m k,ns,st,bs⟩ i j:=fun j=>(congrFun (show PnG.i0 ⟨s,C,.grp t false x m k,ns,st,bs⟩ i=fun _=>0 from lg hx) j).symm
   exact all9 h0
  have hu:=fun i (hi:i<ns)=>bO3 (g:=⟨s,C,.grp t false x m k,ns,st,bs⟩) hb' hk hi
  have hbd:BdOK ⟨s,C,.grp t false x m k,ns,PnG.i0 ⟨s,C,.grp t false x m k,ns,st,bs⟩,PnG.i0 ⟨s,C,.grp t false x m k,ns,st,bs⟩⟩:=⟨hb'.y,hn2,hn3,hn1,hn4,fun i hi=>by5 hb' hi,fun i hi=>by5 hb' hi⟩
  refine ⟨⟨hc,rfl,hn,hk,hbd⟩,⟨0,lm _,rfl,fun i _=>all9 fun j=>(congrFun (lb (lj i)) j).symm,fun i _=>all9 fun j=>rfl⟩,fun q hq=>⟨fun hlt=>?_,fun hge i hi=>?_⟩⟩
  ·have hlt:q<ns:=by omega
   have hld:(fun j=>bs q j)=bs q:=rfl;have hbq:isU9 (bs q):=hb'.bs q hlt;have hiq:=hu q hlt;have hmm:ns-(q+1)<ns-q:=by omega
   simp only [hld];refine ⟨by omega,hlt,fun hm=>⟨by omega,q+1,hlt,⟨by simp,fun i _=>all9 fun j=>congrFun (bw9 (g:=⟨s,C,.grp t false x m k,ns,st,bs⟩) rfl (by simpa using hm) i) j⟩,hmm⟩,fun hm=>⟨fun hx=>?_,fun hx=>?_⟩⟩
   ·have hm:PnG.cv ⟨s,C,.grp t false x m k,ns,st,bs⟩ q=true:=by simpa using hm
    have hx:x.iso=false:=by simpa using hx
    have hV:(MixG.mk (bs q) (PnG.inn ⟨s,C,.grp t false x m k,ns,st,bs⟩ q) x.alpha).res=PnG.nx ⟨s,C,.grp t false x m k,ns,st,bs⟩ q:=(bN5 (g:=⟨s,C,.grp t false x m k,ns,st,bs⟩) rfl hm hx).symm;have st9:=fun i=>aB0 hV i
    exact ⟨by omega,hlt,by omega,hlt,⟨⟨hbq,hiq⟩,ha⟩,by omega,hlt,by omega,q+1,hlt,⟨by simp,fun i hi=>⟨⟨⟨⟨⟨⟨⟨⟨st9 i 0,st9 i 1⟩,st9 i 2⟩,st9 i 3⟩,st9 i 4⟩,st9 i 5⟩,st9 i 6⟩,st9 i 7⟩,st9 i 8⟩⟩,hmm⟩
   ·have hm:PnG.cv ⟨s,C,.grp t false x m k,ns,st,bs⟩ q=true:=by simpa using hm
    have hx:x.iso=true:=by simpa using hx
    have hV:isoC (bs q) (PnG.inn ⟨s,C,.grp t false x m k,ns,st,bs⟩ q) x=PnG.nx ⟨s,C,.grp t false x m k,ns,st,bs⟩ q:=(bN6 (g:=⟨s,C,.grp t false x m k,ns,st,bs⟩) rfl hm hx).symm;have hok:=ba8 hbq hiq ha hb;unfold isoC at hV;refine ⟨by omega,hlt,⟨hiq 0,ha⟩,by omega,hlt,fun hz=>?_,fun hz=>?_⟩
    ·rw [lg hz] at hV hok;have st9:=fun i=>aB0 hV i
     exact ⟨by omega,hlt,hok,by omega,hlt,by omega,q+1,hlt,⟨by simp,fun i hi=>⟨⟨⟨⟨⟨⟨⟨⟨st9 i 0,st9 i 1⟩,st9 i 2⟩,st9 i 3⟩,st9 i 4⟩,st9 i 5⟩,st9 i 6⟩,st9 i 7⟩,st9 i 8⟩⟩,hmm⟩
    ·rw [lb hz] at hV hok;have st9:=fun i=>aB0 hV i
     exact ⟨by omega,hlt,hok,by omega,hlt,by omega,q+1,hlt,⟨by simp,fun i hi=>⟨⟨⟨⟨⟨⟨⟨⟨st9 i 0,st9 i 1⟩,st9 i 2⟩,st9 i 3⟩,st9 i 4⟩,st9 i 5⟩,st9 i 6⟩,st9 i 7⟩,st9 i 8⟩⟩,hmm⟩
  ·have hq:q<=ns:=hq;have h0:∀ j,PnG.at ⟨s,C,.grp t false x m k,ns,st,bs⟩ q i j=PnG.nx ⟨s,C,.grp t false x m k,ns,st,bs⟩ i j:=fun j=>congrFun (lg (by omega)) j
   exact all9 h0
end Lpe
set_option linter.unusedSimpArgs false
set_option linter.unusedVariables false
namespace Lpf
open Go.RowKit Sx Num Aff Afi Img Imh Imp Imq Rga Blend Ble Lsg Lta Lrd Lri Luc Lck Lgr Lcs Lst Lch Lcl Lgp Lsc Cmp Lpm Lpa Lpr Lbt Lpn Lpc Lpd Lpe
set_option maxRecDepth 100000
noncomputable def ptT (g:PnG) (i:Nat):Tmps:=[(3,.own 1 0),(5,.own 2 0),(6,.own 3 0),(22,kidS g.nd.n g.nd.k),(23,.int .i64 g.nd.n),(24,.int .i64 i)]
def ptO (g:PnG) (kn:Bool) (i:Nat):List SO:=match kn with
 | false=>[stR g.ns (g.pt i),.cells 3 (lst (stL g.s)) TRp,.cells 1 (lst [.osl 0 0]) TSs,.cells 1 (lst [.osl 0 0]) TSs]
 | true=>[stR g.ns (g.pt i),.cells 3 (lst (stL g.s)) TRp,.cells 1 (lst [.osl 0 0]) TSs,.cells 1 (lst [.osl 4 0]) TSs,stR g.ns g.st]
noncomputable def ptI (g:PnG):Inv:=⟨Nat,fun i=>i<=g.nd.n,fun i=>⟨ptT g i,ptO g g.nd.x.knock i⟩,fun i=>g.nd.n-i⟩
structure FmG where
 t:Nat
 x:It
noncomputable def mbI (d:Nat) (g:PnG) (i:Nat):Inv:=⟨Nd,fun nd=>g.nd.k i=nd/\NdOK d nd,fun nd=>⟨(28,.ifc (ndT nd) (fun _=> .ref 37 (ndX nd)))::ptT g i,ptO g g.nd.x.knock i⟩,fun _=>0⟩
noncomputable def mbF (g:PnG) (i:Nat):Inv:=⟨FmG,fun m=>g.nd.k i = .fill m.t m.x/\FillOK m.x/\Vr m.x.nr m.x.runs,fun m=>⟨(28,.ifc TPf (fun _=> .ref 37 (fcS m.t m.x (srcX m.x.src))))::ptT g i,ptO g g.nd.x.knock i⟩,fun _=>0⟩
noncomputable def mbJ (d:Nat) (g:PnG) (i:Nat):Inv:=⟨Nd,fun nd=>(g.nd.k i=nd/\NdOK d nd)/\ndT nd=TPg,fun nd=>⟨(28,.ifc TPg (fun _=> .ref 37 (ndX nd)))::ptT g i,ptO g g.nd.x.knock i⟩,fun _=>0⟩
theorem bz1 (d:Nat) (g:PnG) (i:Nat):ak5 49 1 (mbI d g i) [mbF g i,mbJ d g i]:=by
 rintro nd ⟨h1,h2⟩ w0 X0 a w _ h;have h1:g.nd.k i=nd:=h1;have h2:NdOK d nd:=h2;have h:StR w0 X0 49 ⟨(28,.ifc (ndT nd) (fun _=> .ref 37 (ndX nd)))::ptT g i,ptO g g.nd.x.knock i⟩ a w:=h;cases h2 with
 | @fill _ t x hf hv=>
  rw [aF8] at h;exact ⟨mbF g i,lO,⟨t,x⟩,⟨h1,hf,hv⟩,h⟩
 | grp hn hm ha hb hk=>
  exact ⟨mbJ _ g i,lW _ lO,_,⟨⟨h1,.grp hn hm ha hb hk⟩,rfl⟩,h⟩
noncomputable def spPk (d:Nat) (kn:Bool):FSpec:=ac3 41 [.arg 2] (γ:=PnG)
 (fun l o=>match l with | [.agg _ s,r,_]=>some ⟨stD s,ax0 r,ndOf (ax0 r),aI4 (o.getD 0 .dead),stFD (o.getD 0 .dead),stFD (o.getD 0 .dead)⟩ | _=>none)
 (fun g=>[stS g.s,.ref 37 g.c,.osl 0 0]) (fun g=>[stR g.ns g.st]) (fun g=>PtOK d g/\g.nd.x.knock=kn) (fun _=> .tup 0 (lst [])) (fun g=>[stR g.ns (g.pt g.nd.n)])
set_option maxHeartbeats 1000000 in
theorem b24 {d:Nat}(ha:aa2 Tryz.prog (spNa d)):aa2 Tryz.prog (spPk d false):=by
 refine smW (specs:=[spRa,spNa d]) (⟨ok_Ra,ha,trivial⟩) Tryz.func41 (fun g=>(⟨[(5,.nest (ptI g) (fun i=>[(5000008,.hand (mbI d g i) [mbF g i,mbJ d g i])]))],[]⟩:Ann)) true ?_;rintro ⟨s,c,nd,ns,st,bs⟩ ⟨hg,hkn⟩;have hc:c=ndX nd:=hg.c;cases nd with
 | fill t x=>exact absurd (show TPf=TPg from hg.isg) (by decide)
 | grp t mx x m k=>
  rw [aj2] at hc;subst hc;obtain ⟨kind,nr,runs,src,al,bl,ov,iso,kn⟩:=x;have hkn:kn=false:=hkn;subst hkn;refine ab2 (B:=let V:=fun p:SV=>SVle [] [] p p;let K:=IntKind.i64;let A:=Sx.Ask;let z25:=(35:Nat);let z23:=(8:Nat);let z22:=(7:Nat);let z21:=(6:Nat);let z20:=(5:Nat);let z19:=(4:Nat);let z18:=(3:Nat);let z17:=(2:Nat);let z16:=(1:Nat);let z15:=(0:Nat);let z14:=(Lsg.It.mk kind nr runs src al bl ov iso false);let z13:=(True/\True);let z10:=(z15=z15);let z9:=(K=K);let q9:=fun p:Int=>A z9/\A (p=p);let z5:=(IntKind.u8=IntKind.u8);let q5:=fun p:Int=>A z5/\A (p=p);let z4:=(((True/\q9 s.y)/\q9 s.x0)/\q9 s.x1);let z1:=(Nd.grp t mx z14 m k);let z27:=(↑z1.n:Int);let z12:=(q9 z27);let z2:=(A (z1.n=z1.n)/\∀ i:Nat,i<z1.n->True/\A (ndT (z1.k i)=ndT (z1.k i))/\((((((((((((((((((((((((((((((((((((True/\V (ndX (z1.k i) 0))/\V (ndX (z1.k i) 1))/\V (ndX (z1.k i) 2))/\V (ndX (z1.k i) 3))/\V (ndX (z1.k i) 4))/\V (ndX (z1.k i) 5))/\V (ndX (z1.k i) 6))/\V (ndX (z1.k i) 7))/\V (ndX (z1.k i) 8))/\V (ndX (z1.k i) (9:Nat)))/\V (ndX (z1.k i) (10:Nat)))/\V (ndX (z1.k i) (11:Nat)))/\V (ndX (z1.k i) (12:Nat)))/\V (ndX (z1.k i) (13:Nat)))/\V (ndX (z1.k i) (14:Nat)))/\V (ndX (z1.k i) (15:Nat)))/\V (ndX (z1.k i) (16:Nat)))/\V (ndX (z1.k i) (17:Nat)))/\V (ndX (z1.k i) (18:Nat)))/\V (ndX (z1.k i) (19:Nat)))/\V (ndX (z1.k i) (20:Nat)))/\V (ndX (z1.k i) (21:Nat)))/\V (ndX (z1.k i) (22:Nat)))/\V (ndX (z1.k i) (23:Nat)))/\V (ndX (z1.k i) (24:Nat)))/\V (ndX (z1.k i) (25:Nat)))/\V (ndX (z1.k i) (26:Nat)))/\V (ndX (z1.k i) (27:Nat)))/\V (ndX (z1.k i) (28:Nat)))/\V (ndX (z1.k i) (29:Nat)))/\V (ndX (z1.k i) (30:Nat)))/\V (ndX (z1.k i) (31:Nat)))/\V (ndX (z1.k i) (32:Nat)))/\V (ndX (z1.k i) (33:Nat)))/\V (ndX (z1.k i) (34:Nat)))/\V (ndX (z1.k i) 35))/\V (ndX (z1.k i) (36:Nat)));let z0:=(PnG.mk s (lst (itL z14++[SV.int K t,mxS z14 mx,SV.sl m z16 fun (a x:Nat)=>SV.ifc (ndT (k a)) fun (x:Nat)=>SV.ref (37:Nat) (ndX (k a))])) z1 ns st bs);True/\True/\True/\True/\True/\True/\True/\True/\True/\True/\True/\True/\True/\True/\True/\True/\(∃ g:Nat,A ((ptI z0).pre g)/\True/\(A z10/\A z10/\A z10/\(A (m=z1.n)/\∀ i:Nat,i<z1.n->True/\A (ndT (k i)=ndT (z1.k i))/\((((((((((((((((((((((((((((((((((((True/\SVle [] [] (ndX (k i) z15) (ndX (z1.k i) z15))/\SVle [] [] (ndX (k i) z16) (ndX (z1.k i) z16))/\SVle [] [] (ndX (k i) z17) (ndX (z1.k i) z17))/\SVle [] [] (ndX (k i) z18) (ndX (z1.k i) z18))/\SVle [] [] (ndX (k i) z19) (ndX (z1.k i) z19))/\SVle [] [] (ndX (k i) z20) (ndX (z1.k i) z20))/\SVle [] [] (ndX (k i) z21) (ndX (z1.k i) z21))/\SVle [] [] (ndX (k i) z22) (ndX (z1.k i) z22))/\SVle [] [] (ndX (k i) z23) (ndX (z1.k i) z23))/\SVle [] [] (ndX (k i) (9:Nat)) (ndX (z1.k i) (9:Nat)))/\SVle [] [] (ndX (k i) (10:Nat)) (ndX (z1.k i) (10:Nat)))/\SVle [] [] (ndX (k i) (11:Nat)) (ndX (z1.k i) (11:Nat)))/\SVle [] [] (ndX (k i) (12:Nat)) (ndX (z1.k i) (12:Nat)))/\SVle [] [] (ndX (k i) (13:Nat)) (ndX (z1.k i) (13:Nat)))/\SVle [] [] (ndX (k i) (14:Nat)) (ndX (z1.k i) (14:Nat)))/\SVle [] [] (ndX (k i) (15:Nat)) (ndX (z1.k i) (15:Nat)))/\SVle [] [] (ndX (k i) (16:Nat)) (ndX (z1.k i) (16:Nat)))/\SVle [] [] (ndX (k i) (17:Nat)) (ndX (z1.k i) (17:Nat)))/\SVle [] [] (ndX (k i) (18:Nat)) (ndX (z1.k i) (18:Nat)))/\SVle [] [] (ndX (k i) (19:Nat)) (ndX (z1.k i) (19:Nat)))/\SVle [] [] (ndX (k i) (20:Nat)) (ndX (z1.k i) (20:Nat)))/\SVle [] [] (ndX (k i) (21:Nat)) (ndX (z1.k i) (21:Nat)))/\SVle [] [] (ndX (k i) (22:Nat)) (ndX (z1.k i) (22:Nat)))/\SVle [] [] (ndX (k i) (23:Nat)) (ndX (z1.k i) (23:Nat)))/\SVle [] [] (ndX (k i) (24:Nat)) (ndX (z1.k i) (24:Nat)))/\SVle [] [] (ndX (k i) (25:Nat)) (ndX (z1.k i) (25:Nat)))/\SVle [] [] (ndX (k i) (26:Nat)) (ndX (z1.k i) (26:Nat)))/\SVle [] [] (ndX (k i) (27:Nat)) (ndX (z1.k i) (27:Nat)))/\SVle [] [] (ndX (k i) (28:Nat)) (ndX (z1.k i) (28:Nat)))/\SVle [] [] (ndX (k i) (29:Nat)) (ndX (z1.k i) (29:Nat)))/\SVle [] [] (ndX (k i) (30:Nat)) (ndX (z1.k i) (30:Nat)))/\SVle [] [] (ndX (k i) (31:Nat)) (ndX (z1.k i) (31:Nat)))/\SVle [] [] (ndX (k i) (32:Nat)) (ndX (z1.k i) (32:Nat)))/\SVle [] [] (ndX (k i) (33:Nat)) (ndX (z1.k i) (33:Nat)))/\SVle [] [] (ndX (k i) (34:Nat)) (ndX (z1.k i) (34:Nat)))/\SVle [] [] (ndX (k i) z25) (ndX (z1.k i) z25))/\SVle [] [] (ndX (k i) (36:Nat)) (ndX (z1.k i) (36:Nat)))/\(A z9/\A ((↑m:Int)=z27))/\(A z9/\A ((0:Int)=(↑g:Int)))/\True)/\(A (ns=ns)/\∀ i:Nat,i<ns->(((((((((True/\A z5/\A (st i z15=z0.pt g i z15))/\A z5/\A (st i z16=z0.pt g i z16))/\A z5/\A (st i z17=z0.pt g i z17))/\A z5/\A (st i z18=z0.pt g i z18))/\A z5/\A (st i z19=z0.pt g i z19))/\A z5/\A (st i z20=z0.pt g i z20))/\A z5/\A (st i z21=z0.pt g i z21))/\A z5/\A (st i z22=z0.pt g i z22))/\A z5/\A (st i z23=z0.pt g i z23)))/\z4/\z13/\z13/\True)/\∀ g:Nat,let z24:=(↑g:Int);let z11:=((-9223372036854775808:Int)<=z24+(1:Int)/\z24+(1:Int)<=(9223372036854775807:Int));let z6:=(z1.k z24.toNat);let z3:=(A (ns=ns)/\∀ i:Nat,i<ns->(chp True (fun j:Nat=>q5 (z0.pt g i j)) 9)); (ptI z0).pre g->True/\Br (decide (z24<z27)) (A ((0:Int)<=z24/\z24<z27)/\True/\True/\True/\ak5 (nat_lit 49) (nat_lit 1) (mbI d z0 g) [mbF z0 g,mbJ d z0 g]/\(∃ g_1:Nd,A ((mbI d z0 g).pre g_1)/\True/\((A (ndT z6=ndT g_1)/\((((((((((((((((((((((((((((((((((((True/\SVle [] [] (ndX z6 z15) (ndX g_1 z15))/\SVle [] [] (ndX z6 z16) (ndX g_1 z16))/\SVle [] [] (ndX z6 z17) (ndX g_1 z17))/\SVle [] [] (ndX z6 z18) (ndX g_1 z18))/\SVle [] [] (ndX z6 z19) (ndX g_1 z19))/\SVle [] [] (ndX z6 z20) (ndX g_1 z20))/\SVle [] [] (ndX z6 z21) (ndX g_1 z21))/\SVle [] [] (ndX z6 z22) (ndX g_1 z22))/\SVle [] [] (ndX z6 z23) (ndX g_1 z23))/\SVle [] [] (ndX z6 (9:Nat)) (ndX g_1 (9:Nat)))/\SVle [] [] (ndX z6 (10:Nat)) (ndX g_1 (10:Nat)))/\SVle [] [] (ndX z6 (11:Nat)) (ndX g_1 (11:Nat)))/\SVle [] [] (ndX z6 (12:Nat)) (ndX g_1 (12:Nat)))/\SVle [] [] (ndX z6 (13:Nat)) (ndX g_1 (13:Nat)))/\SVle [] [] (ndX z6 (14:Nat)) (ndX g_1 (14:Nat)))/\SVle [] [] (ndX z6 (15:Nat)) (ndX g_1 (15:Nat)))/\SVle [] [] (ndX z6 (16:Nat)) (ndX g_1 (16:Nat)))/\SVle [] [] (ndX z6 (17:Nat)) (ndX g_1 (17:Nat)))/\SVle [] [] (ndX z6 (18:Nat)) (ndX g_1 (18:Nat)))/\SVle [] [] (ndX z6 (19:Nat)) (ndX g_1 (19:Nat)))/\SVle [] [] (ndX z6 (20:Nat)) (ndX g_1 (20:Nat)))/\SVle [] [] (ndX z6 (21:Nat)) (ndX g_1 (21:Nat)))/\SVle [] [] (ndX z6 (22:Nat)) (ndX g_1 (22:Nat)))/\SVle [] [] (ndX z6 (23:Nat)) (ndX g_1 (23:Nat)))/\SVle [] [] (ndX z6 (24:Nat)) (ndX g_1 (24:Nat)))/\SVle [] [] (ndX z6 (25:Nat)) (ndX g_1 (25:Nat)))/\SVle [] [] (ndX z6 (26:Nat)) (ndX g_1 (26:Nat)))/\SVle [] [] (ndX z6 (27:Nat)) (ndX g_1 (27:Nat)))/\SVle [] [] (ndX z6 (28:Nat)) (ndX g_1 (28:Nat)))/\SVle [] [] (ndX z6 (29:Nat)) (ndX g_1 (29:Nat)))/\SVle [] [] (ndX z6 (30:Nat)) (ndX g_1 (30:Nat)))/\SVle [] [] (ndX z6 (31:Nat)) (ndX g_1 (31:Nat)))/\SVle [] [] (ndX z6 (32:Nat)) (ndX g_1 (32:Nat)))/\SVle [] [] (ndX z6 (33:Nat)) (ndX g_1 (33:Nat)))/\SVle [] [] (ndX z6 (34:Nat)) (ndX g_1 (34:Nat)))/\SVle [] [] (ndX z6 z25) (ndX g_1 z25))/\SVle [] [] (ndX z6 (36:Nat)) (ndX g_1 (36:Nat)))/\A z10/\A z10/\A z10/\z2/\z12/\(q9 z24)/\True)/\z3/\z4/\z13/\z13/\True)/\(∀ h:FmG,let z8:=(RcG.mk (↑h.t:Int).toNat h.x s ns (z0.pt g) (z0.pt g)); (mbF z0 g).pre h->True/\True/\True/\True/\True/\True/\True/\True/\True/\True/\True/\True/\((True/\(z4/\(A (h.x.nr=h.x.nr)/\∀ i:Nat,let z26:=(h.x.runs i); i<h.x.nr->(((True/\q9 z26.y)/\q9 z26.x0)/\q9 z26.x1))/\(A ((63:Nat)=(63:Go.FuncId))/\(((True/\A z10)/\A z10)/\A z10)/\A z10)/\True)/\(True/\(((qT True h.x h.x)/\A z9/\A ((↑h.t:Int)=(↑(↑h.t:Int).toNat:Int)))/\SVle [] [] (fcS h.t h.x (srcX h.x.src) z25) (fcS (↑h.t:Int).toNat h.x (srcX h.x.src) z25))/\A ((86:Go.FuncId)=(86:Go.FuncId))/\True/\True/\A ((112:Go.FuncId)=(112:Go.FuncId))/\True/\True/\A (Blend.aa4 h.x.blend.toNat=Blend.aa4 h.x.blend.toNat)/\True)/\z4/\z13/\z13/\z3/\True)/\A (RcOK z8/\z0.pt g=z0.pt g))/\A z11/\True/\∃ (g':Nat),A ((ptI z0).pre g')/\True/\((A z10/\A z10/\A z10/\z2/\z12/\(A z9/\A (z24+(1:Int)=(↑g':Int)))/\True)/\(A (ns=ns)/\∀ i:Nat,i<ns->(((((((((True/\A z5/\A (z8.at h.x.nr i z15=z0.pt g' i z15))/\A z5/\A (z8.at h.x.nr i z16=z0.pt g' i z16))/\A z5/\A (z8.at h.x.nr i z17=z0.pt g' i z17))/\A z5/\A (z8.at h.x.nr i z18=z0.pt g' i z18))/\A z5/\A (z8.at h.x.nr i z19=z0.pt g' i z19))/\A z5/\A (z8.at h.x.nr i z20=z0.pt g' i z20))/\A z5/\A (z8.at h.x.nr i z21=z0.pt g' i z21))/\A z5/\A (z8.at h.x.nr i z22=z0.pt g' i z22))/\A z5/\A (z8.at h.x.nr i z23=z0.pt g' i z23)))/\z4/\z13/\z13/\True)/\A ((ptI z0).meas g'<(ptI z0).meas g))/\(∀ h:Nd,let z7:=(PnG.mk s (ndX h) (ndOf (ndX h)) ns (z0.pt g) (z0.pt g)); (mbJ d z0 g).pre h->True/\True/\True/\True/\True/\True/\True/\True/\True/\True/\True/\((True/\(z4/\(qV True (ndX h) (ndX h))/\True/\True/\True)/\z3/\True)/\A (NsOK d z7/\z0.pt g=z0.pt g))/\A z11/\True/\∃ (g':Nat),A ((ptI z0).pre g')/\True/\((A z10/\A z10/\A z10/\z2/\z12/\(A z9/\A (z24+(1:Int)=(↑g':Int)))/\True)/\(A (ns=ns)/\∀ i:Nat,i<ns->(((((((((True/\A z5/\A (z7.nx i z15=z0.pt g' i z15))/\A z5/\A (z7.nx i z16=z0.pt g' i z16))/\A z5/\A (z7.nx i z17=z0.pt g' i z17))/\A z5/\A (z7.nx i z18=z0.pt g' i z18))/\A z5/\A (z7.nx i z19=z0.pt g' i z19))/\A z5/\A (z7.nx i z20=z0.pt g' i z20))/\A z5/\A (z7.nx i z21=z0.pt g' i z21))/\A z5/\A (z7.nx i z22=z0.pt g' i z22))/\A z5/\A (z7.nx i z23=z0.pt g' i z23)))/\z4/\z13/\z13/\True)/\A ((ptI z0).meas g'<(ptI z0).meas g))/\True) (True/\True/\z13/\(A (ns=ns)/\∀ i:Nat,i<ns->(((((((((True/\A z5/\A (z0.pt g i z15=z0.pt z1.n i z15))/\A z5/\A (z0.pt g i z16=z0.pt z1.n i z16))/\A z5/\A (z0.pt g i z17=z0.pt z1.n i z17))/\A z5/\A (z0.pt g i z18=z0.pt z1.n i z18))/\A z5/\A (z0.pt g i z19=z0.pt z1.n i z19))/\A z5/\A (z0.pt g i z20=z0.pt z1.n i z20))/\A z5/\A (z0.pt g i z21=z0.pt z1.n i z21))/\A z5/\A (z0.pt g i z22=z0.pt z1.n i z22))/\A z5/\A (z0.pt g i z23=z0.pt z1.n i z23)))/\True)) (by kernel_rfl) ?_;simp only [chp];delta qG qI qM qS qT qV
  simp only [cln];have hs:∀ nd j,SVle [] [] (ndX nd j) (ndX nd j)=True:=fun nd j=>uF (SVle.refl [] [] (an3 nd j))
  have hs2:∀ (t:Nat) (x:It),SVle [] [] (fcS t x (srcX x.src) 35) (fcS t x (srcX x.src) 35)=True:=fun t x=>uF (SVle.refl [] [] (aw7 x.src))
  simp only [Nd.n,Nd.k,aq2,hs,hs2,lw,ud,xC,xD,xp];generalize lst (itL _++_)=C at *
  generalize hX:It.mk kind nr runs src al bl ov iso false=X at *
  have hkn:X.knock=false:=by rw [<-hX]
  have hb':=hg.b;have hn1:(ns:Int)=s.x1-s.x0:=hb'.n;have hn2 : -8192<=s.x0:=hb'.x0;have hn3:s.x1<=8192:=hb'.x1;have hn4:0<ns:=hb'.pos;have hm:m<=4294967296:=hg.n;have hk:∀ a,a<m->NdOK d (k a):=hg.k;have hst:∀ i,i<ns->isU9 (st i):=hb'.st;have hpu:∀ q,q<=m->∀ i,i<ns->isU9 (PnG.pt ⟨s,C,.grp t mx X m k,ns,st,bs⟩ q i):=fun q hq i hi=>aT3 hk (bX2 hb' hi) (hst i hi) hq
  have hpt:∀ q i,PnG.pt ⟨s,C,.grp t mx X m k,ns,st,bs⟩ (q+1) i=(k q).pnt (s.x0+i) s.y ((PnG.pt ⟨s,C,.grp t mx X m k,ns,st,bs⟩ q) i) (PnG.pt ⟨s,C,.grp t mx X m k,ns,st,bs⟩ q i):=fun q i=>by
   have h1:PnG.pt ⟨s,C,.grp t mx X m k,ns,st,bs⟩ (q+1) i=(k q).pnt (s.x0+i) s.y (if X.knock=true then st i else PnG.pt ⟨s,C,.grp t mx X m k,ns,st,bs⟩ q i) (PnG.pt ⟨s,C,.grp t mx X m k,ns,st,bs⟩ q i):=rfl;rw [h1,hkn];rfl
  refine ⟨⟨0,lm _,rfl,fun i _=>all9 fun j=>rfl⟩,fun q hq=>?_⟩;have hq:q<=m:=hq;refine ⟨fun hlt=>?_,fun hge i hi=>?_⟩
  ·have hlt:q<m:=by omega
   have hu:=hpu q hq;have hbu:∀ i,i<ns->isU9 ((PnG.pt ⟨s,C,.grp t mx X m k,ns,st,bs⟩ q) i):=hu;have hmm:m-(q+1)<m-q:=by omega
   refine ⟨by omega,bz1 _ _ _,⟨k q,⟨rfl,hk q hlt⟩,rfl,by simp only [hs,ud]⟩,fun h hh=>?_,fun h hh=>?_⟩
   ·obtain ⟨x,hx⟩:∃ x,x=h.x:=⟨_,rfl⟩
    have h1:k q = .fill h.t h.x:=hh.1;have hf:FillOK h.x:=hh.2.1;have hv:Vr h.x.nr h.x.runs:=hh.2.2;have e:∀ i,RcG.at ⟨h.t,h.x,s,ns,PnG.pt ⟨s,C,.grp t mx X m k,ns,st,bs⟩ q,(PnG.pt ⟨s,C,.grp t mx X m k,ns,st,bs⟩ q)⟩ h.x.nr i=PnG.pt ⟨s,C,.grp t mx X m k,ns,st,bs⟩ (q+1) i:=fun i=>by
     rw [hpt q i,h1];rfl
    have hrc:RcOK ⟨h.t,h.x,s,ns,PnG.pt ⟨s,C,.grp t mx X m k,ns,st,bs⟩ q,(PnG.pt ⟨s,C,.grp t mx X m k,ns,st,bs⟩ q)⟩:=⟨hf,hv,hb'.y,hn2,hn3,hn1,hu,hbu⟩
    exact ⟨hrc,by omega,q+1,hlt,⟨by simp,fun i hi=>all9 fun j=>congrFun (e i) j⟩,hmm⟩
   ·have h1:k q=h:=hh.1.1;have h2:NdOK d h:=hh.1.2;have h3:ndT h=TPg:=hh.2;have e:∀ i,PnG.nx ⟨s,ndX h,h,ns,PnG.pt ⟨s,C,.grp t mx X m k,ns,st,bs⟩ q,(PnG.pt ⟨s,C,.grp t mx X m k,ns,st,bs⟩ q)⟩ i=PnG.pt ⟨s,C,.grp t mx X m k,ns,st,bs⟩ (q+1) i:=fun i=>by
     rw [hpt q i,h1];rfl
    have hno:NsOK d ⟨s,ndX h,h,ns,PnG.pt ⟨s,C,.grp t mx X m k,ns,st,bs⟩ q,(PnG.pt ⟨s,C,.grp t mx X m k,ns,st,bs⟩ q)⟩:=⟨rfl,h3,h2,hb'.y,hn2,hn3,hn1,hn4,hu,hbu⟩
    exact ⟨hno,by omega,q+1,hlt,⟨by simp,fun i hi=>all9 fun j=>congrFun (e i) j⟩,hmm⟩
  ·have h0:∀ j,PnG.pt ⟨s,C,.grp t mx X m k,ns,st,bs⟩ q i j=PnG.pt ⟨s,C,.grp t mx X m k,ns,st,bs⟩ m i j:=fun j=>by
    have:q=m:=by omega
    rw [this]
   exact all9 h0
set_option maxHeartbeats 1000000 in
theorem b23 {d:Nat}(hb:aa2 Tryz.prog (spNb d)):aa2 Tryz.prog (spPk d true):=by
 refine smW (specs:=[b02,spRb,spNb d]) (⟨b38,ok_Rb,hb,trivial⟩) Tryz.func41 (fun g=>(⟨[(5,.nest (ptI g) (fun i=>[(5000008,.hand (mbI d g i) [mbF g i,mbJ d g i])]))],[]⟩:Ann)) true ?_;rintro ⟨s,c,nd,ns,st,bs⟩ ⟨hg,hkn⟩;have hc:c=ndX nd:=hg.c;cases nd with
 | fill t x=>exact absurd (show TPf=TPg from hg.isg) (by decide)
 | grp t mx x m k=>
  rw [aj2] at hc;subst hc;obtain ⟨kind,nr,runs,src,al,bl,ov,iso,kn⟩:=x;have hkn:kn=true:=hkn;subst hkn;refine ab2 (B:=let T11:=fun p:Prop=>True/\True/\True/\True/\True/\True/\True/\True/\True/\True/\True/\p;let V:=fun p:SV=>SVle [] [] p p;let K:=IntKind.i64;let A:=Sx.Ask;let z26:=(35:Nat);let z24:=(Lsg.It.mk kind nr runs src al bl ov iso true);let z23:=(8:Nat);let z22:=(7:Nat);let z21:=(6:Nat);let z20:=(5:Nat);let z19:=(4:Nat);let z18:=(3:Nat);let z17:=(2:Nat);let z16:=(True/\True);let z15:=(1:Nat);let z13:=(0:Nat);let z11:=(z13=z13);let z10:=(K=K);let q10:=fun p:Int=>A z10/\A (p=p);let z6:=(((True/\q10 s.y)/\q10 s.x0)/\q10 s.x1);let z5:=(IntKind.u8=IntKind.u8);let q5:=fun p:Int=>A z5/\A (p=p);let z3:=(A (ns=ns)/\∀ i:Nat,i<ns->(chp True (fun j:Nat=>q5 (st i j)) 9));let z1:=(Nd.grp t mx z24 m k);let z28:=(↑z1.n:Int);let z14:=(q10 z28);let z2:=(A (z1.n=z1.n)/\∀ i:Nat,i<z1.n->True/\A (ndT (z1.k i)=ndT (z1.k i))/\((((((((((((((((((((((((((((((((((((True/\V (ndX (z1.k i) 0))/\V (ndX (z1.k i) 1))/\V (ndX (z1.k i) 2))/\V (ndX (z1.k i) 3))/\V (ndX (z1.k i) 4))/\V (ndX (z1.k i) 5))/\V (ndX (z1.k i) 6))/\V (ndX (z1.k i) 7))/\V (ndX (z1.k i) 8))/\V (ndX (z1.k i) (9:Nat)))/\V (ndX (z1.k i) (10:Nat)))/\V (ndX (z1.k i) (11:Nat)))/\V (ndX (z1.k i) (12:Nat)))/\V (ndX (z1.k i) (13:Nat)))/\V (ndX (z1.k i) (14:Nat)))/\V (ndX (z1.k i) (15:Nat)))/\V (ndX (z1.k i) (16:Nat)))/\V (ndX (z1.k i) (17:Nat)))/\V (ndX (z1.k i) (18:Nat)))/\V (ndX (z1.k i) (19:Nat)))/\V (ndX (z1.k i) (20:Nat)))/\V (ndX (z1.k i) (21:Nat)))/\V (ndX (z1.k i) (22:Nat)))/\V (ndX (z1.k i) (23:Nat)))/\V (ndX (z1.k i) (24:Nat)))/\V (ndX (z1.k i) (25:Nat)))/\V (ndX (z1.k i) (26:Nat)))/\V (ndX (z1.k i) (27:Nat)))/\V (ndX (z1.k i) (28:Nat)))/\V (ndX (z1.k i) (29:Nat)))/\V (ndX (z1.k i) (30:Nat)))/\V (ndX (z1.k i) (31:Nat)))/\V (ndX (z1.k i) (32:Nat)))/\V (ndX (z1.k i) (33:Nat)))/\V (ndX (z1.k i) (34:Nat)))/\V (ndX (z1.k i) 35))/\V (ndX (z1.k i) (36:Nat)));let z0:=(PnG.mk s (lst (itL z24++[SV.int K t,mxS z24 mx,SV.sl m z15 fun (a x:Nat)=>SV.ifc (ndT (k a)) fun (x:Nat)=>SV.ref (37:Nat) (ndX (k a))])) z1 ns st bs);T11 (((z3/\True)/\A (z13<ns/\ns<=(4294967296:Nat)))/\True/\True/\True/\True/\True/\True/\True/\(∃ g:Nat,A ((ptI z0).pre g)/\True/\(A z11/\A z11/\A z11/\(A (m=z1.n)/\∀ i:Nat,i<z1.n->True/\A (ndT (k i)=ndT (z1.k i))/\((((((((((((((((((((((((((((((((((((True/\SVle [] [] (ndX (k i) z13) (ndX (z1.k i) z13))/\SVle [] [] (ndX (k i) z15) (ndX (z1.k i) z15))/\SVle [] [] (ndX (k i) z17) (ndX (z1.k i) z17))/\SVle [] [] (ndX (k i) z18) (ndX (z1.k i) z18))/\SVle [] [] (ndX (k i) z19) (ndX (z1.k i) z19))/\SVle [] [] (ndX (k i) z20) (ndX (z1.k i) z20))/\SVle [] [] (ndX (k i) z21) (ndX (z1.k i) z21))/\SVle [] [] (ndX (k i) z22) (ndX (z1.k i) z22))/\SVle [] [] (ndX (k i) z23) (ndX (z1.k i) z23))/\SVle [] [] (ndX (k i) (9:Nat)) (ndX (z1.k i) (9:Nat)))/\SVle [] [] (ndX (k i) (10:Nat)) (ndX (z1.k i) (10:Nat)))/\SVle [] [] (ndX (k i) (11:Nat)) (ndX (z1.k i) (11:Nat)))/\SVle [] [] (ndX (k i) (12:Nat)) (ndX (z1.k i) (12:Nat)))/\SVle [] [] (ndX (k i) (13:Nat)) (ndX (z1.k i) (13:Nat)))/\SVle [] [] (ndX (k i) (14:Nat)) (ndX (z1.k i) (14:Nat)))/\SVle [] [] (ndX (k i) (15:Nat)) (ndX (z1.k i) (15:Nat)))/\SVle [] [] (ndX (k i) (16:Nat)) (ndX (z1.k i) (16:Nat)))/\SVle [] [] (ndX (k i) (17:Nat)) (ndX (z1.k i) (17:Nat)))/\SVle [] [] (ndX (k i) (18:Nat)) (ndX (z1.k i) (18:Nat)))/\SVle [] [] (ndX (k i) (19:Nat)) (ndX (z1.k i) (19:Nat)))/\SVle [] [] (ndX (k i) (20:Nat)) (ndX (z1.k i) (20:Nat)))/\SVle [] [] (ndX (k i) (21:Nat)) (ndX (z1.k i) (21:Nat)))/\SVle [] [] (ndX (k i) (22:Nat)) (ndX (z1.k i) (22:Nat)))/\SVle [] [] (ndX (k i) (23:Nat)) (ndX (z1.k i) (23:Nat)))/\SVle [] [] (ndX (k i) (24:Nat)) (ndX (z1.k i) (24:Nat)))/\SVle [] [] (ndX (k i) (25:Nat)) (ndX (z1.k i) (25:Nat)))/\SVle [] [] (ndX (k i) (26:Nat)) (ndX (z1.k i) (26:Nat)))/\SVle [] [] (ndX (k i) (27:Nat)) (ndX (z1.k i) (27:Nat)))/\SVle [] [] (ndX (k i) (28:Nat)) (ndX (z1.k i) (28:Nat)))/\SVle [] [] (ndX (k i) (29:Nat)) (ndX (z1.k i) (29:Nat)))/\SVle [] [] (ndX (k i) (30:Nat)) (ndX (z1.k i) (30:Nat)))/\SVle [] [] (ndX (k i) (31:Nat)) (ndX (z1.k i) (31:Nat)))/\SVle [] [] (ndX (k i) (32:Nat)) (ndX (z1.k i) (32:Nat)))/\SVle [] [] (ndX (k i) (33:Nat)) (ndX (z1.k i) (33:Nat)))/\SVle [] [] (ndX (k i) (34:Nat)) (ndX (z1.k i) (34:Nat)))/\SVle [] [] (ndX (k i) z26) (ndX (z1.k i) z26))/\SVle [] [] (ndX (k i) (36:Nat)) (ndX (z1.k i) (36:Nat)))/\(A z10/\A ((↑m:Int)=z28))/\(A z10/\A ((0:Int)=(↑g:Int)))/\True)/\(A (ns=ns)/\∀ i:Nat,i<ns->(((((((((True/\A z5/\A (st i z13=z0.pt g i z13))/\A z5/\A (st i z15=z0.pt g i z15))/\A z5/\A (st i z17=z0.pt g i z17))/\A z5/\A (st i z18=z0.pt g i z18))/\A z5/\A (st i z19=z0.pt g i z19))/\A z5/\A (st i z20=z0.pt g i z20))/\A z5/\A (st i z21=z0.pt g i z21))/\A z5/\A (st i z22=z0.pt g i z22))/\A z5/\A (st i z23=z0.pt g i z23)))/\z6/\z16/\z16/\z3/\True)/\∀ g:Nat,let z25:=(↑g:Int);let z12:=((-9223372036854775808:Int)<=z25+(1:Int)/\z25+(1:Int)<=(9223372036854775807:Int));let z7:=(z1.k z25.toNat);let z4:=(A (ns=ns)/\∀ i:Nat,i<ns->(chp True (fun j:Nat=>q5 (z0.pt g i j)) 9)); (ptI z0).pre g->True/\Br (decide (z25<z28)) (A ((0:Int)<=z25/\z25<z28)/\True/\True/\True/\ak5 (nat_lit 49) (nat_lit 1) (mbI d z0 g) [mbF z0 g,mbJ d z0 g]/\(∃ g_1:Nd,A ((mbI d z0 g).pre g_1)/\True/\((A (ndT z7=ndT g_1)/\((((((((((((((((((((((((((((((((((((True/\SVle [] [] (ndX z7 z13) (ndX g_1 z13))/\SVle [] [] (ndX z7 z15) (ndX g_1 z15))/\SVle [] [] (ndX z7 z17) (ndX g_1 z17))/\SVle [] [] (ndX z7 z18) (ndX g_1 z18))/\SVle [] [] (ndX z7 z19) (ndX g_1 z19))/\SVle [] [] (ndX z7 z20) (ndX g_1 z20))/\SVle [] [] (ndX z7 z21) (ndX g_1 z21))/\SVle [] [] (ndX z7 z22) (ndX g_1 z22))/\SVle [] [] (ndX z7 z23) (ndX g_1 z23))/\SVle [] [] (ndX z7 (9:Nat)) (ndX g_1 (9:Nat)))/\SVle [] [] (ndX z7 (10:Nat)) (ndX g_1 (10:Nat)))/\SVle [] [] (ndX z7 (11:Nat)) (ndX g_1 (11:Nat)))/\SVle [] [] (ndX z7 (12:Nat)) (ndX g_1 (12:Nat)))/\SVle [] [] (ndX z7 (13:Nat)) (ndX g_1 (13:Nat)))/\SVle [] [] (ndX z7 (14:Nat)) (ndX g_1 (14:Nat)))/\SVle [] [] (ndX z7 (15:Nat)) (ndX g_1 (15:Nat)))/\SVle [] [] (ndX z7 (16:Nat)) (ndX g_1 (16:Nat)))/\SVle [] [] (ndX z7 (17:Nat)) (ndX g_1 (17:Nat)))/\SVle [] [] (ndX z7 (18:Nat)) (ndX g_1 (18:Nat)))/\SVle [] [] (ndX z7 (19:Nat)) (ndX g_1 (19:Nat)))/\SVle [] [] (ndX z7 (20:Nat)) (ndX g_1 (20:Nat)))/\SVle [] [] (ndX z7 (21:Nat)) (ndX g_1 (21:Nat)))/\SVle [] [] (ndX z7 (22:Nat)) (ndX g_1 (22:Nat)))/\SVle [] [] (ndX z7 (23:Nat)) (ndX g_1 (23:Nat)))/\SVle [] [] (ndX z7 (24:Nat)) (ndX g_1 (24:Nat)))/\SVle [] [] (ndX z7 (25:Nat)) (ndX g_1 (25:Nat)))/\SVle [] [] (ndX z7 (26:Nat)) (ndX g_1 (26:Nat)))/\SVle [] [] (ndX z7 (27:Nat)) (ndX g_1 (27:Nat)))/\SVle [] [] (ndX z7 (28:Nat)) (ndX g_1 (28:Nat)))/\SVle [] [] (ndX z7 (29:Nat)) (ndX g_1 (29:Nat)))/\SVle [] [] (ndX z7 (30:Nat)) (ndX g_1 (30:Nat)))/\SVle [] [] (ndX z7 (31:Nat)) (ndX g_1 (31:Nat)))/\SVle [] [] (ndX z7 (32:Nat)) (ndX g_1 (32:Nat)))/\SVle [] [] (ndX z7 (33:Nat)) (ndX g_1 (33:Nat)))/\SVle [] [] (ndX z7 (34:Nat)) (ndX g_1 (34:Nat)))/\SVle [] [] (ndX z7 z26) (ndX g_1 z26))/\SVle [] [] (ndX z7 (36:Nat)) (ndX g_1 (36:Nat)))/\A z11/\A z11/\A z11/\z2/\z14/\(q10 z25)/\True)/\z4/\z6/\z16/\z16/\z3/\True)/\(∀ h:FmG,let z9:=(RcG.mk (↑h.t:Int).toNat h.x s ns (z0.pt g) st); (mbF z0 g).pre h->T11 (True/\((True/\(z6/\(A (h.x.nr=h.x.nr)/\∀ i:Nat,let z27:=(h.x.runs i); i<h.x.nr->(((True/\q10 z27.y)/\q10 z27.x0)/\q10 z27.x1))/\(A ((63:Nat)=(63:Go.FuncId))/\(((True/\A z11)/\A z11)/\A z11)/\A z11)/\True)/\(True/\(((qT True h.x h.x)/\A z10/\A ((↑h.t:Int)=(↑(↑h.t:Int).toNat:Int)))/\SVle [] [] (fcS h.t h.x (srcX h.x.src) z26) (fcS (↑h.t:Int).toNat h.x (srcX h.x.src) z26))/\A ((86:Go.FuncId)=(86:Go.FuncId))/\True/\True/\A ((112:Go.FuncId)=(112:Go.FuncId))/\True/\True/\A (Blend.aa4 h.x.blend.toNat=Blend.aa4 h.x.blend.toNat)/\True)/\z6/\z16/\z16/\z4/\z3/\True)/\A (RcOK z9))/\A z12/\True/\∃ (g':Nat),A ((ptI z0).pre g')/\True/\((A z11/\A z11/\A z11/\z2/\z14/\(A z10/\A (z25+(1:Int)=(↑g':Int)))/\True)/\(A (ns=ns)/\∀ i:Nat,i<ns->(((((((((True/\A z5/\A (z9.at h.x.nr i z13=z0.pt g' i z13))/\A z5/\A (z9.at h.x.nr i z15=z0.pt g' i z15))/\A z5/\A (z9.at h.x.nr i z17=z0.pt g' i z17))/\A z5/\A (z9.at h.x.nr i z18=z0.pt g' i z18))/\A z5/\A (z9.at h.x.nr i z19=z0.pt g' i z19))/\A z5/\A (z9.at h.x.nr i z20=z0.pt g' i z20))/\A z5/\A (z9.at h.x.nr i z21=z0.pt g' i z21))/\A z5/\A (z9.at h.x.nr i z22=z0.pt g' i z22))/\A z5/\A (z9.at h.x.nr i z23=z0.pt g' i z23)))/\z6/\z16/\z16/\z3/\True)/\A ((ptI z0).meas g'<(ptI z0).meas g)))/\(∀ h:Nd,let z8:=(PnG.mk s (ndX h) (ndOf (ndX h)) ns (z0.pt g) st); (mbJ d z0 g).pre h->T11 (((True/\(z6/\(qV True (ndX h) (ndX h))/\True/\True/\True)/\z4/\z3/\True)/\A (NsOK d z8))/\A z12/\True/\∃ (g':Nat),A ((ptI z0).pre g')/\True/\((A z11/\A z11/\A z11/\z2/\z14/\(A z10/\A (z25+(1:Int)=(↑g':Int)))/\True)/\(A (ns=ns)/\∀ i:Nat,i<ns->(((((((((True/\A z5/\A (z8.nx i z13=z0.pt g' i z13))/\A z5/\A (z8.nx i z15=z0.pt g' i z15))/\A z5/\A (z8.nx i z17=z0.pt g' i z17))/\A z5/\A (z8.nx i z18=z0.pt g' i z18))/\A z5/\A (z8.nx i z19=z0.pt g' i z19))/\A z5/\A (z8.nx i z20=z0.pt g' i z20))/\A z5/\A (z8.nx i z21=z0.pt g' i z21))/\A z5/\A (z8.nx i z22=z0.pt g' i z22))/\A z5/\A (z8.nx i z23=z0.pt g' i z23)))/\z6/\z16/\z16/\z3/\True)/\A ((ptI z0).meas g'<(ptI z0).meas g)))/\True) (True/\True/\z16/\(A (ns=ns)/\∀ i:Nat,i<ns->(((((((((True/\A z5/\A (z0.pt g i z13=z0.pt z1.n i z13))/\A z5/\A (z0.pt g i z15=z0.pt z1.n i z15))/\A z5/\A (z0.pt g i z17=z0.pt z1.n i z17))/\A z5/\A (z0.pt g i z18=z0.pt z1.n i z18))/\A z5/\A (z0.pt g i z19=z0.pt z1.n i z19))/\A z5/\A (z0.pt g i z20=z0.pt z1.n i z20))/\A z5/\A (z0.pt g i z21=z0.pt z1.n i z21))/\A z5/\A (z0.pt g i z22=z0.pt z1.n i z22))/\A z5/\A (z0.pt g i z23=z0.pt z1.n i z23)))/\True))) (by kernel_rfl) ?_;simp only [chp];delta qG qI qM qS qT qV
  simp only [cln];have hs:∀ nd j,SVle [] [] (ndX nd j) (ndX nd j)=True:=fun nd j=>uF (SVle.refl [] [] (an3 nd j))
  have hs2:∀ (t:Nat) (x:It),SVle [] [] (fcS t x (srcX x.src) 35) (fcS t x (srcX x.src) 35)=True:=fun t x=>uF (SVle.refl [] [] (aw7 x.src))
  simp only [Nd.n,Nd.k,aq2,hs,hs2,lw,ud,xC,xD,xp];generalize lst (itL _++_)=C at *
  generalize hX:It.mk kind nr runs src al bl ov iso true=X at *
  have hkn:X.knock=true:=by rw [<-hX]
  have hb':=hg.b;have hn1:(ns:Int)=s.x1-s.x0:=hb'.n;have hn2 : -8192<=s.x0:=hb'.x0;have hn3:s.x1<=8192:=hb'.x1;have hn4:0<ns:=hb'.pos;have hm:m<=4294967296:=hg.n;have hk:∀ a,a<m->NdOK d (k a):=hg.k;have hst:∀ i,i<ns->isU9 (st i):=hb'.st;have hpu:∀ q,q<=m->∀ i,i<ns->isU9 (PnG.pt ⟨s,C,.grp t mx X m k,ns,st,bs⟩ q i):=fun q hq i hi=>aT3 hk (bX2 hb' hi) (hst i hi) hq
  have hpt:∀ q i,PnG.pt ⟨s,C,.grp t mx X m k,ns,st,bs⟩ (q+1) i=(k q).pnt (s.x0+i) s.y (st i) (PnG.pt ⟨s,C,.grp t mx X m k,ns,st,bs⟩ q i):=fun q i=>by
   have h1:PnG.pt ⟨s,C,.grp t mx X m k,ns,st,bs⟩ (q+1) i=(k q).pnt (s.x0+i) s.y (if X.knock=true then st i else PnG.pt ⟨s,C,.grp t mx X m k,ns,st,bs⟩ q i) (PnG.pt ⟨s,C,.grp t mx X m k,ns,st,bs⟩ q i):=rfl;rw [h1,hkn];rfl
  refine ⟨⟨by omega,by omega⟩,⟨0,lm _,rfl,fun i _=>all9 fun j=>rfl⟩,fun q hq=>?_⟩;have hq:q<=m:=hq;refine ⟨fun hlt=>?_,fun hge i hi=>?_⟩
  ·have hlt:q<m:=by omega
   have hu:=hpu q hq;have hbu:∀ i,i<ns->isU9 (st i):=hst;have hmm:m-(q+1)<m-q:=by omega
   refine ⟨by omega,bz1 _ _ _,⟨k q,⟨rfl,hk q hlt⟩,rfl,by simp only [hs,ud]⟩,fun h hh=>?_,fun h hh=>?_⟩
   ·obtain ⟨x,hx⟩:∃ x,x=h.x:=⟨_,rfl⟩
    have h1:k q = .fill h.t h.x:=hh.1;have hf:FillOK h.x:=hh.2.1;have hv:Vr h.x.nr h.x.runs:=hh.2.2;have e:∀ i,RcG.at ⟨h.t,h.x,s,ns,PnG.pt ⟨s,C,.grp t mx X m k,ns,st,bs⟩ q,st⟩ h.x.nr i=PnG.pt ⟨s,C,.grp t mx X m k,ns,st,bs⟩ (q+1) i:=fun i=>by
     rw [hpt q i,h1];rfl
    have hrc:RcOK ⟨h.t,h.x,s,ns,PnG.pt ⟨s,C,.grp t mx X m k,ns,st,bs⟩ q,st⟩:=⟨hf,hv,hb'.y,hn2,hn3,hn1,hu,hbu⟩
    exact ⟨hrc,by omega,q+1,hlt,⟨by simp,fun i hi=>all9 fun j=>congrFun (e i) j⟩,hmm⟩
   ·have h1:k q=h:=hh.1.1;have h2:NdOK d h:=hh.1.2;have h3:ndT h=TPg:=hh.2;have e:∀ i,PnG.nx ⟨s,ndX h,h,ns,PnG.pt ⟨s,C,.grp t mx X m k,ns,st,bs⟩ q,st⟩ i=PnG.pt ⟨s,C,.grp t mx X m k,ns,st,bs⟩ (q+1) i:=fun i=>by
     rw [hpt q i,h1];rfl
    have hno:NsOK d ⟨s,ndX h,h,ns,PnG.pt ⟨s,C,.grp t mx X m k,ns,st,bs⟩ q,st⟩:=⟨rfl,h3,h2,hb'.y,hn2,hn3,hn1,hn4,hu,hbu⟩
    exact ⟨hno,by omega,q+1,hlt,⟨by simp,fun i hi=>all9 fun j=>congrFun (e i) j⟩,hmm⟩
  ·have h0:∀ j,PnG.pt ⟨s,C,.grp t mx X m k,ns,st,bs⟩ q i j=PnG.pt ⟨s,C,.grp t mx X m k,ns,st,bs⟩ m i j:=fun j=>by
    have:q=m:=by omega
    rw [this]
   exact all9 h0
theorem b21 {d:Nat}(ha:aa2 Tryz.prog (spNa d)) (hb:aa2 Tryz.prog (spNb d)):aa2 Tryz.prog (spPt d):=
 bk5 (b24 ha) (b23 hb) fun g hg=>(Bool.eq_false_or_eq_true g.nd.x.knock).elim (fun h=> .inr ⟨hg,h⟩) (fun h=> .inl ⟨hg,h⟩)
theorem bw6:∀ d,aa2 Tryz.prog (spNa d)/\aa2 Tryz.prog (spNb d)
 | 0=>⟨b29,b28⟩
 | d+1=>by
  have h:=bw6 d;have hp:=b21 h.1 h.2;exact ⟨ok_na hp,ok_nb hp⟩
theorem bv8 (d:Nat):aa2 Tryz.prog (spPt d):=b21 (bw6 d).1 (bw6 d).2
end Lpf
set_option linter.unusedSimpArgs false
set_option linter.unusedVariables false
namespace Lrw
open Go.RowKit Sx Num Aff Afi Img Imh Imp Imq Rga Blend Ble Lsg Lta Lrd Lri Luc Lck Lgr Lcs Lst Lch Lcl Lgp Lsc Cmp Lpm Lpa Lpr Lbt Lpn Lpc Lpd Lpe Lpf
set_option maxRecDepth 100000
structure RoG where
 c:Nat->SV
 nd:Nd
 k:Nat
 y:Int
 x0:Int
 ns:Nat
structure RoOK (d:Nat) (g:RoG):Prop where
 c:g.c=ndX g.nd
 isg:ndT g.nd=TPg
 n:g.nd.n<=4294967296
 kid:∀ a,a<g.nd.n->NdOK d (g.nd.k a)
 k1:1<=g.k
 k8:g.k<=8
 y : -8192<=g.y/\g.y<8192
 x0 : -8192<=g.x0
 x1:g.x0+g.ns<=8192
 pos:0<g.ns
def ag7 (nd:Nd) (x y:Int):Cl:=pntK nd.k nd.x.knock x y ad5 nd.n
def am4 (nd:Nd) (k:Nat) (x y:Int) (j:Nat):Int:=if j<k then ag7 nd x y (1+j) else 0
def roA (q i:Nat):Cl:=fun j=>if i<q then ad5 j else 0
def roO (g:RoG):SO:= .cells 2 (lst [.ref 37 g.c,.int .i64 g.k]) 75
def roI (g:RoG):Inv:=⟨Nat,fun i=>i<=g.ns,fun i=>⟨[(1,.int .i64 g.y),(2,.int .i64 g.x0),(3,.int .i64 (g.x0+g.ns)),(4,.own 0 0),(9,.osl 1 0),(19,.int .i64 g.ns),(20,.int .i64 i)],[roO g,stR g.ns (roA i)]⟩,fun i=>g.ns-i⟩
def roV (g:RoG) (q i j:Nat):Int:=if i<q then am4 g.nd g.k (g.x0+i) g.y j else 0
def roJ (g:RoG):Inv:=⟨Nat,fun i=>i<=g.ns,fun i=>⟨[(4,.own 0 0),(11,.osl 2 0),(39,.osl 1 0),(40,.int .i64 g.ns),(41,.int .i64 i)],[roO g,stR g.ns (fun i=>ag7 g.nd (g.x0+i) g.y),.row 0 g.ns 8 (fun a j=> .int .u8 (roV g i a j)) 28]⟩,fun i=>g.ns-i⟩
theorem all8 {p:Nat->Prop}(h:∀ j,p j):((((((p 0/\p 1)/\p 2)/\p 3)/\p 4)/\p 5)/\p 6)/\p 7:=⟨⟨⟨⟨⟨⟨⟨h 0,h 1⟩,h 2⟩,h 3⟩,h 4⟩,h 5⟩,h 6⟩,h 7⟩
theorem bE5 (q i j:Nat):(bif decide (i=q/\0<=j/\j<9) then ad5 (j-0) else roA q i j)=bif decide (j<9) then roA (q+1) i j else roA q i j:=by
 by_cases hj:j<9
 ·rw [lk hj,xK];by_cases hi:i=q
  ·rw [lk ⟨hi,lm _,hj⟩,xK];unfold roA;rw [lg (by omega)];rfl
  ·rw [li (fun h=>hi h.1),xm];unfold roA;by_cases hc:i<q
   ·rw [lg hc,lg (by omega)]
   ·rw [lb hc,lb (by omega)]
 ·rw [li hj,li (fun h=>hj h.2.2),xm,xm]
theorem bE4 {g:RoG}(hk:g.k<=8) (q i j:Nat) (hj:j<8):(bif decide (q*8<=i*8+j/\i*8+j<q*8+g.k.min g.k) then ag7 g.nd (g.x0+q) g.y (1+(i*8+j-q*8)) else roV g q i j)=roV g (q+1) i j:=by
 have hm:g.k.min g.k=g.k:=Nat.min_self g.k;rw [hm];unfold roV;by_cases hi:i=q
 ·subst hi;rw [lb (uH i),lg (lae i),show i*8+j-i*8=j by omega];unfold am4;by_cases hc:j<g.k
  ·rw [lk (by omega),xK,lg hc]
  ·rw [li (by omega),xm,lb hc]
 ·rw [li (by omega),xm];by_cases hc:i<q
  ·rw [lg hc,lg (by omega)]
  ·rw [lb hc,lb (by omega)]
noncomputable def bE0 (d:Nat):FSpec:=aa3 23 (γ:=RoG) (fun | [.agg _ p,.int _ y,.int _ x0,.int _ x1]=>some ⟨ax0 (p 0),ndOf (ax0 (p 0)),(Sx.intOf (p 1)).toNat,y,x0,(x1-x0).toNat⟩ | _=>none)
 (fun g=>[.agg 2 (lst [.ref 37 g.c,.int .i64 g.k]),.int .i64 g.y,.int .i64 g.x0,.int .i64 (g.x0+g.ns)]) (RoOK d) (fun g=> .sl g.ns 8 (fun i j=> .int .u8 (am4 g.nd g.k (g.x0+i) g.y j)))
theorem bv5 (d:Nat):aa2 Tryz.prog (bE0 d):=by
 refine ssW (specs:=[Cmp.a84,spPt d]) (⟨bG0,bv8 d,trivial⟩) Tryz.func23 (fun g=>(⟨[(3,.inv (roI g)),(10,.inv (roJ g))],[(12,[.tmp 13])]⟩:Ann)) ?_;rintro ⟨c,nd,k,y,x0,ns⟩ hg;have hc:c=ndX nd:=hg.c;cases nd with
 | fill t x=>exact absurd (show TPf=TPg from hg.isg) (by decide)
 | grp t mx x m kd=>
  rw [aj2] at hc;subst hc;refine ab2 (B:=let T4:=fun p:Prop=>True/\True/\True/\True/\p;let V:=fun p:SV=>SVle [] [] p p;let K:=IntKind.i64;let A:=Sx.Ask;let z31:=(-9223372036854775808:Int);let z29:=(9:Nat);let z26:=(9223372036854775807:Int);let z22:=(7:Nat);let z21:=(6:Nat);let z20:=(5:Nat);let z19:=(4:Nat);let z18:=(3:Nat);let z17:=(2:Nat);let z16:=(0:Int);let z15:=(↑k:Int);let z13:=(1:Nat);let z10:=(↑ns:Int);let z8:=(8:Nat);let z7:=(K=K);let q7:=fun p:Int=>A z7/\A (p=p);let z32:=(q7 (x0+z10));let z30:=(q7 z10);let z6:=(0:Nat);let z5:=(Nd.grp t mx x m kd);let z3:=(IntKind.u8=IntKind.u8);let q3:=fun p:Int=>A z3/\A (p=p);let z0:=(itL x++[SV.int K t,mxS x mx,SV.sl m z13 fun (a x:Nat)=>SV.ifc (ndT (kd a)) fun (x:Nat)=>SV.ref (37:Nat) (ndX (kd a))]);let z24:=(((qT True x x)/\q7 t)/\V (lst z0 (35:Nat)));let z12:=(ndOf (lst z0));let z2:=(RoG.mk (lst z0) z5 k y x0 ns);let z1:=((True/\z24/\A (m=m)/\∀ i:Nat,i<m->True/\A (ndT (kd i)=ndT (kd i))/\((((((((((((((((((((((((((((((((((((True/\V (ndX (kd i) 0))/\V (ndX (kd i) 1))/\V (ndX (kd i) 2))/\V (ndX (kd i) 3))/\V (ndX (kd i) 4))/\V (ndX (kd i) 5))/\V (ndX (kd i) 6))/\V (ndX (kd i) 7))/\V (ndX (kd i) 8))/\V (ndX (kd i) 9))/\V (ndX (kd i) (10:Nat)))/\V (ndX (kd i) (11:Nat)))/\V (ndX (kd i) (12:Nat)))/\V (ndX (kd i) (13:Nat)))/\V (ndX (kd i) (14:Nat)))/\V (ndX (kd i) (15:Nat)))/\V (ndX (kd i) (16:Nat)))/\V (ndX (kd i) (17:Nat)))/\V (ndX (kd i) (18:Nat)))/\V (ndX (kd i) (19:Nat)))/\V (ndX (kd i) (20:Nat)))/\V (ndX (kd i) (21:Nat)))/\V (ndX (kd i) (22:Nat)))/\V (ndX (kd i) (23:Nat)))/\V (ndX (kd i) (24:Nat)))/\V (ndX (kd i) (25:Nat)))/\V (ndX (kd i) (26:Nat)))/\V (ndX (kd i) (27:Nat)))/\V (ndX (kd i) (28:Nat)))/\V (ndX (kd i) (29:Nat)))/\V (ndX (kd i) (30:Nat)))/\V (ndX (kd i) (31:Nat)))/\V (ndX (kd i) (32:Nat)))/\V (ndX (kd i) (33:Nat)))/\V (ndX (kd i) (34:Nat)))/\V (ndX (kd i) (35:Nat)))/\V (ndX (kd i) (36:Nat)))/\q7 z15);T4 (A (z31<=x0+z10-x0/\x0+z10-x0<=z26)/\A (z16<=x0+z10-x0/\x0+z10-x0<=x0+z10-x0/\(↑z29:Int)*(x0+z10-x0)<=(140737488355328:Int)/\x0+z10-x0<=z26)/\T4 ((∃ g:Nat,A ((roI z2).pre g)/\((q7 y)/\(q7 x0)/\z32/\A (z6=z6)/\True/\(A z7/\A ((↑(x0+z10-x0).toNat:Int)=z10))/\(A z7/\A (z16=(↑g:Int)))/\True)/\z1/\(A ((x0+z10-x0).toNat=ns)/\∀ i:Nat,i<ns->(chp True (fun j:Nat=>A z3/\A (z16=roA g i j)) 9))/\True)/\∀ g:Nat,let z28:=(↑g:Int);let z4:=(PnG.mk (StG.mk y x0 (x0+z10)) (lst z0) z12 ns (roA g) (roA g)); (roI z2).pre g->True/\Br (decide (z28<z10)) (T4 ((True/\A True)/\A (z16<=z28/\z28<z10)/\A (z28.toNat<ns)/\A (z31<=z28+(1:Int)/\z28+(1:Int)<=z26)/\True/\∃ (g':Nat),A ((roI z2).pre g')/\(((q7 y)/\(q7 x0)/\z32/\A (z6=z6)/\True/\z30/\(A z7/\A (z28+(1:Int)=(↑g':Int)))/\True)/\z1/\(A (ns=ns)/\∀ i:Nat,i<ns->(((((((((True/\A z3/\A ((bif decide (i=z28.toNat/\z6<=z6/\z6<z6+z29) then ad5 (z6-z6) else roA g i z6)=roA g' i z6))/\A z3/\A ((bif decide (i=z28.toNat/\z6<=z13/\z13<z6+z29) then ad5 (z13-z6) else roA g i z13)=roA g' i z13))/\A z3/\A ((bif decide (i=z28.toNat/\z6<=z17/\z17<z6+z29) then ad5 (z17-z6) else roA g i z17)=roA g' i z17))/\A z3/\A ((bif decide (i=z28.toNat/\z6<=z18/\z18<z6+z29) then ad5 (z18-z6) else roA g i z18)=roA g' i z18))/\A z3/\A ((bif decide (i=z28.toNat/\z6<=z19/\z19<z6+z29) then ad5 (z19-z6) else roA g i z19)=roA g' i z19))/\A z3/\A ((bif decide (i=z28.toNat/\z6<=z20/\z20<z6+z29) then ad5 (z20-z6) else roA g i z20)=roA g' i z20))/\A z3/\A ((bif decide (i=z28.toNat/\z6<=z21/\z21<z6+z29) then ad5 (z21-z6) else roA g i z21)=roA g' i z21))/\A z3/\A ((bif decide (i=z28.toNat/\z6<=z22/\z22<z6+z29) then ad5 (z22-z6) else roA g i z22)=roA g' i z22))/\A z3/\A ((bif decide (i=z28.toNat/\z6<=z8/\z8<z6+z29) then ad5 (z8-z6) else roA g i z8)=roA g' i z8)))/\True)/\A ((roI z2).meas g'<(roI z2).meas g))) (T4 (True/\True/\True/\((True/\((((True/\q7 y)/\q7 x0)/\q7 (x0+z10))/\(z24/\A (m=m)/\∀ i:Nat,i<m->True/\A (ndT (kd i)=ndT (kd i))/\((((((((((((((((((((((((((((((((((((True/\V (ndX (kd i) 0))/\V (ndX (kd i) 1))/\V (ndX (kd i) 2))/\V (ndX (kd i) 3))/\V (ndX (kd i) 4))/\V (ndX (kd i) 5))/\V (ndX (kd i) 6))/\V (ndX (kd i) 7))/\V (ndX (kd i) 8))/\V (ndX (kd i) 9))/\V (ndX (kd i) (10:Nat)))/\V (ndX (kd i) (11:Nat)))/\V (ndX (kd i) (12:Nat)))/\V (ndX (kd i) (13:Nat)))/\V (ndX (kd i) (14:Nat)))/\V (ndX (kd i) (15:Nat)))/\V (ndX (kd i) (16:Nat)))/\V (ndX (kd i) (17:Nat)))/\V (ndX (kd i) (18:Nat)))/\V (ndX (kd i) (19:Nat)))/\V (ndX (kd i) (20:Nat)))/\V (ndX (kd i) (21:Nat)))/\V (ndX (kd i) (22:Nat)))/\V (ndX (kd i) (23:Nat)))/\V (ndX (kd i) (24:Nat)))/\V (ndX (kd i) (25:Nat)))/\V (ndX (kd i) (26:Nat)))/\V (ndX (kd i) (27:Nat)))/\V (ndX (kd i) (28:Nat)))/\V (ndX (kd i) (29:Nat)))/\V (ndX (kd i) (30:Nat)))/\V (ndX (kd i) (31:Nat)))/\V (ndX (kd i) (32:Nat)))/\V (ndX (kd i) (33:Nat)))/\V (ndX (kd i) (34:Nat)))/\V (ndX (kd i) (35:Nat)))/\V (ndX (kd i) (36:Nat)))/\True/\True)/\(A (ns=ns)/\∀ i:Nat,i<ns->(chp True (fun j:Nat=>q3 (roA g i j)) 9))/\True)/\A (PtOK d z4))/\True/\True/\A (z16<=z10/\z10<=z10/\(↑z8:Int)*z10<=(140737488355328:Int)/\z10<=z26)/\T4 ((∃ g_1:Nat,A ((roJ z2).pre g_1)/\(A (z6=z6)/\True/\True/\z30/\(A z7/\A (z16=(↑g_1:Int)))/\True)/\z1/\(A (ns=ns)/\∀ i:Nat,let z25:=(x0+(↑i:Int)); i<ns->(((((((((True/\A z3/\A (z4.pt z12.n i z6=ag7 z5 z25 y z6))/\A z3/\A (z4.pt z12.n i z13=ag7 z5 z25 y z13))/\A z3/\A (z4.pt z12.n i z17=ag7 z5 z25 y z17))/\A z3/\A (z4.pt z12.n i z18=ag7 z5 z25 y z18))/\A z3/\A (z4.pt z12.n i z19=ag7 z5 z25 y z19))/\A z3/\A (z4.pt z12.n i z20=ag7 z5 z25 y z20))/\A z3/\A (z4.pt z12.n i z21=ag7 z5 z25 y z21))/\A z3/\A (z4.pt z12.n i z22=ag7 z5 z25 y z22))/\A z3/\A (z4.pt z12.n i z8=ag7 z5 z25 y z8)))/\(A (z10.toNat=ns)/\∀ i:Nat,i<ns->(chp True (fun j:Nat=>A z3/\A (z16=roV z2 g_1 i j)) 8))/\True)/\∀ g:Nat,let z9:=(↑g:Int);let z23:=(z9.toNat*z8+z6);let z14:=(x0+(↑z9.toNat:Int)); (roJ z2).pre g->True/\Br (decide (z9<z10)) (True/\A (z16<=z9/\z9<z10)/\A (z9.toNat<ns)/\T4 (True/\A (z16<=z9/\z9<z10)/\True/\True/\A (z16<=z15/\z15<=(↑z8:Int))/\True/\True/\True/\A (z16<=z15/\z15<=(↑z8:Int))/\A (z9.toNat*z8+z6+z15.toNat<=ns*z8)/\A (z31<=z9+(1:Int)/\z9+(1:Int)<=z26)/\True/\∃ (g':Nat),A ((roJ z2).pre g')/\((A (z6=z6)/\True/\True/\z30/\(A z7/\A (z9+(1:Int)=(↑g':Int)))/\True)/\z1/\(A (ns=ns)/\∀ i:Nat,let z11:=(x0+(↑i:Int)); i<ns->(chp True (fun j:Nat=>q3 (ag7 z5 z11 y j)) 9))/\(A (ns=ns)/\∀ i:Nat,i<ns->((((((((True/\A z3/\A ((bif decide (z9.toNat*z8+z6<=i*z8+z6/\i*z8+z6<z9.toNat*z8+z6+z15.toNat.min z15.toNat) then ag7 z5 z14 y (z6+(z6+(z13+(i*z8+z6-z23)))) else roV z2 g i z6)=roV z2 g' i z6))/\A z3/\A ((bif decide (z9.toNat*z8+z6<=i*z8+z13/\i*z8+z13<z9.toNat*z8+z6+z15.toNat.min z15.toNat) then ag7 z5 z14 y (z6+(z6+(z13+(i*z8+z13-z23)))) else roV z2 g i z13)=roV z2 g' i z13))/\A z3/\A ((bif decide (z9.toNat*z8+z6<=i*z8+z17/\i*z8+z17<z9.toNat*z8+z6+z15.toNat.min z15.toNat) then ag7 z5 z14 y (z6+(z6+(z13+(i*z8+z17-z23)))) else roV z2 g i z17)=roV z2 g' i z17))/\A z3/\A ((bif decide (z9.toNat*z8+z6<=i*z8+z18/\i*z8+z18<z9.toNat*z8+z6+z15.toNat.min z15.toNat) then ag7 z5 z14 y (z6+(z6+(z13+(i*z8+z18-z23)))) else roV z2 g i z18)=roV z2 g' i z18))/\A z3/\A ((bif decide (z9.toNat*z8+z6<=i*z8+z19/\i*z8+z19<z9.toNat*z8+z6+z15.toNat.min z15.toNat) then ag7 z5 z14 y (z6+(z6+(z13+(i*z8+z19-z23)))) else roV z2 g i z19)=roV z2 g' i z19))/\A z3/\A ((bif decide (z9.toNat*z8+z6<=i*z8+z20/\i*z8+z20<z9.toNat*z8+z6+z15.toNat.min z15.toNat) then ag7 z5 z14 y (z6+(z6+(z13+(i*z8+z20-z23)))) else roV z2 g i z20)=roV z2 g' i z20))/\A z3/\A ((bif decide (z9.toNat*z8+z6<=i*z8+z21/\i*z8+z21<z9.toNat*z8+z6+z15.toNat.min z15.toNat) then ag7 z5 z14 y (z6+(z6+(z13+(i*z8+z21-z23)))) else roV z2 g i z21)=roV z2 g' i z21))/\A z3/\A ((bif decide (z9.toNat*z8+z6<=i*z8+z22/\i*z8+z22<z9.toNat*z8+z6+z15.toNat.min z15.toNat) then ag7 z5 z14 y (z6+(z6+(z13+(i*z8+z22-z23)))) else roV z2 g i z22)=roV z2 g' i z22)))/\True)/\A ((roJ z2).meas g'<(roJ z2).meas g))) (True/\True/\True/\A (ns=ns)/\∀ i:Nat,let z27:=(x0+(↑i:Int)); i<ns->((((((((True/\A z3/\A (roV z2 g i z6=am4 z5 k z27 y z6))/\A z3/\A (roV z2 g i z13=am4 z5 k z27 y z13))/\A z3/\A (roV z2 g i z17=am4 z5 k z27 y z17))/\A z3/\A (roV z2 g i z18=am4 z5 k z27 y z18))/\A z3/\A (roV z2 g i z19=am4 z5 k z27 y z19))/\A z3/\A (roV z2 g i z20=am4 z5 k z27 y z20))/\A z3/\A (roV z2 g i z21=am4 z5 k z27 y z21))/\A z3/\A (roV z2 g i z22=am4 z5 k z27 y z22))))))))) (by kernel_rfl) ?_;simp only [chp];delta qG qI qM qS qT
  simp only [cln];have hs:∀ nd j,SVle [] [] (ndX nd j) (ndX nd j)=True:=fun nd j=>uF (SVle.refl [] [] (an3 nd j))
  have e:ndOf (lst (itL x++[.int .i64 t,mxS x mx,.sl m 1 (fun a _=> .ifc (ndT (kd a)) (fun _=> .ref 37 (ndX (kd a))))])) = .grp t mx x m kd:=by rw [<-aj2]; exact aq2 _
  simp only [e,hs,lw,ud,xC,xD,xp];have hc:(lst (itL x++[.int .i64 t,mxS x mx,.sl m 1 (fun a _=> .ifc (ndT (kd a)) (fun _=> .ref 37 (ndX (kd a))))]))=ndX (.grp t mx x m kd):=(aj2 _ _ _ _ _).symm;generalize lst (itL x++_)=C at *
  have hC:SVle [] [] (C 35) (C 35):=by rw [hc]; exact SVle.refl [] [] (an3 _ 35)
  have hy : -8192<=y/\y<8192:=hg.y;have h0 : -8192<=x0:=hg.x0;have h1:x0+ns<=8192:=hg.x1;have hp:0<ns:=hg.pos;have hk1:1<=k:=hg.k1;have hk8:k<=8:=hg.k8;have hm:m<=4294967296:=hg.n;have hA:∀ q i,isU9 (roA q i):=fun q i j=>by
   unfold roA ad5;split
   ·split<;>omega
   ·omega
  refine ⟨by omega,by omega,⟨0,lm _,⟨by omega,rfl⟩,hC,by omega,fun i _=>?_⟩,fun q hq=>⟨fun hlt=>?_,fun hge=>?_⟩⟩
  ·have hz:∀ j,(0:Int)=roA 0 i j:=fun j=>(lb (lj i)).symm
   exact all9 hz
  ·have hlt:q<ns:=by omega
   have st:=bE5 q;exact ⟨by omega,hlt,by omega,q+1,hlt,⟨by simp,hC,fun i _=>⟨⟨⟨⟨⟨⟨⟨⟨st i 0,st i 1⟩,st i 2⟩,st i 3⟩,st i 4⟩,st i 5⟩,st i 6⟩,st i 7⟩,st i 8⟩⟩,(show ns-(q+1)<ns-q by omega)⟩
  ·have hq:q<=ns:=hq;have hb:BdOK ⟨⟨y,x0,x0+ns⟩,C,.grp t mx x m kd,ns,roA q,roA q⟩:=⟨hy,h0,h1,by show (ns:Int)=x0+ns-x0; omega,hp,fun i _=>hA q i,fun i _=>hA q i⟩
   have hfin:∀ i,i<ns->PnG.pt ⟨⟨y,x0,x0+ns⟩,C,.grp t mx x m kd,ns,roA q,roA q⟩ m i=ag7 (.grp t mx x m kd) (x0+i) y:=fun i hi=>by
    have:roA q i=ad5:=funext fun j=>lg (by omega)
    show pntK kd x.knock (x0+i) y (roA q i) m=pntK kd x.knock (x0+i) y ad5 m;rw [this]
   refine ⟨⟨hC,hc,rfl,hm,hg.kid,hb⟩,by omega,⟨0,lm _,rfl,hC,fun i hi=>all9 fun j=>congrFun (hfin i hi) j,fun i _=>?_⟩,fun r hr=>⟨fun hlt=>?_,fun hge i hi=>?_⟩⟩
   ·have hz:∀ j,(0:Int)=roV ⟨C,.grp t mx x m kd,k,y,x0,ns⟩ 0 i j:=fun j=>(lb (lj i)).symm
    exact all8 hz
   ·have hlt:r<ns:=by omega
    have st:=fun i j h=>bE4 (g:=⟨C,.grp t mx x m kd,k,y,x0,ns⟩) hk8 r i j h
    exact ⟨by omega,hlt,by omega,by omega,by omega,by omega,by omega,r+1,hlt,⟨by simp,hC,fun i _=>⟨⟨⟨⟨⟨⟨⟨st i 0 (by decide),st i 1 (by decide)⟩,st i 2 (by decide)⟩,st i 3 (by decide)⟩,st i 4 (by decide)⟩,st i 5 (by decide)⟩,st i 6 (by decide)⟩,st i 7 (by decide)⟩⟩,(show ns-(r+1)<ns-r by omega)⟩
   ·have hz:∀ j,roV ⟨C,.grp t mx x m kd,k,y,x0,ns⟩ r i j=am4 (.grp t mx x m kd) k (x0+i) y j:=fun j=>lg (by omega)
    exact all8 hz
end Lrw
set_option linter.unusedSimpArgs false
set_option linter.unusedVariables false
namespace Lto
open Go.RowKit Sx Num Aff Afi Img Imh Imp Imq Rga Blend Ble Lsg Lta Lrd Lri Luc Lck Lgr Lcs Lst Lch Lcl Lgp Lsc Cmp Lpm Lpa Lpr Lbt Lpn Lpc Lpd Lpe Lpf Lrw
theorem bD9 {P:Program}{f:FuncId}{γ:Type}{dec:List SV->Option γ}{args:γ->List SV}{pre:γ->Prop}{res res':γ->SV}(h:aa2 P (aa3 f dec args pre res)) (hp:∀ g,pre g->ac6 6 (res g)=true) (hl:∀ g,pre g->SVle [] [] (res g) (res' g)):aa2 P (aa3 f dec args pre res'):=by
 refine ⟨h.1,fun _ _ _ _ _ _ _ hr=>hr,fun l H nm y hrun hask w0 X0 E w hrep hf vals ha=>?_⟩;simp only [aa3] at hrun;split at hrun
 case h_2=>cases hrun
 rename_i hpu;split at hrun
 case h_2=>cases hrun
 rename_i g hdec;cases hrun;obtain ⟨hle,⟨hpre⟩⟩:=hask;refine (h.2.2 l H nm ⟨aa3.leArgs l (args g)/\Sx.Ask (pre g),res g,.keep⟩ (by simp only [aa3,hpu,hdec]) ⟨hle,⟨hpre⟩⟩ w0 X0 E w hrep hf vals ha).mono ?_;rintro e w' ⟨v,rfl,E',a1,a2,a3,a4,a5,a6⟩;exact ⟨v,rfl,E',a1,a2,a3,a4,up (bl6 (fun _ hb=>hb) (hl g hpre) (ae1 6 _ _ (hp g hpre) a5)),a6⟩
def ndG (L:LsG) (B:Bld):Nat->Nat->Nd
 | 0,_=> .grp 0 true zIt 0 (fun _=> .fill 0 zIt)
 | f+1,g=> .grp (if g=0 then -1 else (B.it g:Nat)) (decide (g=0)) (if g=0 then zIt else L.it (B.it g)) (B.m g) fun a=>match B.kid g a with
  | none=> .fill (B.leaf g a) (L.it (B.leaf g a))
  | some k=>ndG L B f k
theorem ndG_T (L:LsG) (B:Bld) (f g:Nat):ndT (ndG L B f g)=TPg:=by cases f<;>rfl
theorem b54 {l:List SV}{j:Nat}(h:l.length<=j):lst l j = .any:=by
 show l.getD j .any = .any;rw [la,xl h]; rfl
theorem b51 {L:LsG}{B:Bld}{i:Nat}(hb:BldOK B i):∀ f g,g<B.n->B.n<=g+f->SVle [] [] (.ref 37 (grpC L B f g)) (.ref 37 (ndX (ndG L B f g))):=by
 intro f;induction f with
 | zero=>intro g h1 h2; omega
 | succ f ih=>
  intro g hg hf;have e:ndX (ndG L B (f+1) g)=lst (itL (if g=0 then zIt else L.it (B.it g))++[.int .i64 (if g=0 then -1 else (B.it g:Nat)),mxS (if g=0 then zIt else L.it (B.it g)) (decide (g=0)),.sl (B.m g) 1 (fun a _=> .ifc (ndT (match B.kid g a with
   | none=> .fill (B.leaf g a) (L.it (B.leaf g a))
   | some k=>ndG L B f k)) (fun _=> .ref 37 (ndX (match B.kid g a with
   | none=> .fill (B.leaf g a) (L.it (B.leaf g a))
   | some k=>ndG L B f k))))]):=aj2 _ _ _ _ _
  show (if 37<=37 then allN 37 fun j=>SVle [] [] (grpC L B (f+1) g j) (ndX (ndG L B (f+1) g) j) else False);rw [lg (lh 37),e];refine aq9 (fun j=>?_) 37;by_cases hj:j=36
  ·subst hj;show (if 1=1 then Sx.Ask (B.m g=B.m g)/\∀ a,a<B.m g->allN 1 fun j=>SVle [] [] (.ifc ((B.kid g a).elim TPf fun _=>TPg) (fun _=> .ref 37 ((B.kid g a).elim (lfC L B g a) (grpC L B f)))) _ else False);rw [lg rfl];refine ⟨⟨rfl⟩,fun a ha=>⟨trivial,?_⟩⟩;cases hk:B.kid g a with
   | none=>
    refine ⟨⟨rfl⟩,?_⟩;show SVle [] [] (.ref 37 (lfC L B g a)) (.ref 37 (ndX (.fill (B.leaf g a) (L.it (B.leaf g a)))));have e2:lfC L B g a=ndX (.fill (B.leaf g a) (L.it (B.leaf g a))):=by
     rw [aF8,ar8]; rfl
    rw [e2];exact SVle.refl [] [] (fun j=>an3 _ j)
   | some k=>
    have hkid:=hb.kid g a k hg ha hk;exact ⟨⟨(ndG_T L B f k).symm⟩,ih k hkid.2 (by omega)⟩
  ·by_cases hl:37<=j
   ·rw [b54 (by simpa [itL,srcL,inkL,imgL] using hl)];unfold SVle;exact True.intro
   ·have h1:grpC L B (f+1) g j=hdF L B g j:=by
     show (bif Nat.beq j 36 then _ else hdF L B g j)=_;have:Nat.beq j 36=false:=by
      cases h:Nat.beq j 36 with
      | false=>rfl
      | true=>exact absurd (lx h) hj
     rw [this]; rfl
    have h2:∀ (l:List SV) (s:SV),l.length=36->lst (l++[s]) j=lst l j:=fun l s h=>ba2 (by omega)
    have h3:hdF L B g j=lst (itL (if g=0 then zIt else L.it (B.it g))++[.int .i64 (if g=0 then -1 else (B.it g:Nat)),mxS (if g=0 then zIt else L.it (B.it g)) (decide (g=0))]) j:=by
     unfold hdF;by_cases hg0:g=0
     ·rw [lg hg0,lg hg0,lg hg0,lk hg0]; rfl
     ·rw [lb hg0,lb hg0,lb hg0,li hg0]; rfl
    have h4:=h2 (itL (if g=0 then zIt else L.it (B.it g))++[.int .i64 (if g=0 then -1 else (B.it g:Nat)),mxS (if g=0 then zIt else L.it (B.it g)) (decide (g=0))]) (.sl (B.m g) 1 (fun a _=> .ifc (ndT (match B.kid g a with
   | none=> .fill (B.leaf g a) (L.it (B.leaf g a))
   | some k=>ndG L B f k)) (fun _=> .ref 37 (ndX (match B.kid g a with
   | none=> .fill (B.leaf g a) (L.it (B.leaf g a))
   | some k=>ndG L B f k))))) (by simp [itL,srcL,inkL,imgL])
    rw [xj] at h4;have h5:=h4.trans h3.symm;have h6:SVle [] [] (hdF L B g j) (hdF L B g j):=SVle.refl [] [] (bz0 L B g j);rw [h1];exact h5▸h6
structure LsU8 (L:LsG):Prop where
 alpha:∀ i,i<L.n->0<=(L.it i).alpha/\(L.it i).alpha<=255
 ink:∀ i,i<L.n->u8i (L.it i).src.ink
 st:∀ i,i<L.n->∀ j,j<(L.it i).src.ns->u8i ((L.it i).src.st j).ink
 px:∀ i,i<L.n->∀ j,j<(L.it i).src.img.n->ao0 ((L.it i).src.img.px j)
 sf:∀ i,i<L.n->∀ j,j<(L.it i).src.img.sn->0<=(L.it i).src.img.sf j/\(L.it i).src.img.sf j<=255
 nr:∀ i,i<L.n->(L.it i).nr<=9223372036854775807
structure ChkOK (L:LsG):Prop where
 w:1<=L.w/\L.w<=256
 h:1<=L.h/\L.h<=256
 ni:1<=L.ni/\L.ni<=8
 n:L.n<=5000
 it:∀ i,i<L.n->itE L i=0
theorem az4 {L:LsG}(h:chkL L=0):ChkOK L:=by
 unfold chkL at h;split at h
 ·omega
 split at h
 ·omega
 split at h
 ·omega
 split at h
 ·omega
 split at h
 ·omega
 rename_i h1 h2 h3 h4 h5;exact ⟨by omega,by omega,by omega,by omega,fun i hi=>ay0 _ _ (xc.1 h5) i (lm _) (by omega)⟩
theorem cs_ok {s:Src}{n:Nat}(h:csE s n=0) (h1:u8i s.ink) (h2:∀ j,j<s.ns->u8i (s.st j).ink) (h3:∀ j,j<s.img.n->ao0 (s.img.px j)) (h4:∀ j,j<s.img.sn->0<=s.img.sf j/\s.img.sf j<=255):SrcOK s:=by
 unfold csE at h;refine ⟨h1,fun k0 k3=>?_,fun k3=>?_⟩
 ·rw [lb k0] at h;split at h
  ·split at h
   ·omega
   ·rename_i h5;exact ⟨xc.1 h5,h2⟩
  ·omega
 ·rw [lb (by omega),lb (by omega),lg k3] at h;split at h
  ·omega
  ·split at h
   ·omega
   ·rename_i h5;exact ⟨xc.1 h5,h3,h4⟩
structure ItOK (L:LsG) (i:Nat):Prop where
 kind:(L.it i).kind=0\/(L.it i).kind=1\/(L.it i).kind=2
 blend:0<=(L.it i).blend/\(L.it i).blend<=11
 close:(L.it i).kind=2->opI L i≠0
 opn:(L.it i).kind=1->opI L i<16
 fill:(L.it i).kind=0->aj0 ⟨(L.it i).nr,(L.it i).runs⟩=0/\csE (L.it i).src L.ni=0
theorem bn9 {L:LsG}{i:Nat}(h:itE L i=0):ItOK L i:=by
 unfold itE ciE at h;split at h
 ·omega
 split at h
 ·omega
 split at h
 ·omega
 split at h
 ·omega
 split at h
 ·omega
 rename_i h1 h2 h3 h4 h5;refine ⟨by omega,by omega,fun hk ho=>h3 ⟨hk,ho⟩,fun hk=>by omega,fun hk=>?_⟩;rw [lb (by omega)] at h;split at h
 ·rename_i h6; exact absurd h h6
 ·rename_i h6; exact ⟨xc.1 h6,h⟩
theorem bI8 {L:LsG}(hc:ChkOK L):∀ i,i<=L.n->0<=opI L i/\((bld L i).d:Int)=opI L i+1
 | 0,_=>by simp [opI,bld]
 | i+1,hi=>by
  have ih:=bI8 hc i (by omega);have hit:=bn9 (hc.it i (by omega));simp only [opI,bld,aH3];rcases hit.kind with hk | hk | hk
  ·rw [lb (by omega),lb (by omega),lg hk];exact ih
  ·rw [lg hk,lb (by omega),lg hk];show 0<=opI L i+1/\(((bld L i).d+1:Nat):Int)=_;omega
  ·rw [lb (by omega),lg hk,lb (by omega),lb (by omega)];have:=hit.close hk
   show 0<=opI L i-1/\(((bld L i).d-1:Nat):Int)=_;omega
theorem bH2 {L:LsG}(hc:ChkOK L):LsOK L:=by
 refine ⟨hc.n,fun i hi=>?_,fun i hi=>(bn9 (hc.it i hi)).blend,fun i hi hk=>?_⟩
 ·have:=(bn9 (hc.it i hi)).kind; omega
 ·have h1:=(bn9 (hc.it i hi)).close hk;have h2:=bI8 hc i (by omega);omega
theorem bz9 {L:LsG}(hc:ChkOK L) (hu:LsU8 L) {i:Nat}(hi:i<L.n) (hk:(L.it i).kind=0):FillOK (L.it i)/\Vr (L.it i).nr (L.it i).runs:=by
 have hit:=bn9 (hc.it i hi);have hf:=hit.fill hk;exact ⟨⟨cs_ok hf.2 (hu.ink i hi) (hu.st i hi) (hu.px i hi) (hu.sf i hi),hu.alpha i hi,hit.blend⟩,vr_of hf.1⟩
def GrpOK (L:LsG) (B:Bld) (i:Nat):Prop:=∀ g,0<g->g<B.n->B.it g<i/\(L.it (B.it g)).kind=1
theorem bz2 {L:LsG}(h:LsOK L):∀ i,i<=L.n->GrpOK L (bld L i) i
 | 0,_=>fun g h0 hg=>by simp [bld] at hg; omega
 | i+1,hi=>by
  have ih:=bz2 h i (by omega);simp only [bld,aH3];split
  ·intro g h0 hg;have:=ih g h0 hg
   exact ⟨by have:=this.1; show (bld L i).it g<i+1; omega,this.2⟩
  ·split
   ·rename_i hk;intro g h0 hg;have hg:g<(bld L i).n+1:=hg;show (if g=(bld L i).n then i else (bld L i).it g)<i+1/\(L.it (if g=(bld L i).n then i else (bld L i).it g)).kind=1;by_cases e:g=(bld L i).n
    ·rw [lg e]; exact ⟨by omega,hk⟩
    ·rw [lb e];have:=ih g h0 (by omega)
     exact ⟨by omega,this.2⟩
   ·intro g h0 hg;have:=ih g h0 hg
    exact ⟨by have:=this.1; show (bld L i).it g<i+1; omega,this.2⟩
theorem b50 {L:LsG}(hc:ChkOK L) (hu:LsU8 L):∀ f g,0<g->g<(bld L L.n).n->(bld L L.n).n<=g+f->NdOK f (ndG L (bld L L.n) f g):=by
 have hl:=bH2 hc;have hb:=ak9 hl L.n (lh _);have hlf:=aT9 hl L.n (lh _);have hgr:=bz2 hl L.n (lh _);have hn:=hc.n;intro f;induction f with
 | zero=>intro g h0 h1 h2; omega
 | succ f ih=>
  intro g h0 hg hf;have hgi:=hgr g h0 hg;have e:ndG L (bld L L.n) (f+1) g = .grp ((bld L L.n).it g:Nat) false (L.it ((bld L L.n).it g)) ((bld L L.n).m g) fun a=>match (bld L L.n).kid g a with
   | none=> .fill ((bld L L.n).leaf g a) (L.it ((bld L L.n).leaf g a))
   | some k=>ndG L (bld L L.n) f k:=by
   show Nd.grp _ _ _ _ _=_;rw [lb (by omega),lb (by omega),li (by omega)]
  rw [e];refine .grp (by have:=hb.m g hg; omega) rfl (hu.alpha _ hgi.1) (bn9 (hc.it _ hgi.1)).blend fun a ha=>?_
  cases hk:(bld L L.n).kid g a with
  | none=>
   have:=hlf g a hg ha hk
   have:=bz9 hc hu this.1 this.2
   exact .fill this.1 this.2
  | some k=>
   have:=hb.kid g a k hg ha hk
   exact ih k (by omega) this.2 (by omega)
def ndP (L:LsG):Nd:=ndG L (bld L L.n) (Nat.succ (bld L L.n).n) 0
structure PgOK (d:Nat) (nd:Nd):Prop where
 isg:ndT nd=TPg
 n:nd.n<=4294967296
 kid:∀ a,a<nd.n->NdOK d (nd.k a)
theorem bN8 {L:LsG}(hc:ChkOK L) (hu:LsU8 L):PgOK (bld L L.n).n (ndP L):=by
 have hl:=bH2 hc;have hb:=ak9 hl L.n (lh _);have hlf:=aT9 hl L.n (lh _);have hn:=hc.n;refine ⟨rfl,(by show (bld L L.n).m 0<=_; have:=hb.m 0 hb.n1; omega),fun a ha=>?_⟩;have ha:a<(bld L L.n).m 0:=ha;show NdOK (bld L L.n).n (match (bld L L.n).kid 0 a with
   | none=> .fill ((bld L L.n).leaf 0 a) (L.it ((bld L L.n).leaf 0 a))
   | some k=>ndG L (bld L L.n) (bld L L.n).n k)
 cases hk:(bld L L.n).kid 0 a with
 | none=>
  have:=hlf 0 a hb.n1 ha hk
  have:=bz9 hc hu this.1 this.2
  exact .fill this.1 this.2
 | some k=>
  have:=hb.kid 0 a k hb.n1 ha hk
  exact b50 hc hu _ k (by omega) this.2 (by omega)
noncomputable def br9:FSpec:=aa3 39 (γ:=LsG) (fun | [.agg _ g]=>some (lsD g) | _=>none) (fun g=>[lsS g]) LsOK (fun g=> .ref 37 (ndX (ndP g)))
theorem bF4:aa2 Tryz.prog br9:=bD9 bR5 (fun _ _=>rfl) fun L hL=>b51 (ak9 hL L.n (lh _)) _ 0 (ak9 hL L.n (lh _)).n1 (by omega)
end Lto
set_option linter.unusedSimpArgs false
set_option linter.unusedVariables false
namespace Lat
open Go.RowKit Sx Num Aff Afi Img Imh Imp Imq Rga Blend Ble Lsg Lta Lrd Lri Luc Lck Lgr Lcs Lst Lch Lcl Lgp Lsc Cmp Lpm Lpa Lpr Lbt Lpn Lpc Lpd Lpe Lpf Lrw Lto
set_option maxRecDepth 100000
theorem bP9 {P:Program}{f:FuncId}{γ δ:Type}{dec:List SV->Option γ}{args:γ->List SV}{pre:δ->γ->Prop}{res:γ->SV}(d0:δ) (h:∀ d,aa2 P (aa3 f dec args (pre d) res)):aa2 P (aa3 f dec args (fun g=>∃ d,pre d g) res):=by
 refine ⟨(h d0).1,fun _ _ _ _ _ _ _ hr=>hr,fun l H nm y hrun hask w0 X0 E w hrep hf vals ha=>?_⟩;simp only [aa3] at hrun;split at hrun
 case h_2=>cases hrun
 rename_i hpu;split at hrun
 case h_2=>cases hrun
 rename_i g hdec;cases hrun;obtain ⟨hle,⟨d,hpre⟩⟩:=hask;exact (h d).2.2 l H nm ⟨aa3.leArgs l (args g)/\Sx.Ask (pre d g),res g,.keep⟩ (by simp only [aa3,hpu,hdec]) ⟨hle,⟨hpre⟩⟩ w0 X0 E w hrep hf vals ha
noncomputable def bK4:FSpec:=aa3 23 (γ:=RoG) (fun | [.agg _ p,.int _ y,.int _ x0,.int _ x1]=>some ⟨ax0 (p 0),ndOf (ax0 (p 0)),(Sx.intOf (p 1)).toNat,y,x0,(x1-x0).toNat⟩ | _=>none)
 (fun g=>[.agg 2 (lst [.ref 37 g.c,.int .i64 g.k]),.int .i64 g.y,.int .i64 g.x0,.int .i64 (g.x0+g.ns)]) (fun g=>∃ d,RoOK d g) (fun g=> .sl g.ns 8 (fun i j=> .int .u8 (am4 g.nd g.k (g.x0+i) g.y j)))
theorem bS0:aa2 Tryz.prog bK4:=bP9 0 bv5
noncomputable def bZ6:FSpec:=aa3 22 (γ:=LsG) (fun | [.agg _ g]=>some (lsD g) | _=>none) (fun g=>[lsS g]) LsOK (fun g=> .agg 2 (lst [.ref 37 (ndX (ndP g)),.int .i64 g.ni]))
theorem b27:aa2 Tryz.prog bZ6:=by
 refine ssW (specs:=[br9]) (⟨bF4,trivial⟩) Tryz.func22 (fun g=>A0) ?_;rintro L hL;refine ab2 (B:=let V:=fun p:SV=>SVle [] [] p p;let A:=Sx.Ask;let z1:=(IntKind.i64=IntKind.i64);let q1:=fun p:Int=>A z1/\A (p=p);let z0:=(ndP L);True/\True/\True/\((((((True/\q1 L.w)/\q1 L.h)/\A (L.ni=L.ni)/\∀ i:Nat,i<L.ni->True/\A (L.nm i=L.nm i))/\A (L.n=L.n)/\∀ i:Nat,i<L.n->(qT True (L.it i) (L.it i)))/\True)/\A (LsOK L))/\True/\True/\True/\True/\True/\(True/\True)/\(True/\(chp True (fun j:Nat=>V (ndX z0 j)) 36)/\V (ndX z0 (36:Nat)))/\q1 ((↑L.ni:Int))) (by kernel_rfl) ?_;simp only [chp];delta qG qI qM qS qT
 simp only [cln];have hs:∀ nd j,SVle [] [] (ndX nd j) (ndX nd j)=True:=fun nd j=>uF (SVle.refl [] [] (an3 nd j))
 simp only [hs,ud,xC];exact hL
structure AtL where
 L:LsG
 x:Int
 y:Int
def AtL.e (g:AtL):Int:=if chkL g.L≠0 then chkL g.L else if g.x<0\/16*g.L.w<=g.x\/g.y<0\/16*g.L.h<=g.y then 3 else 0
def AtL.v (g:AtL) (j:Nat):Int:=if g.e=0 then am4 (ndP g.L) g.L.ni g.x g.y j else 0
def endR (L:LsG) (o:Int):Nat->Nat->Nat
 | 0,k=>k
 | m+1,k=>if opI L (k+1)=o then k else endR L o m (k+1)
structure EnG where
 L:LsG
 i:Nat
def EnG.r (g:EnG):Nat:=endR g.L (opI g.L g.i) (g.L.n-g.i) g.i
structure EnOK (g:EnG):Prop where
 n:g.L.n<=5000
 ex:∃ k,g.i<=k/\k<g.L.n/\opI g.L (k+1)=opI g.L g.i
structure CoG where
 L:LsG
 i:Int
 x:Int
 y:Int
def CoG.to (g:CoG):Nat:=if (g.L.it g.i.toNat).kind=1 then EnG.r ⟨g.L,g.i.toNat⟩ else g.i.toNat+1
def covI (L:LsG) (x y:Int) (k:Nat):Prop:=(L.it k).kind=0/\(InG.mk (L.it k).nr (L.it k).runs x y).is
instance (L:LsG) (x y:Int) (k:Nat):Decidable (covI L x y k):=inferInstanceAs (Decidable (_/\_))
def CoG.cv (g:CoG) (m:Nat):Prop:=∃ k,k<m/\covI g.L g.x g.y (g.i.toNat+k)
instance (g:CoG) (m:Nat):Decidable (g.cv m):=inferInstanceAs (Decidable (∃ k,k<m/\_))
def CoG.e (g:CoG):Int:=if chkL g.L≠0 then chkL g.L else if g.i<0\/g.L.n<=g.i then 3 else if (g.L.it g.i.toNat).kind=2 then 14 else 0
def CoG.b (g:CoG):Bool:=decide (g.e=0)&&decide (g.cv (g.to-g.i.toNat))
end Lat
set_option linter.unusedSimpArgs false
set_option linter.unusedVariables false
namespace Lun
open Go.RowKit Sx Num Aff Afi Img Imh Imp Imq Rga Blend Ble Lsg Lta Lrd Lri Luc Lck Lgr Lcs Lst Lch Lcl Lgp Lsc Cmp Lpm Lpa Lpr Lbt Lpn Lpc Lpd Lpe Lpf Lrw Lto Lat
end Lun
set_option linter.unusedSimpArgs false
set_option linter.unusedVariables false
namespace Ltp
open Go.RowKit Sx Num Aff Afi Img Imh Imp Imq Rga Blend Ble Lsg Lta Lrd Lri Luc Lck Lgr Lcs Lst Lch Lcl Lgp Lsc Cmp Lpm Lpa Lpr Lbt Lpn Lpc Lpd Lpe Lpf Lrw Lto Lat Lun
def snoc (L:LsG) (x:It):LsG:={ L with n:=L.n+1,it:=fun i=>if i=L.n then x else L.it i }
theorem aA3 {L:LsG}{x:It}{i:Nat}(h:i<L.n):(snoc L x).it i=L.it i:=lb (by omega)
theorem aF4 (L:LsG) (x:It):(snoc L x).it L.n=x:=lg rfl
theorem aF6 {L:LsG}{x:It}:∀ i,i<=L.n->opI (snoc L x) i=opI L i
 | 0,_=>rfl
 | i+1,hi=>by
  unfold opI;rw [aA3 (by omega),aF6 i (by omega)]
theorem bi7 {L:LsG}{x:It}:∀ i,i<=L.n->bld (snoc L x) i=bld L i
 | 0,_=>rfl
 | i+1,hi=>by
  unfold bld;rw [aA3 (by omega),bi7 i (by omega)]
theorem aQ2 {e e':Nat->Int}:∀ m k,(∀ j,k<=j->j<k+m->e j=e' j)->fstE e m k=fstE e' m k
 | 0,_,_=>rfl
 | m+1,k,h=>by
  unfold fstE;rw [h k (lh _) (by omega),aQ2 m (k+1) fun j h1 h2=>h j (by omega) (by omega)]
theorem bb1 {e:Nat->Int}:∀ m k,(∀ j,k<=j->j<k+m->e j=0)->fstE e m k=0
 | 0,_,_=>rfl
 | m+1,k,h=>by
  unfold fstE;rw [lg (h k (lh _) (by omega))];exact bb1 m (k+1) fun j h1 h2=>h j (by omega) (by omega)
theorem bB3 {L:LsG}(h:chkL L=0):opI L L.n=0:=by
 have h1:=bI8 (az4 h) L.n (lh _);unfold chkL at h;repeat' split at h
 all_goals omega
theorem bI7 {L:LsG}{x:It}(h:chkL L=0) (hn:L.n<5000) (hk:x.kind=0) (hx:ciE x L.ni 0=0):chkL (snoc L x)=0:=by
 have hc:=az4 h;have h0:=bB3 h;have e1:fstE (itE (snoc L x)) (L.n+1) 0=0:=bb1 _ _ fun j _ hj=>by
  by_cases e:j=L.n
  ·subst e;unfold itE;rw [aF4,aF6 _ (lh _),h0];exact hx
  ·unfold itE;rw [aA3 (by omega),aF6 _ (by omega)];exact hc.it j (by omega)
 have e2:opI (snoc L x) (L.n+1)=0:=by
  show (if ((snoc L x).it L.n).kind=1 then _ else if ((snoc L x).it L.n).kind=2 then _ else opI (snoc L x) L.n)=0;rw [aF4,lb (by omega),lb (by omega),aF6 _ (lh _),h0]
 have hq:=h;unfold chkL at hq;split at hq
 ·omega
 split at hq
 ·omega
 split at hq
 ·omega
 split at hq
 ·omega
 split at hq
 ·omega
 rename_i h1 h2 h3 h4 h5;unfold chkL;have c1:¬ ((snoc L x).w<1\/256<(snoc L x).w\/(snoc L x).h<1\/256<(snoc L x).h):=h1;have c2:¬ ((snoc L x).ni<1\/8<(snoc L x).ni):=h2;have c3:¬ fstE (nmE (snoc L x)) (snoc L x).ni 0≠0:=h3;have c4:¬ 5000<(snoc L x).n:=show ¬ 5000<L.n+1 by omega
 have c5:¬ fstE (itE (snoc L x)) (snoc L x).n 0≠0:=fun hc=>hc e1
 have c6:¬ 0<opI (snoc L x) (snoc L x).n:=show ¬ 0<opI (snoc L x) (L.n+1) by omega
 rw [lb c1,lb c2,lb c3,lb c4,lb c5,lb c6]
def Alike (cx cy:Int) (a b:Nd):Prop:=a.cov cx cy=b.cov cx cy/\∀ p q,a.pnt cx cy p q=b.pnt cx cy p q
theorem aK0 {α:Type}{f f':Nat->α->α}{c:α}:∀ m,(∀ a,a<m->f a=f' a)->itN f c m=itN f' c m
 | 0,_=>rfl
 | m+1,h=>by
  show f m (itN f c m)=f' m (itN f' c m);rw [aK0 m fun a ha=>h a (by omega),h m (by omega)]
theorem bp5 {m:Nat}{p q:Nat->Bool}(h:∀ a,a<m->p a=q a):(List.range m).any p=(List.range m).any q:=by
 rw [Bool.eq_iff_iff,ug,ug];constructor
 ·rintro ⟨a,h1,h2⟩; exact ⟨a,h1,(h a (by simpa using h1))▸h2⟩
 ·rintro ⟨a,h1,h2⟩; exact ⟨a,h1,(h a (by simpa using h1)).symm▸h2⟩
theorem bz3 {cx cy:Int}{t t':Int}{mx mx':Bool}{x:It}{n:Nat}{k k':Nat->Nd}(h:∀ a,a<n->Alike cx cy (k a) (k' a)):Alike cx cy (.grp t mx x n k) (.grp t' mx' x n k'):=by
 have e:(List.range n).any (fun a=>(k a).cov cx cy)=(List.range n).any (fun a=>(k' a).cov cx cy):=bp5 fun a ha=>(h a ha).1
 refine ⟨?_,fun p q=>?_⟩
 ·unfold Nd.cov;exact e
 ·have ei:∀ (z:Cl) (g:Cl->Cl),itN (fun a st=>(k a).pnt cx cy (g st) st) z n=itN (fun a st=>(k' a).pnt cx cy (g st) st) z n:=fun z g=>aK0 n fun a ha=>funext fun st=>(h a ha).2 _ _
  unfold Nd.pnt;rw [e,ei _ (fun st=>if x.knock=true then (fun _=>0) else st),ei _ (fun st=>if x.knock=true then p else st)]
theorem bB4 {L:LsG}{x:It}(h:chkL L=0) (hk:x.kind=0) (cx cy:Int):ag7 (ndP (snoc L x)) cx cy=if covR x.runs x.nr cx cy then ae9 x cx cy (ag7 (ndP L) cx cy) else ag7 (ndP L) cx cy:=by
 have hc:=az4 h;have hl:=bH2 hc;have hb:=ak9 hl L.n (lh _);have hlf:=aT9 hl L.n (lh _);have hgr:=bz2 hl L.n (lh _);have hd:=bI8 hc L.n (lh _);have h0:=bB3 h;have hd:(bld L L.n).d=1:=by omega
 have hs:∀ i,i<=L.n->(bld L i).stk 0=0:=by
  intro i;induction i with
  | zero=>exact fun _=>rfl
  | succ i ih=>
   intro hi;have ih:=ih (by omega);have hbi:=ak9 hl i (by omega);have:=hbi.d1
   unfold bld aH3;split
   ·exact ih
   ·split
    ·show (if 0=(bld L i).d then (bld L i).n else (bld L i).stk 0)=0;rw [lb (by omega)]; exact ih
    ·exact ih
 have ht:(bld L L.n).top=0:=by
  unfold Bld.top;rw [hd]; exact hs _ (lh _)
 have eB:bld (snoc L x) (L.n+1)=(bld L L.n).push none L.n:=by
  show aH3 (bld (snoc L x) L.n) ((snoc L x).it L.n).kind L.n=_;rw [aF4,hk,bi7 _ (lh _)];exact lg rfl
 have al:∀ f g,0<g->g<(bld L L.n).n->(bld L L.n).n<=g+f->Alike cx cy (ndG (snoc L x) ((bld L L.n).push none L.n) f g) (ndG L (bld L L.n) f g):=by
  intro f;induction f with
  | zero=>intro g h1 h2 h3; omega
  | succ f ih=>
   intro g hg0 hg hf;have hgi:=hgr g hg0 hg;have em:((bld L L.n).push none L.n).m g=(bld L L.n).m g:=lb (by rw [ht]; omega);have ek:∀ a,((bld L L.n).push none L.n).kid g a=(bld L L.n).kid g a:=fun a=>lb (by rw [ht]; omega)
   have ef:∀ a,((bld L L.n).push none L.n).leaf g a=(bld L L.n).leaf g a:=fun a=>lb (by rw [ht]; omega)
   have ex:(snoc L x).it (((bld L L.n).push none L.n).it g)=L.it ((bld L L.n).it g):=aA3 hgi.1;unfold ndG;rw [lb (by omega),lb (by omega),ex,em,lb (by omega),lb (by omega)];refine bz3 fun a ha=>?_
   rw [ek,ef];cases hkd:(bld L L.n).kid g a with
   | none=>
    have:=hlf g a hg ha hkd
    simp only
    rw [aA3 this.1];exact ⟨rfl,fun _ _=>rfl⟩
   | some k=>
    have:=hb.kid g a k hg ha hkd
    exact ih k (by omega) this.2 (by omega)
 have eP:ndP (snoc L x)=ndG (snoc L x) ((bld L L.n).push none L.n) (Nat.succ (bld L L.n).n) 0:=by
  unfold ndP;show ndG (snoc L x) (bld (snoc L x) (L.n+1)) (Nat.succ (bld (snoc L x) (L.n+1)).n) 0=_;rw [eB];rfl
 rw [eP];have em:((bld L L.n).push none L.n).m 0=(bld L L.n).m 0+1:=lg ht.symm;show pntK (fun a=>match ((bld L L.n).push none L.n).kid 0 a with
   | none=> .fill (((bld L L.n).push none L.n).leaf 0 a) ((snoc L x).it (((bld L L.n).push none L.n).leaf 0 a))
   | some k=>ndG (snoc L x) ((bld L L.n).push none L.n) (bld L L.n).n k) false cx cy ad5 (((bld L L.n).push none L.n).m 0)=_
 rw [em,bu7];have ep:pntK (fun a=>match ((bld L L.n).push none L.n).kid 0 a with
   | none=> .fill (((bld L L.n).push none L.n).leaf 0 a) ((snoc L x).it (((bld L L.n).push none L.n).leaf 0 a))
   | some k=>ndG (snoc L x) ((bld L L.n).push none L.n) (bld L L.n).n k) false cx cy ad5 ((bld L L.n).m 0)=ag7 (ndP L) cx cy:=by
  show itN _ ad5 ((bld L L.n).m 0)=itN (fun a st=>Nd.pnt cx cy (match (bld L L.n).kid 0 a with
   | none=> .fill ((bld L L.n).leaf 0 a) (L.it ((bld L L.n).leaf 0 a))
   | some k=>ndG L (bld L L.n) (bld L L.n).n k) (if false=true then ad5 else st) st) ad5 ((bld L L.n).m 0)
  refine aK0 _ fun a ha=>funext fun st=>?_
  have ek:((bld L L.n).push none L.n).kid 0 a=(bld L L.n).kid 0 a:=lb (by omega);have ef:((bld L L.n).push none L.n).leaf 0 a=(bld L L.n).leaf 0 a:=lb (by omega);show Nd.pnt cx cy (match ((bld L L.n).push none L.n).kid 0 a with
   | none=> .fill (((bld L L.n).push none L.n).leaf 0 a) ((snoc L x).it (((bld L L.n).push none L.n).leaf 0 a))
   | some k=>ndG (snoc L x) ((bld L L.n).push none L.n) (bld L L.n).n k) _ st=_
  rw [ek,ef];cases hkd:(bld L L.n).kid 0 a with
  | none=>
   have:=hlf 0 a hb.n1 ha hkd
   simp only
   rw [aA3 this.1]
  | some k=>
   have:=hb.kid 0 a k hb.n1 ha hkd
   exact (al _ k (by omega) this.2 (by omega)).2 _ _
 rw [ep];have ek:((bld L L.n).push none L.n).kid 0 ((bld L L.n).m 0)=none:=lg ⟨ht.symm,rfl⟩;have ef:((bld L L.n).push none L.n).leaf 0 ((bld L L.n).m 0)=L.n:=lg ⟨ht.symm,rfl⟩;rw [ek,ef];show Nd.pnt cx cy (.fill L.n ((snoc L x).it L.n)) _ _=_;rw [aF4];unfold Nd.pnt;rfl
def opq (nr:Nat) (runs:Nat->Rn) (v:Ink):It:={ zIt with nr:=nr,runs:=runs,src:={ zSrc with ink:=v },alpha:=255 }
theorem nr_ex {p v:Int}(hp:1<=p):nr (p*v) p=v:=by
 have h:=aJ0 (p*v) p hp;generalize nr (p*v) p=r at h;obtain ⟨h1,h2⟩:=h;have a1:(r-v)*p<1*p:=by grind
 have a2:(-1)*p<(r-v)*p:=by grind
 have b1:r-v<1:=Int.lt_of_mul_lt_mul_right a1 (by omega);have b2 : -1<r-v:=Int.lt_of_mul_lt_mul_right a2 (by omega);omega
theorem bI1 (n:Nat) (f:Nat->Rn) (v:Ink) (cx cy:Int) (b:Cl) (j:Nat):ae9 (opq n f v) cx cy b (1+j)=inkF v j:=by
 have eq:It.q (opq n f v) cx cy=255:=by
  show aa9 (if (0:Int)=3 then _ else 255) 255=255;rw [lb (by decide)];decide
 have ea:Src.at (opq n f v).src cx cy=v:=lg rfl;unfold ae9;rw [eq,ea,lb (by decide)];have all:(PaintG.mk b (inkF v) 255 (aa4 0) false).all=65025:=by
  show 255*(b 0+255)-b 0*255=65025;omega
 show (if (PaintG.mk b (inkF v) 255 (aa4 0) false).all=0 then 0 else if 1+j=0 then _ else (PaintG.mk b (inkF v) 255 (aa4 0) false).new (1+j-1))=_;rw [all,lb (by decide),lb (by omega),show 1+j-1=j by omega];unfold PaintG.new;rw [all];rw [lb (by simp)];have em:(PaintG.mk b (inkF v) 255 (aa4 0) false).mix j=inkF v j:=by
  show 255-ak8 (aa4 0) _ (255-inkF v j)=_;unfold ak8;rw [aJ9 0 (by omega)];show 255-(255-inkF v j)=_;omega
 rw [em];show nr ((255-255)*b 0*b (1+j)+255*((255-b 0)*inkF v j+b 0*inkF v j)) 65025=_;have e:(255-255)*b 0*b (1+j)+255*((255-b 0)*inkF v j+b 0*inkF v j)=65025*inkF v j:=by grind
 rw [e];exact nr_ex (by decide)
theorem bu1 {L:List Rn}(h:vld L):aj0 ⟨L.length,rI L⟩=0:=bb1 _ _ fun i _ hi=>by
 have hi:i<L.length:=by simpa using hi
 have e:∀ k (hk:k<L.length),rI L k=L[k]:=fun k hk=>by
  unfold rI;rw [la,ln hk]; rfl
 have hok:=h.1 L[i] (xn hi);rw [<-e i hi] at hok;have c2:¬ (rI L i).x1<=(rI L i).x0:=by have:=hok.2; omega
 have c3:¬ (i≠0/\(rI L i).y<=(rI L (i-1)).y/\((rI L i).y<(rI L (i-1)).y\/(rI L i).x0<=(rI L (i-1)).x1)):=fun hc=>by
  obtain ⟨h1,h2,h3⟩:=hc;have hp:=xR.1 h.2 (i-1) i (by omega) hi (by omega);rw [<-e i hi,<-e (i-1) (by omega)] at hp;rcases hp with hp | hp<;>omega
 exact (lb (fun hc=>hc hok.1)).trans ((lb c2).trans (lb c3))
theorem b74 {n k:Nat}{f:Nat->Rn}{v:Ink}(hr:aj0 ⟨n,f⟩=0) (hf:ah3 ⟨inkF v,k⟩):ciE (opq n f v) k 0=0:=by
 have c1:¬ ((opq n f v).kind≠0/\(opq n f v).kind≠1/\(opq n f v).kind≠2):=fun hc=>hc.1 rfl
 have c2:¬ ak7 (opq n f v):=fun hc=>by
  unfold ak7 at hc;rw [lg (show (opq n f v).kind=0 from rfl)] at hc;rcases hc with hc | hc<;>exact Bool.noConfusion hc
 have c3:¬ ((opq n f v).kind=2/\(0:Int)=0):=fun hc=>absurd hc.1 (show ¬ (0:Int)=2 by decide)
 have c4:¬ ((opq n f v).kind=1/\(16:Int)<=0):=fun hc=>absurd hc.2 (by decide)
 have c5:¬ ((opq n f v).blend<0\/12<=(opq n f v).blend\/((opq n f v).kind=1/\(opq n f v).iso=false/\(opq n f v).blend≠0)):=fun hc=>by
  have h1:(opq n f v).blend=0:=rfl;have h2:(opq n f v).kind=0:=rfl;omega
 have c6:¬ (opq n f v).kind≠0:=fun hc=>hc rfl
 have c7:¬ aj0 ⟨(opq n f v).nr,(opq n f v).runs⟩≠0:=fun hc=>hc hr
 unfold ciE;rw [lb c1,lb c2,lb c3,lb c4,lb c5,lb c6,lb c7];have d1:¬ (¬ isZ (opq n f v).src\/¬ isNI (opq n f v).src.img):=fun hc=>by
  rcases hc with hc | hc
  ·exact hc ⟨⟨rfl,rfl⟩,⟨rfl,rfl⟩,rfl,rfl⟩
  ·exact hc ⟨⟨rfl,rfl⟩,⟨rfl,rfl⟩,⟨rfl,rfl,rfl,rfl,rfl,rfl⟩,rfl,rfl⟩
 unfold csE;rw [lg (show (opq n f v).src.kind=0 from rfl),lb d1];exact lg hf
end Ltp
set_option linter.unusedSimpArgs false
set_option linter.unusedVariables false
namespace Gat
open Go.RowKit Sx Num Aff Con Rga
set_option maxRecDepth 100000
def bU1:NSpec:=mkNS 26 (γ:=Unit) (fun | []=>some () | _=>none) (fun _=>[]) (fun _=>True) (fun _=> .own 0 0) (fun _=>[.cells 4 (lst [.omap 1,.cap0,.cap0,.lit false]) 108,.mpi (.arr 8 .u8) false (fun _=>false) (fun _=> .any)])
theorem b32:NewsOK Tryz.prog bU1:=by
 refine aX6 (specs:=[]) (az5 trivial) (eqs:=[]) (fun _ _ h=>(lJ h).elim) Aff.mixed Tryz.func26 rfl (by kernel_rfl) (fun _ _=>by kernel_rfl) (fun g=>A0) (fun g=>[1,0]) (fun g=>lH (by kernel_rfl)) ?_;rintro _ _;refine ab2 (B:=True/\True/\True/\True/\True/\True/\(Sx.Ask ((0:Nat)=(0:Nat))/\True)/\((((True/\True)/\True)/\True)/\Sx.Ask (false=false))/\(∀ (l:List Int),l.length=(8:Nat)->Sx.Ask (false=false)/\((false||false)=true->True))/\True) (by kernel_rfl) ?_;simp only [cln];done
structure AaG where
 n:Nat
 m:Nat->Nat
 p:Nat->Nat->Rn
 i:Nat
 g:AdG
def ptS (g:AaG) (v:Nat):SO:= .deep 0 g.n 1 3 g.m (fun k i=>lst (rnL (g.p k i))) (fun _=>lst []) 111 70 (some (g.i,.osl 1 v))
def aaD:List SV->List SO->Option AaG
 | [.ownAt _ _ i _ _,.int _ y,.int _ x0,.int _ x1],[.deep _ n _ _ m p _ _ _ _,.row _ len _ f _]=>some ⟨n,m,fun k j=>rnD (p k j),i,⟨len,fun j=>rnD (f j),⟨y,x0,x1⟩⟩⟩
 | _,_=>none
def bt3:FSpec:=ac3 58 [.arg 0,.hole 0] aaD (fun g=>[.ownAt 0 0 g.i 1 0,.int .i64 g.g.r.y,.int .i64 g.g.r.x0,.int .i64 g.g.r.x1])
 (fun g=>[ptS g 0,.row 0 g.g.n 3 (fun i=>lst (rnL (g.g.f i))) 70]) (fun g=>g.i<g.n/\g.g.n<=4294967296)
 (fun _=> .tup 0 (lst []))
 (fun g=>[ptS g 1,.row 1 g.g.L.length 3 (fun i=>lst (rnL (rI g.g.L i))) 70])
theorem bG7:aa2 Tryz.prog bt3:=by
 refine smW (specs:=[]) trivial Tryz.func58 (fun g=>A0) false ?_;rintro ⟨gn,gm,gp,gi,g⟩ hg;refine ab2 (B:=let T2:=fun p:Prop=>True/\True/\p;let T4:=fun p:Prop=>True/\True/\True/\True/\p;let T5:=fun p:Prop=>True/\True/\True/\True/\True/\p;let K:=Br;let A:=Sx.Ask;let z13:=(2:Nat);let z12:=(0:Nat);let z11:=(1:Nat);let z9:=(True/\True);let z8:=(↑g.n:Int);let z6:=(gi<gn/\gi=gi);let z5:=(g.n+z11<=(9223372036854775807:Nat)/\(g.n+z11)*(24:Nat)<=(140737488355328:Nat));let z4:=((0:Int)<=z8-(1:Int)/\z8-(1:Int)<z8);let z3:=(IntKind.i64=IntKind.i64);let q3:=fun p:Int=>A z3/\A (p=p);let z2:=(z8-(1:Int));let z10:=(z2.toNat<g.n);let z7:=(g.f z2.toNat);let z1:=(A (g.n+z11=g.L.length)/\∀ i:Nat,i<g.L.length->((True/\A z3/\A ((bif decide (i<g.n) then (g.f i).y else g.r.y)=(Rga.rI g.L i).y))/\A z3/\A ((bif decide (i<g.n) then (g.f i).x0 else g.r.x0)=(Rga.rI g.L i).x0))/\A z3/\A ((bif decide (i<g.n) then (g.f i).x1 else g.r.x1)=(Rga.rI g.L i).x1));let z0:=(A (gn=gn)/\(A (gi=gi)/\True)/\(∀ i:Nat,i<gn->i≠gi->A (gm i=gm i)/\∀ (i':Nat),i'<gm i->((True/\q3 ((gp i i').y))/\q3 ((gp i i').x0))/\q3 ((gp i i').x1))/\∀ i:Nat,i<gn->True);T2 (True/\K (decide (g.r.x1<=g.r.x0)) (T2 (z9/\z0/\(A (g.n=g.L.length)/\∀ i:Nat,i<g.L.length->((True/\A z3/\A ((g.f i).y=(Rga.rI g.L i).y))/\A z3/\A ((g.f i).x0=(Rga.rI g.L i).x0))/\A z3/\A ((g.f i).x1=(Rga.rI g.L i).x1))/\True)) (T2 (True/\A z6/\True/\A ((-9223372036854775808:Int)<=z8-(1:Int)/\z8-(1:Int)<=(9223372036854775807:Int))/\T4 (K (decide ((0:Int)<=z8-(1:Int))) (T2 (True/\A z6/\True/\A z4/\True/\A z10/\T4 (K (decide (z7.y=g.r.y)) (T4 (A z6/\True/\A z4/\True/\A z10/\T2 (K (decide (g.r.x0<=z7.x1)) (T2 (True/\A z6/\T4 (A z6/\True/\A z4/\True/\A z10/\T2 (A z4/\True/\A z10/\T2 (z9/\z0/\(A (g.n=g.L.length)/\∀ i:Nat,i<g.L.length->((True/\A z3/\A ((bif decide (i=z2.toNat/\z12+z13<=z12/\z12<z12+z13+z11) then if g.r.x1>z7.x1 then g.r.x1 else z7.x1 else (g.f i).y)=(Rga.rI g.L i).y))/\A z3/\A ((bif decide (i=z2.toNat/\z12+z13<=z11/\z11<z12+z13+z11) then if g.r.x1>z7.x1 then g.r.x1 else z7.x1 else (g.f i).x0)=(Rga.rI g.L i).x0))/\A z3/\A ((bif decide (i=z2.toNat/\z12+z13<=z13/\z13<z12+z13+z11) then if g.r.x1>z7.x1 then g.r.x1 else z7.x1 else (g.f i).x1)=(Rga.rI g.L i).x1))/\True))))) (T4 (A z6/\T5 (A z5/\T2 (A z6/\T2 (z9/\z0/\z1/\True)))))))) (T5 (A z6/\T5 (A z5/\T2 (A z6/\T2 (z9/\z0/\z1/\True)))))))) (T5 (T2 (A z6/\T5 (A z5/\T2 (A z6/\T2 (z9/\z0/\z1/\True))))))))))) (by kernel_rfl) ?_;simp only [cln];have hin:gi<gn:=hg.1;have hg:g.n<=4294967296:=hg.2;simp only [hin,xD];have hlen:(Rg.L ⟨g.n,g.f⟩).length=g.n:=Rg.len _;have hget:∀ i,i<g.n->rI (Rg.L ⟨g.n,g.f⟩) i=g.f i:=fun i hi=>Rg.rI (g:=⟨g.n,g.f⟩) hi
 have hL:g.L=addR (Rg.L ⟨g.n,g.f⟩) g.r:=rfl;generalize Rg.L ⟨g.n,g.f⟩=L at hlen hget hL;rw [hL];have app:∀ (i:Nat),i<(L++[g.r]).length->((bif decide (i<g.n) then (g.f i).y else g.r.y)=(rI (L++[g.r]) i).y/\(bif decide (i<g.n) then (g.f i).x0 else g.r.x0)=(rI (L++[g.r]) i).x0)/\(bif decide (i<g.n) then (g.f i).x1 else g.r.x1)=(rI (L++[g.r]) i).x1:=fun i hi=>by
  rw [bM9 L g.r i (by simpa using hi),hlen];by_cases h:i<g.n
  ·rw [lk h,lg h,hget i h]; exact ⟨⟨rfl,rfl⟩,rfl⟩
  ·rw [li h,lb h]; exact ⟨⟨rfl,rfl⟩,rfl⟩
 have bnd:g.n+1<=9223372036854775807/\(g.n+1)*24<=140737488355328:=by omega
 have e1:((g.n:Int)-1).toNat=g.n-1:=by omega
 rw [e1];refine ⟨fun h=>?_,fun h=>⟨by omega,fun h0=>?_,fun h0=>?_⟩⟩
 ·have e:addR L g.r=L:=lb (by omega);rw [e];exact ⟨hlen.symm,fun i hi=>by rw [hget i (by omega)]; exact ⟨⟨rfl,rfl⟩,rfl⟩⟩
 ·have hn:0<g.n:=by omega
  have hlast:L.getLast?=some (g.f (g.n-1)):=by
   rw [<-hget (g.n-1) (by omega),List.getLast?_eq_getElem?,hlen];unfold rI;rw [la,ln (show g.n-1<L.length by omega)];rfl
  have ea:addR L g.r=if (g.f (g.n-1)).y=g.r.y/\g.r.x0<=(g.f (g.n-1)).x1 then L.dropLast++[⟨(g.f (g.n-1)).y,(g.f (g.n-1)).x0,if g.r.x1>(g.f (g.n-1)).x1 then g.r.x1 else (g.f (g.n-1)).x1⟩] else L++[g.r]:=by
   unfold addR;rw [lg (by omega),hlast]
  have q1:0<=(g.n:Int)-1/\(g.n:Int)-1<g.n:=by omega
  have q2:g.n-1<g.n:=by omega
  refine ⟨q1,q2,fun hy=>⟨q1,q2,fun hx=>⟨q1,q2,q1,q2,?_⟩,fun hx=>⟨bnd,?_⟩⟩,fun hy=>⟨bnd,?_⟩⟩
  ·rw [ea,lg ⟨hy,hx⟩];refine ⟨by rw [lv,xz,xu]; omega,fun i hi=>?_⟩;rw [bu5 L _ i (by rw [lv,xz,xu] at hi; omega) (by omega),hlen];by_cases h:i=g.n-1
   ·rw [li (by omega),li (by omega),lk ⟨h,by omega⟩,lg h,h];exact ⟨⟨rfl,rfl⟩,rfl⟩
   ·rw [li (by omega),li (by omega),li (by omega),lb h,hget i (by rw [lv,xz,xu] at hi; omega)];exact ⟨⟨rfl,rfl⟩,rfl⟩
  ·rw [ea,lb (fun h=>hx h.2)];exact ⟨by simp [hlen],app⟩
  ·rw [ea,lb (fun h=>hy h.1)];exact ⟨by simp [hlen],app⟩
 ·have hn:g.n=0:=by omega
  have eL:L=[]:=uO.1 (by omega);have ea:addR L g.r=L++[g.r]:=by
   unfold addR;rw [lg (by omega),eL];rfl
  rw [ea];exact ⟨bnd,by simp [hlen],app⟩
structure Gt where
 has:List Int->Bool
 val:List Int->Int
 n:Nat
 m:Nat->Nat
 p:Nat->Nat->Rn
 ink:Nat->Nat->Int
 full:Bool
def kOf (v:Nat->Int):List Int:=[v 0,v 1,v 2,v 3,v 4,v 5,v 6,v 7]
def nul:List Int:=[0,0,0,0,0,0,0,0]
def grw (G:Gt) (k:Nat) (r:Rn):List Rn:=addR (Rg.L ⟨G.m k,G.p k⟩) r
def putP (G:Gt) (k:Nat) (L:List Rn):Gt:={ G with m:=updN G.m k L.length,p:=fun i j=>bif decide (i=k) then rI L j else G.p i j }
def fresh (G:Gt) (v:Nat->Int):Gt:={ G with has:=putH G.has (kOf v),val:=fun l=>bif decide (l=kOf v) then (G.n:Int) else G.val l,n:=G.n+1,m:=updN G.m G.n 0,ink:=fun i j=>bif decide (i<G.n) then G.ink i j else v j }
def nxtB (G:Gt) (v:Nat->Int) (r:Rn):Gt:=
 if kOf v=nul\/G.full=true then G
 else if G.has (kOf v)=true then putP G (G.val (kOf v)).toNat (grw G (G.val (kOf v)).toNat r)
 else if G.n=4096 then { G with full:=true }
 else putP (fresh G v) G.n (grw (fresh G v) G.n r)
theorem bN4:∃ f,f=nxtB:=⟨_,rfl⟩
noncomputable def nxt:Gt->(Nat->Int)->Rn->Gt:=Classical.choose bN4
theorem bw8:nxt=nxtB:=xv bN4
def vcS (v:Nat->Int):SV:= .agg 8 (fun j=> .int .u8 (v j))
def vcD:SV->Nat->Int
 | .agg _ g=>fun j=>Sx.intOf (g j)
 | _=>fun _=>0
def gaO (G:Gt) (v2 v3:Nat):List SO:=
 [.cells 4 (lst [.omap 1,.osl 2 v2,.osl 3 v3,.bool G.full]) 108,
   .mpi (.arr 8 .u8) false G.has (fun l=> .int .i64 (G.val l)),
   .deep v2 G.n 1 3 G.m (fun k i=>lst (rnL (G.p k i))) (fun _=>lst []) 111 70 none,
   .row v3 G.n 8 (fun i j=> .int .u8 (G.ink i j)) 28]
def gtD:List SO->Option Gt
 | [.cells _ c _,.mpi _ _ has val,.deep _ n _ _ m p _ _ _ _,.row _ _ _ ink _]=>some ⟨has,fun l=>Sx.intOf (val l),n,m,fun k j=>rnD (p k j),fun i j=>Sx.intOf (ink i j),au7 (c 3)⟩
 | _=>none
structure Gok (B:Nat) (G:Gt):Prop where
 n:G.n<=4096
 m:∀ k,G.m k<=B
 val:∀ l,G.has l=true->0<=G.val l/\G.val l<G.n
structure GaG where
 G:Gt
 v:Nat->Int
 r:Rn
def gaD:List SV->List SO->Option GaG
 | [_,v,.int _ y,.int _ x0,.int _ x1],os=>match gtD os with
  | some G=>some ⟨G,vcD v,⟨y,x0,x1⟩⟩
  | none=>none
 | _,_=>none
theorem zer (v:Nat->Int):(decide (v 0=0)&&(decide (v 1=0)&&(decide (v 2=0)&&(decide (v 3=0)&&(decide (v 4=0)&&(decide (v 5=0)&&(decide (v 6=0)&&(decide (v 7=0)&&true))))))))=decide (kOf v=nul):=by
 rw [Bool.eq_iff_iff];simp [kOf,nul]
theorem bh1 (v:Nat->Int):[v 0,v 1,v 2,v 3,v 4,v 5,v 6,v 7]=kOf v:=rfl
noncomputable def bL6:FSpec:=ac3 46 [.arg 0,.cell 0 0,.cell 0 1,.cell 0 2] gaD (fun g=>[.own 0 0,vcS g.v,.int .i64 g.r.y,.int .i64 g.r.x0,.int .i64 g.r.x1])
 (fun g=>gaO g.G 0 0) (fun g=>Gok 4294967295 g.G)
 (fun _=> .tup 0 (lst []))
 (fun g=>gaO (nxt g.G g.v g.r) 1 1)
abbrev eqI:List (TypeId×List CK):=[(28,[.int,.int,.int,.int,.int,.int,.int,.int])]
theorem bi2:bd4 Tryz.prog eqI:=⟨aw1 (m:=8) (by kernel_rfl) (by kernel_rfl) rfl (by decide) (by kernel_rfl),trivial⟩
theorem bT2:aa2 Tryz.prog bL6:=by
 refine av0 (specs:=[bt3]) (az5 ⟨bG7,trivial⟩) (eqs:=eqI) (all_eq bi2) Aff.mixed Tryz.func46 rfl (by kernel_rfl) (fun _ _=>by kernel_rfl) (fun g=>(⟨[(4000008,.order [0,1,2,3,4,5,6,7,9,10,11,12,13,14,8,15,16,17,18,19,20,21])],[(1000008,[.aA1 2]),(9,[.focus 2 10]),(1000009,[.aA1 2])]⟩:Ann)) false (fun g=>lH (by kernel_rfl)) ?_;rintro g hg;refine ab2 (B:=let T5:=fun p:Prop=>True/\True/\True/\True/\True/\p;let K:=Br;let A:=Sx.Ask;let z25:=(8:Nat);let z24:=(True/\True);let z23:=(0:Int);let z10:=(1:Nat);let z8:=(IntKind.u8=IntKind.u8);let z7:=(↑g.G.n:Int);let z5:=(0:Nat);let z29:=(z5+z10);let z22:=(z5+(7:Nat));let z21:=(z5+(6:Nat));let z20:=(z5+(5:Nat));let z19:=(z5+(4:Nat));let z18:=(z5+(3:Nat));let z17:=(z5+(2:Nat));let z9:=(bif decide (z7.toNat=g.G.n) then z5 else g.G.m z7.toNat);let z14:=(Rga.AdG.mk z9 (g.G.p z7.toNat) g.r);let z3:=(IntKind.i64=IntKind.i64);let q3:=fun p:Int=>A z3/\A (p=p);let z32:=(q3 g.r.y);let z31:=(q3 g.r.x1);let z30:=(q3 g.r.x0);let z2:=(nxt g.G g.v g.r);let z11:=(((z24/\True)/\True)/\A (g.G.full=z2.full));let z6:=(∀ (l:List Int),l.length=z25->A (g.G.has l=z2.has l)/\((z2.has l||false)=true->A z3/\A (g.G.val l=z2.val l)));let z4:=(A (g.G.n=z2.n)/\(∀ i:Nat,i<z2.n->A (g.G.m i=z2.m i)/\∀ (i':Nat),i'<z2.m i->((True/\A z3/\A ((g.G.p i i').y=(z2.p i i').y))/\A z3/\A ((g.G.p i i').x0=(z2.p i i').x0))/\A z3/\A ((g.G.p i i').x1=(z2.p i i').x1))/\∀ i:Nat,i<z2.n->True);let z1:=(A (g.G.n=z2.n)/\∀ i:Nat,i<z2.n->(((((((True/\A z8/\A (g.G.ink i z5=z2.ink i z5))/\A z8/\A (g.G.ink i z10=z2.ink i z10))/\A z8/\A (g.G.ink i (2:Nat)=z2.ink i (2:Nat)))/\A z8/\A (g.G.ink i (3:Nat)=z2.ink i (3:Nat)))/\A z8/\A (g.G.ink i (4:Nat)=z2.ink i (4:Nat)))/\A z8/\A (g.G.ink i (5:Nat)=z2.ink i (5:Nat)))/\A z8/\A (g.G.ink i (6:Nat)=z2.ink i (6:Nat)))/\A z8/\A (g.G.ink i (7:Nat)=z2.ink i (7:Nat)));let z0:=(bif g.G.has [g.v (z5+z5),g.v z29,g.v z17,g.v z18,g.v z19,g.v z20,g.v z21,g.v z22] then g.G.val [g.v (z5+z5),g.v z29,g.v z17,g.v z18,g.v z19,g.v z20,g.v z21,g.v z22] else z23);let z13:=(Rga.AdG.mk (g.G.m z0.toNat) (g.G.p z0.toNat) g.r);T5 (K (decide (g.v (z5+z5)=z23)&&(decide (g.v (z5+z29)=z23)&&(decide (g.v (z5+(z5+z10+z10))=z23)&&(decide (g.v (z5+(z5+z10+z10+z10))=z23)&&(decide (g.v (z5+(z5+z10+z10+z10+z10))=z23)&&(decide (g.v (z5+(z5+z10+z10+z10+z10+z10))=z23)&&(decide (g.v (z5+(z5+z10+z10+z10+z10+z10+z10))=z23)&&(decide (g.v (z5+(z5+z10+z10+z10+z10+z10+z10+z10))=z23)&&true)))))))) (True/\True/\True/\z24/\z11/\z6/\z4/\z1/\True) (T5 (K g.G.full (True/\True/\z24/\z11/\z6/\z4/\z1/\True) (T5 (T5 (True/\True/\True/\K (!g.G.has [g.v (z5+z5),g.v z29,g.v z17,g.v z18,g.v z19,g.v z20,g.v z21,g.v z22]) (T5 (True/\K (decide (z7=(4096:Int))) (T5 (True/\z24/\(((z24/\True)/\True)/\A (true=z2.full))/\z6/\z4/\z1/\True)) (T5 (T5 (T5 (T5 (T5 (True/\True/\A (g.G.n+z10<=(9223372036854775807:Nat)/\(g.G.n+z10)*(24:Nat)<=(140737488355328:Nat))/\A (g.G.n+z10<=(9223372036854775807:Nat)/\(g.G.n+z10)*z25<=(140737488355328:Nat))/\T5 (T5 (True/\A (z23<=z7/\z7<(↑(g.G.n+z10):Int))/\True/\True/\True/\(((True/\((A (z7.toNat=z7.toNat)/\A (z5=z5))/\z32/\z30/\z31/\True)/\(A (g.G.n+z10=g.G.n+z10)/\(A (z7.toNat=z7.toNat)/\True)/\(∀ i:Nat,i<g.G.n+z10->i≠z7.toNat->A ((bif decide (i=g.G.n) then z5 else g.G.m i)=bif decide (i=g.G.n) then z5 else g.G.m i)/\∀ (i':Nat),let z27:=(g.G.p i i'); (i'<bif decide (i=g.G.n) then z5 else g.G.m i)->((True/\q3 z27.y)/\q3 z27.x0)/\q3 z27.x1)/\∀ i:Nat,i<g.G.n+z10->True)/\(A (z9=bif decide (z7.toNat=g.G.n) then z5 else g.G.m z7.toNat)/\∀ i:Nat,let z15:=(g.G.p z7.toNat i); (i<bif decide (z7.toNat=g.G.n) then z5 else g.G.m z7.toNat)->((True/\q3 z15.y)/\q3 z15.x0)/\q3 z15.x1)/\True)/\A (z7.toNat<g.G.n+z10/\z9<=(4294967296:Nat)))/\True/\A (z7.toNat<g.G.n+z10)/\True)/\True/\True/\z24/\z11/\(∀ (l:List Int),let z12:=(l=[g.v (z5+z5),g.v z29,g.v z17,g.v z18,g.v z19,g.v z20,g.v z21,g.v z22]); l.length=z25->A ((decide z12||g.G.has l)=z2.has l)/\((z2.has l||false)=true->A z3/\A ((bif decide z12 then z7 else g.G.val l)=z2.val l)))/\(A (g.G.n+z10=z2.n)/\(∀ i:Nat,i<z2.n->A ((bif decide (i=z7.toNat) then z14.L.length else bif decide (i=g.G.n) then z5 else g.G.m i)=z2.m i)/\∀ (i':Nat),i'<z2.m i->((True/\A z3/\A ((bif decide (i=z7.toNat) then (Rga.rI z14.L i').y else (g.G.p i i').y)=(z2.p i i').y))/\A z3/\A ((bif decide (i=z7.toNat) then (Rga.rI z14.L i').x0 else (g.G.p i i').x0)=(z2.p i i').x0))/\A z3/\A ((bif decide (i=z7.toNat) then (Rga.rI z14.L i').x1 else (g.G.p i i').x1)=(z2.p i i').x1))/\∀ i:Nat,i<z2.n->True)/\(A (g.G.n+z10=z2.n)/\∀ i:Nat,let z26:=(i<g.G.n); i<z2.n->(((((((True/\A z8/\A ((bif decide z26 then g.G.ink i z5 else g.v (z5+(z5-z5*z25)))=z2.ink i z5))/\A z8/\A ((bif decide z26 then g.G.ink i z10 else g.v (z5+(z10-z5*z25)))=z2.ink i z10))/\A z8/\A ((bif decide z26 then g.G.ink i (2:Nat) else g.v (z5+((2:Nat)-z5*z25)))=z2.ink i (2:Nat)))/\A z8/\A ((bif decide z26 then g.G.ink i (3:Nat) else g.v (z5+((3:Nat)-z5*z25)))=z2.ink i (3:Nat)))/\A z8/\A ((bif decide z26 then g.G.ink i (4:Nat) else g.v (z5+((4:Nat)-z5*z25)))=z2.ink i (4:Nat)))/\A z8/\A ((bif decide z26 then g.G.ink i (5:Nat) else g.v (z5+((5:Nat)-z5*z25)))=z2.ink i (5:Nat)))/\A z8/\A ((bif decide z26 then g.G.ink i (6:Nat) else g.v (z5+((6:Nat)-z5*z25)))=z2.ink i (6:Nat)))/\A z8/\A ((bif decide z26 then g.G.ink i (7:Nat) else g.v (z5+((7:Nat)-z5*z25)))=z2.ink i (7:Nat)))/\True)))))))))) (T5 (A ((z23<=bif g.G.has [g.v (z5+z5),g.v z29,g.v z17,g.v z18,g.v z19,g.v z20,g.v z21,g.v z22] then g.G.val [g.v (z5+z5),g.v z29,g.v z17,g.v z18,g.v z19,g.v z20,g.v z21,g.v z22] else z23)/\z0<z7)/\True/\True/\True/\(((True/\((A (z0.toNat=z0.toNat)/\A (z5=z5))/\z32/\z30/\z31/\True)/\(A (g.G.n=g.G.n)/\(A (z0.toNat=z0.toNat)/\True)/\(∀ i:Nat,i<g.G.n->i≠z0.toNat->A (g.G.m i=g.G.m i)/\∀ (i':Nat),let z28:=(g.G.p i i'); i'<g.G.m i->((True/\q3 z28.y)/\q3 z28.x0)/\q3 z28.x1)/\∀ i:Nat,i<g.G.n->True)/\(A (g.G.m z0.toNat=g.G.m z0.toNat)/\∀ i:Nat,let z16:=(g.G.p z0.toNat i); i<g.G.m z0.toNat->((True/\q3 z16.y)/\q3 z16.x0)/\q3 z16.x1)/\True)/\A (z0.toNat<g.G.n/\g.G.m z0.toNat<=(4294967296:Nat)))/\True/\A (z0.toNat<g.G.n)/\True)/\True/\True/\z24/\z11/\z6/\(A (g.G.n=z2.n)/\(∀ i:Nat,i<z2.n->A ((bif decide (i=z0.toNat) then z13.L.length else g.G.m i)=z2.m i)/\∀ (i':Nat),i'<z2.m i->((True/\A z3/\A ((bif decide (i=z0.toNat) then (Rga.rI z13.L i').y else (g.G.p i i').y)=(z2.p i i').y))/\A z3/\A ((bif decide (i=z0.toNat) then (Rga.rI z13.L i').x0 else (g.G.p i i').x0)=(z2.p i i').x0))/\A z3/\A ((bif decide (i=z0.toNat) then (Rga.rI z13.L i').x1 else (g.G.p i i').x1)=(z2.p i i').x1))/\∀ i:Nat,i<z2.n->True)/\z1/\True))))))))) (by kernel_rfl) ?_;simp only [cln];simp only [Nat.reduceAdd,zer,lA,lI,xA,ua,ur,bh1];rw [bw8];have same:∀ G':Gt,G'=g.G->g.G.full=G'.full/\(∀ (l:List Int),l.length=8->g.G.has l=G'.has l/\(G'.has l=true->g.G.val l=G'.val l))/\(g.G.n=G'.n/\∀ (i:Nat),i<G'.n->g.G.m i=G'.m i/\∀ (i':Nat),i'<G'.m i->((g.G.p i i').y=(G'.p i i').y/\(g.G.p i i').x0=(G'.p i i').x0)/\(g.G.p i i').x1=(G'.p i i').x1)/\
   g.G.n=G'.n/\∀ (i:Nat),i<G'.n->((((((g.G.ink i 0=G'.ink i 0/\g.G.ink i 1=G'.ink i 1)/\g.G.ink i 2=G'.ink i 2)/\g.G.ink i 3=G'.ink i 3)/\g.G.ink i 4=G'.ink i 4)/\g.G.ink i 5=G'.ink i 5)/\g.G.ink i 6=G'.ink i 6)/\g.G.ink i 7=G'.ink i 7:=by
  rintro G' rfl;exact ⟨rfl,fun l _=>⟨rfl,fun _=>rfl⟩,⟨rfl,fun i _=>⟨rfl,fun i' _=>⟨⟨rfl,rfl⟩,rfl⟩⟩⟩,rfl,fun i _=>⟨⟨⟨⟨⟨⟨⟨rfl,rfl⟩,rfl⟩,rfl⟩,rfl⟩,rfl⟩,rfl⟩,rfl⟩⟩
 have hn:=hg.n;refine ⟨fun h0=>same _ (lg (.inl h0)),fun h0=>⟨fun hf=>same _ (lg (.inr hf)),fun hf=>?_⟩⟩;have hor:¬ (kOf g.v=nul\/g.G.full=true):=fun h=>h.elim h0 (fun h=>by rw [hf] at h; cases h)
 refine ⟨fun hh=>⟨fun h4=>?_,fun h4=>?_⟩,fun hh=>?_⟩
 ·have e:nxtB g.G g.v g.r={ g.G with full:=true }:=by
   unfold nxtB;rw [lb hor,lb (by rw [hh]; decide),lg (by omega)]
  rw [e];exact ⟨rfl,(same _ rfl).2⟩
 ·have e:nxtB g.G g.v g.r=putP (fresh g.G g.v) g.G.n (grw (fresh g.G g.v) g.G.n g.r):=by
   unfold nxtB;rw [lb hor,lb (by rw [hh]; decide),lb (by omega)]
  have e0:grw (fresh g.G g.v) g.G.n g.r=AdG.L ⟨0,g.G.p g.G.n,g.r⟩:=by
   show addR (Rg.L ⟨updN g.G.m g.G.n 0 g.G.n,g.G.p g.G.n⟩) g.r=_;rw [ag8];rfl
  rw [e,e0];simp only [lw,decide_true,xK];refine ⟨by omega,by omega,by omega,⟨⟨by omega,by omega⟩,by omega⟩,rfl,fun l _=>⟨rfl,fun _=>rfl⟩,⟨rfl,fun i _=>⟨rfl,fun i' _=>?_⟩⟩,rfl,fun i _=>⟨⟨⟨⟨⟨⟨⟨rfl,rfl⟩,rfl⟩,rfl⟩,rfl⟩,rfl⟩,rfl⟩,rfl⟩⟩;show (_=(bif decide (i=g.G.n) then _ else _:Rn).y/\_=(bif decide (i=g.G.n) then _ else _:Rn).x0)/\_=(bif decide (i=g.G.n) then _ else _:Rn).x1;cases decide (i=g.G.n)<;>exact ⟨⟨rfl,rfl⟩,rfl⟩
 ·have hv:=hg.val _ hh;have hm:=hg.m (g.G.val (kOf g.v)).toNat;have e:nxtB g.G g.v g.r=putP g.G (g.G.val (kOf g.v)).toNat (grw g.G (g.G.val (kOf g.v)).toNat g.r):=by
   unfold nxtB;rw [lb hor,lg hh]
  rw [e];simp only [hh,xK];refine ⟨by omega,⟨⟨by omega,by omega⟩,by omega⟩,rfl,fun l _=>⟨rfl,fun _=>rfl⟩,⟨rfl,fun i _=>⟨rfl,fun i' _=>?_⟩⟩,rfl,fun i _=>⟨⟨⟨⟨⟨⟨⟨rfl,rfl⟩,rfl⟩,rfl⟩,rfl⟩,rfl⟩,rfl⟩,rfl⟩⟩;show (_=(bif decide (i=(g.G.val (kOf g.v)).toNat) then _ else _:Rn).y/\_=(bif decide (i=(g.G.val (kOf g.v)).toNat) then _ else _:Rn).x0)/\_=(bif decide (i=(g.G.val (kOf g.v)).toNat) then _ else _:Rn).x1;cases decide (i=(g.G.val (kOf g.v)).toNat)<;>exact ⟨⟨rfl,rfl⟩,rfl⟩
end Gat
end Go.Proofs.YthappngbapbkfaaGreat
