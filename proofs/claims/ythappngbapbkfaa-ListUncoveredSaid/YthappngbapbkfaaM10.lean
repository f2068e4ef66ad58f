/- Part 10 of the texts that the law's proof leans on. -/
import Derived.Test.YthappngbapbkfaaM9
set_option linter.unusedSimpArgs false
set_option linter.unusedVariables false
namespace Go.Proofs.Ythappngbapbkfaa.Lpe
open Go.RowKit Sx Num Aff Afi Img Imh Imp Imq Rga Blend Ble Lsg Lta Lrd Lri Luc Lck Lgr Lcs Lst Lch Lcl Lgp Lsc Cmp Lpm Lpa Lpr Lbt Lpn Lpc Lpd
set_option maxRecDepth 100000
structure PnG where
 s:StG
 c:Nat->SV
 nd:Nd
 ns:Nat
 st:Nat->Cl
 bs:Nat->Cl
structure BdOK (g:PnG):Prop where
 y : -8192<=g.s.y/\g.s.y<8192
 x0 : -8192<=g.s.x0
 x1:g.s.x1<=8192
 n:(g.ns:Int)=g.s.x1-g.s.x0
 pos:0<g.ns
 st:∀ i,i<g.ns->isU9 (g.st i)
 bs:∀ i,i<g.ns->isU9 (g.bs i)
structure PtOK (d:Nat) (g:PnG):Prop where
 c:g.c=ndX g.nd
 isg:ndT g.nd=TPg
 n:g.nd.n<=4294967296
 k:∀ a,a<g.nd.n->NdOK d (g.nd.k a)
 b:BdOK g
structure NsOK (d:Nat) (g:PnG):Prop where
 c:g.c=ndX g.nd
 isg:ndT g.nd=TPg
 k:NdOK d g.nd
 b:BdOK g
def PnG.pt (g:PnG) (m i:Nat):Cl:=pntK g.nd.k g.nd.x.knock (g.s.x0+i) g.s.y (g.st i) m
def PnG.nx (g:PnG) (i:Nat):Cl:=g.nd.pnt (g.s.x0+i) g.s.y (g.bs i) (g.st i)
noncomputable def spPt (d:Nat):FSpec:=mkSpecM 28 [.arg 2] (γ:=PnG)
 (fun l o=>match l with | [.agg _ s,r,_]=>some ⟨stD s,refGD r,ndOf (refGD r),rowND (o.getD 0 .dead),stFD (o.getD 0 .dead),stFD (o.getD 0 .dead)⟩ | _=>none)
 (fun g=>[stS g.s,.ref 37 g.c,.osl 0 0]) (fun g=>[stR g.ns g.st]) (PtOK d) (fun _=> .tup 0 (lst [])) (fun g=>[stR g.ns (g.pt g.nd.n)])
noncomputable def spNa (d:Nat):FSpec:=mkSpecM 45 [.arg 3] (γ:=PnG)
 (fun l o=>match l with | [.agg _ s,r,_,_]=>some ⟨stD s,refGD r,ndOf (refGD r),rowND (o.getD 0 .dead),stFD (o.getD 0 .dead),stFD (o.getD 0 .dead)⟩ | _=>none)
 (fun g=>[stS g.s,.ref 37 g.c,.osl 0 0,.osl 0 0]) (fun g=>[stR g.ns g.st]) (fun g=>NsOK d g/\g.bs=g.st) (fun _=> .tup 0 (lst [])) (fun g=>[stR g.ns g.nx])
noncomputable def spNb (d:Nat):FSpec:=mkSpecM 45 [.arg 3,.arg 2] (γ:=PnG)
 (fun l o=>match l with | [.agg _ s,r,_,_]=>some ⟨stD s,refGD r,ndOf (refGD r),rowND (o.getD 0 .dead),stFD (o.getD 0 .dead),stFD (o.getD 1 .dead)⟩ | _=>none)
 (fun g=>[stS g.s,.ref 37 g.c,.osl 1 0,.osl 0 0]) (fun g=>[stR g.ns g.st,stR g.ns g.bs]) (NsOK d) (fun _=> .tup 0 (lst [])) (fun g=>[stR g.ns g.nx,stR g.ns g.bs])
def PnG.cv (g:PnG) (i:Nat):Bool:=g.nd.cov (g.s.x0+i) g.s.y
def PnG.i0 (g:PnG) (i:Nat):Cl:=if g.nd.x.iso=true then (fun _=>0) else g.bs i
def PnG.inn (g:PnG) (i:Nat):Cl:=pntK g.nd.k g.nd.x.knock (g.s.x0+i) g.s.y (g.i0 i) g.nd.n
def PnG.at (g:PnG) (m i:Nat):Cl:=if i<m then g.nx i else g.st i
def nsT (g:PnG) (b k:Nat) (q:Nat):Tmps:=[(1,.ref 37 g.c),(2,.osl b 0),(3,.osl 0 0),(8,.osl (k+1) 0),(9,.osl (k+2) 0),(41,.osl (k+1) 0),(42,.int .i64 g.ns),(43,.int .i64 q)]
def nsO (g:PnG):List SO:=[.cells 3 (lst (stL g.s)) TRp,mkR g.ns g.cv,stR g.ns g.inn]
def naI (g:PnG):Inv:=⟨Nat,fun q=>q<=g.ns,fun q=>⟨nsT g 0 1 q,stR g.ns (g.at q)::nsO g⟩,fun q=>g.ns-q⟩
def nbI (g:PnG):Inv:=⟨Nat,fun q=>q<=g.ns,fun q=>⟨nsT g 1 2 q,stR g.ns (g.at q)::stR g.ns g.bs::nsO g⟩,fun q=>g.ns-q⟩
def nc0 (g:PnG):List SO:=[.cells 3 (lst (stL g.s)) TRp,mkR g.ns g.cv,stR g.ns g.i0]
def naC (g:PnG):Inv:=⟨Unit,fun _=>True,fun _=>⟨[(1,.ref 37 g.c),(2,.osl 0 0),(3,.osl 0 0),(4,.own 1 0),(8,.osl 2 0),(9,.osl 3 0)],stR g.ns g.st::nc0 g⟩,fun _=>0⟩
def nbC (g:PnG):Inv:=⟨Unit,fun _=>True,fun _=>⟨[(1,.ref 37 g.c),(2,.osl 1 0),(3,.osl 0 0),(4,.own 2 0),(8,.osl 3 0),(9,.osl 4 0)],stR g.ns g.st::stR g.ns g.bs::nc0 g⟩,fun _=>0⟩
theorem ns_no {g:PnG}(hg:ndT g.nd=TPg) {i:Nat}(h:g.cv i=false):g.nx i=g.st i:=by
 obtain ⟨s,c,nd,ns,st,bs⟩:=g
 cases nd with
 | fill t x=>exact absurd (show TPf=TPg from hg) (by decide)
 | grp t mx x m k=>
  unfold PnG.cv at h
  unfold PnG.nx Nd.pnt
  unfold Nd.cov at h
  rw [if_neg (by rw [h]; exact Bool.false_ne_true)]
theorem ns_mix {g:PnG}(hg:ndT g.nd=TPg) {i:Nat}(h:g.cv i=true) (hx:g.nd.x.iso=false):g.nx i=(MixG.mk (g.bs i) (g.inn i) g.nd.x.alpha).res:=by
 obtain ⟨s,c,nd,ns,st,bs⟩:=g
 cases nd with
 | fill t x=>exact absurd (show TPf=TPg from hg) (by decide)
 | grp t mx x m k=>
  have hx:x.iso=false:=hx
  have hi0:PnG.i0 ⟨s,c,.grp t mx x m k,ns,st,bs⟩ i=bs i:=by
   show (if x.iso=true then (fun _=>0:Cl) else bs i)=bs i
   rw [if_neg (by rw [hx]; exact Bool.false_ne_true)]
  have hin:PnG.inn ⟨s,c,.grp t mx x m k,ns,st,bs⟩ i=pntK k x.knock (s.x0+i) s.y (bs i) m:=congrArg (fun z=>pntK k x.knock (s.x0+i) s.y z m) hi0
  rw [hin]
  have h1:PnG.nx ⟨s,c,.grp t mx x m k,ns,st,bs⟩ i=if covK k (s.x0+i) s.y m=true then (if x.iso=true then isoC (bs i) (pntK k x.knock (s.x0+i) s.y (fun _=>0) m) x else (MixG.mk (bs i) (pntK k x.knock (s.x0+i) s.y (bs i) m) x.alpha).res) else st i:=rfl
  rw [h1,if_pos (show covK k (s.x0+i) s.y m=true from h),if_neg (by rw [hx]; exact Bool.false_ne_true)]
  rfl
theorem ns_iso {g:PnG}(hg:ndT g.nd=TPg) {i:Nat}(h:g.cv i=true) (hx:g.nd.x.iso=true):g.nx i=isoC (g.bs i) (g.inn i) g.nd.x:=by
 obtain ⟨s,c,nd,ns,st,bs⟩:=g
 cases nd with
 | fill t x=>exact absurd (show TPf=TPg from hg) (by decide)
 | grp t mx x m k=>
  have hx:x.iso=true:=hx
  have hi0:PnG.i0 ⟨s,c,.grp t mx x m k,ns,st,bs⟩ i=fun _=>0:=by
   show (if x.iso=true then (fun _=>0:Cl) else bs i)=_
   rw [if_pos hx]
  have hin:PnG.inn ⟨s,c,.grp t mx x m k,ns,st,bs⟩ i=pntK k x.knock (s.x0+i) s.y (fun _=>0) m:=congrArg (fun z=>pntK k x.knock (s.x0+i) s.y z m) hi0
  rw [hin]
  have h1:PnG.nx ⟨s,c,.grp t mx x m k,ns,st,bs⟩ i=if covK k (s.x0+i) s.y m=true then (if x.iso=true then isoC (bs i) (pntK k x.knock (s.x0+i) s.y (fun _=>0) m) x else (MixG.mk (bs i) (pntK k x.knock (s.x0+i) s.y (bs i) m) x.alpha).res) else st i:=rfl
  rw [h1,if_pos (show covK k (s.x0+i) s.y m=true from h),if_pos hx]
  rfl
theorem ns_step {g:PnG}{q:Nat}{V:Cl}(hV:V=g.nx q) (i j:Nat):(bif decide (i=q/\0<=j/\j<9) then V (j-0) else g.at q i j)=bif decide (j<9) then g.at (q+1) i j else g.at q i j:=by
 by_cases hj:j<9
 ·rw [decide_eq_true hj,cond_true]
  by_cases hi:i=q
  ·rw [decide_eq_true ⟨hi,Nat.zero_le _,hj⟩,cond_true,Nat.sub_zero,hV]
   unfold PnG.at
   rw [if_pos (by omega),hi]
  ·rw [decide_eq_false (fun h=>hi h.1),cond_false]
   unfold PnG.at
   by_cases hc:i<q
   ·rw [if_pos hc,if_pos (by omega)]
   ·rw [if_neg hc,if_neg (by omega)]
 ·rw [decide_eq_false hj,decide_eq_false (fun h=>hj h.2.2),cond_false,cond_false]
theorem ns_skip {g:PnG}(hg:ndT g.nd=TPg) {q:Nat}(h:g.cv q=false) (i:Nat):g.at q i=g.at (q+1) i:=by
 unfold PnG.at
 by_cases hi:i=q
 ·subst hi
  rw [if_neg (by omega),if_pos (by omega),ns_no hg h]
 ·by_cases hc:i<q
  ·rw [if_pos hc,if_pos (by omega)]
  ·rw [if_neg hc,if_neg (by omega)]
theorem ns_here {g:PnG}(q:Nat):g.at q q=g.st q:=if_neg (Nat.lt_irrefl q)
theorem bd_xy {g:PnG}(h:BdOK g) {i:Nat}(hi:i<g.ns):xyOK (g.s.x0+i) g.s.y:=by
 have:=h.n; have:=h.x0; have:=h.x1
 exact ⟨by omega,h.y⟩
theorem i0_u9 {g:PnG}(h:BdOK g) {i:Nat}(hi:i<g.ns):isU9 (g.i0 i):=by
 unfold PnG.i0
 split
 ·exact zero_u9
 ·exact h.bs i hi
theorem inn_u9 {d:Nat}{g:PnG}(h:BdOK g) (hk:∀ a,a<g.nd.n->NdOK d (g.nd.k a)) {i:Nat}(hi:i<g.ns):isU9 (g.inn i):=pntK_u9 hk (bd_xy h hi) (i0_u9 h hi) (Nat.le_refl _)
theorem any_cv {mf:Nat->Bool}{n:Nat}(h:¬ 0<=bX mf n 0) {i:Nat}(hi:i<n):mf i=false:=by
 cases hm:mf i with
 | false=>rfl
 | true=>exact absurd ((bX_iff n 0).2 ⟨i,Nat.zero_le _,by omega,hm⟩) h
theorem ok_na0:SpecOK Try.prog (spNa 0):=by
 refine spec_soundM (specs:=[]) (all_ok trivial) (eqs:=[]) (fun _ _ h=>(List.not_mem_nil h).elim) Aff.mixed Try.func45 rfl (by kernel_rfl) (fun _ _=>by kernel_rfl) (fun g=>A0) true (fun g=>Nat.le_of_ble_eq_true (by kernel_rfl)) ?_
 rintro ⟨s,c,nd,ns,st,bs⟩ ⟨hg,hbs⟩
 have hc:c=ndX nd:=hg.c
 cases hg.k with
 | fill h hv=>exact absurd (show TPf=TPg from hg.isg) (by decide)
set_option maxHeartbeats 1000000 in
theorem ok_na {d:Nat}(hp:SpecOK Try.prog (spPt d)):SpecOK Try.prog (spNa (d+1)):=by
 refine spec_soundM (specs:=[spCv (d+1),lend spConB,spPt d,spMul255,spBetween,spPaint]) (all_ok (⟨ok_cv (d+1),lend_ok ok_conB,hp,ok_mul255,ok_between2,ok_paint,trivial⟩)) (eqs:=[]) (fun _ _ h=>(List.not_mem_nil h).elim) Aff.mixed Try.func45 rfl (by kernel_rfl) (fun _ _=>by kernel_rfl) (fun g=>(⟨[(7,.cut (naC g)),(9,.inv (naI g))],[]⟩:Ann)) true (fun g=>Nat.le_of_ble_eq_true (by kernel_rfl)) ?_
 rintro ⟨s,c,nd,ns,st,bs⟩ ⟨hg,hbs⟩
 have hc:c=ndX nd:=hg.c
 have hbs:st=bs:=hbs.symm
 subst hbs
 cases hg.k with
 | fill h hv=>exact absurd (show TPf=TPg from hg.isg) (by decide)
 | grp hn hm ha hb hk=>
  rename_i t mx x m k
  subst hm
  rw [ndX_grp] at hc
  subst hc
  refine vc_of (B:=let T2:=fun p:Prop=>True/\True/\p;let T5:=fun p:Prop=>True/\True/\True/\True/\True/\p;let T6:=fun p:Prop=>True/\True/\True/\True/\True/\True/\p;let V:=fun p:Sx.SV=>Sx.SVle [] [] p p;let J:=IntKind.i64;let K:=Sx.Br;let A:=Sx.Ask;let z51:=(72:Go.FuncId);let z50:=(58:Go.FuncId);let z47:=(9223372036854775807:Int);let z45:=(Blend.modeF x.blend.toNat=Blend.modeF x.blend.toNat);let z42:=(ns=ns);let z36:=(↑ns:Int);let z34:=(9:Nat);let z30:=(A (z50=z50)/\T2 (A (z51=z51)/\T2 (A z45/\True)));let z29:=(8:Nat);let z28:=(7:Nat);let z27:=(6:Nat);let z26:=(5:Nat);let z25:=(4:Nat);let z24:=(3:Nat);let z23:=(2:Nat);let z22:=(0:Int);let z46:=(z22=z22);let z17:=(1:Nat);let z13:=(J=J);let q13:=fun p:Int=>A z13/\A (p=p);let z32:=(q13 z36);let z10:=(0:Nat);let z59:=(z10+z28);let z58:=(z10+z27);let z57:=(z10+z26);let z56:=(z10+z25);let z55:=(z10+z24);let z54:=(z10+z23);let z53:=(z10+z17);let z41:=(z10+z10);let z9:=(((True/\q13 s.y)/\q13 s.x0)/\q13 s.x1);let z3:=(IntKind.u8=IntKind.u8);let q3:=fun p:Int=>A z3/\A (p=p);let z52:=(q3 x.alpha);let z14:=(A z42/\∀ i:Nat,i<ns->((((((((True/\q3 (st i z10))/\q3 (st i z17))/\q3 (st i z23))/\q3 (st i z24))/\q3 (st i z25))/\q3 (st i z26))/\q3 (st i z27))/\q3 (st i z28))/\q3 (st i z29));let z5:=((((((((((((((((((((((((((((((((((((True/\q13 x.kind)/\A (x.nr=x.nr)/\∀ i:Nat,i<x.nr->((True/\q13 ((x.runs i).y))/\q13 ((x.runs i).x0))/\q13 ((x.runs i).x1))/\q13 x.src.kind)/\q3 x.src.ink.c0)/\q3 x.src.ink.c1)/\q3 x.src.ink.c2)/\q3 x.src.ink.c3)/\q3 x.src.ink.c4)/\q3 x.src.ink.c5)/\q3 x.src.ink.c6)/\q3 x.src.ink.c7)/\q13 x.src.fx)/\q13 x.src.fy)/\q13 x.src.tx)/\q13 x.src.ty)/\q13 x.src.rad)/\A (x.src.ns=x.src.ns)/\∀ i:Nat,let z35:=(x.src.st i); i<x.src.ns->((((((((True/\q13 z35.pos)/\q3 z35.ink.c0)/\q3 z35.ink.c1)/\q3 z35.ink.c2)/\q3 z35.ink.c3)/\q3 z35.ink.c4)/\q3 z35.ink.c5)/\q3 z35.ink.c6)/\q3 z35.ink.c7)/\q13 x.src.img.w)/\q13 x.src.img.h)/\A (x.src.img.n=x.src.img.n)/\∀ i:Nat,let z31:=(x.src.img.px i); i<x.src.img.n->(((((((True/\q3 z31.c0)/\q3 z31.c1)/\q3 z31.c2)/\q3 z31.c3)/\q3 z31.c4)/\q3 z31.c5)/\q3 z31.c6)/\q3 z31.c7)/\A (x.src.img.sn=x.src.img.sn)/\∀ i:Nat,i<x.src.img.sn->True/\q3 (x.src.img.sf i))/\q13 x.src.img.m.a)/\q13 x.src.img.m.b)/\q13 x.src.img.m.c)/\q13 x.src.img.m.d)/\q13 x.src.img.m.e)/\q13 x.src.img.m.f)/\A (x.src.img.smooth=x.src.img.smooth))/\A (x.src.img.rep=x.src.img.rep))/\q3 x.alpha)/\q13 x.blend)/\A (x.over=x.over))/\A (x.iso=x.iso))/\A (x.knock=x.knock))/\q13 t)/\A (z50=z50)/\T2 (A (z51=z51)/\T2 (A z45/\True)));let z2:=(Sx.lst (Lsg.itL x++[Sx.SV.int J t,Lpn.mxS x false,Sx.SV.sl m z17 fun (a x:Nat)=>Sx.SV.ifc (Lpn.ndT (k a)) fun (x:Nat)=>Sx.SV.ref (37:Nat) (Lpn.ndX (k a))]));let z38:=(Lpn.ndOf z2);let z21:=(Lpc.CvG.mk s z2 z38 ns fun (i:Nat)=>false);let z1:=(z5/\A (m=m)/\∀ i:Nat,i<m->True/\A (Lpn.ndT (k i)=Lpn.ndT (k i))/\((((((((((((((((((((((((((((((((((((True/\V (Lpn.ndX (k i) 0))/\V (Lpn.ndX (k i) 1))/\V (Lpn.ndX (k i) 2))/\V (Lpn.ndX (k i) 3))/\V (Lpn.ndX (k i) 4))/\V (Lpn.ndX (k i) 5))/\V (Lpn.ndX (k i) 6))/\V (Lpn.ndX (k i) 7))/\V (Lpn.ndX (k i) 8))/\V (Lpn.ndX (k i) 9))/\V (Lpn.ndX (k i) (10:Nat)))/\V (Lpn.ndX (k i) (11:Nat)))/\V (Lpn.ndX (k i) (12:Nat)))/\V (Lpn.ndX (k i) (13:Nat)))/\V (Lpn.ndX (k i) (14:Nat)))/\V (Lpn.ndX (k i) (15:Nat)))/\V (Lpn.ndX (k i) (16:Nat)))/\V (Lpn.ndX (k i) (17:Nat)))/\V (Lpn.ndX (k i) (18:Nat)))/\V (Lpn.ndX (k i) (19:Nat)))/\V (Lpn.ndX (k i) (20:Nat)))/\V (Lpn.ndX (k i) (21:Nat)))/\V (Lpn.ndX (k i) (22:Nat)))/\V (Lpn.ndX (k i) (23:Nat)))/\V (Lpn.ndX (k i) (24:Nat)))/\V (Lpn.ndX (k i) (25:Nat)))/\V (Lpn.ndX (k i) (26:Nat)))/\V (Lpn.ndX (k i) (27:Nat)))/\V (Lpn.ndX (k i) (28:Nat)))/\V (Lpn.ndX (k i) (29:Nat)))/\V (Lpn.ndX (k i) (30:Nat)))/\V (Lpn.ndX (k i) (31:Nat)))/\V (Lpn.ndX (k i) (32:Nat)))/\V (Lpn.ndX (k i) (33:Nat)))/\V (Lpn.ndX (k i) (34:Nat)))/\V (Lpn.ndX (k i) (35:Nat)))/\V (Lpn.ndX (k i) (36:Nat)));let z44:=(z1/\T2 (A (z10=z10)/\T2 (True)));let z0:=(PnG.mk s z2 (Lpn.Nd.grp t false x m k) ns st st);let z40:=(A z42/\∀ i:Nat,i<ns->True/\A (z21.fin i=z0.cv i));let z19:=(A z42/\∀ i:Nat,i<ns->True/\A (z0.cv i=z0.cv i));let z15:=(PnG.mk s z2 z38 ns z0.i0 z0.i0);let z8:=(A z42/\∀ i:Nat,i<ns->((((((((True/\q3 (z0.inn i z10))/\q3 (z0.inn i z17))/\q3 (z0.inn i z23))/\q3 (z0.inn i z24))/\q3 (z0.inn i z25))/\q3 (z0.inn i z26))/\q3 (z0.inn i z27))/\q3 (z0.inn i z28))/\q3 (z0.inn i z29));T2 (True/\A (z22<=z36/\z36<=z36/\(↑z17:Int)*z36<=(140737488355328:Int)/\z36<=z47)/\T5 (((True/\(z9/\(A ((58:Nat)=Lpn.ndT z38)/\z5/\A (m=m)/\∀ i:Nat,i<m->True/\A (Lpn.ndT (k i)=Lpn.ndT (k i))/\((((((((((((((((((((((((((((((((((((True/\V (Lpn.ndX (k i) 0))/\V (Lpn.ndX (k i) 1))/\V (Lpn.ndX (k i) 2))/\V (Lpn.ndX (k i) 3))/\V (Lpn.ndX (k i) 4))/\V (Lpn.ndX (k i) 5))/\V (Lpn.ndX (k i) 6))/\V (Lpn.ndX (k i) 7))/\V (Lpn.ndX (k i) 8))/\V (Lpn.ndX (k i) 9))/\V (Lpn.ndX (k i) (10:Nat)))/\V (Lpn.ndX (k i) (11:Nat)))/\V (Lpn.ndX (k i) (12:Nat)))/\V (Lpn.ndX (k i) (13:Nat)))/\V (Lpn.ndX (k i) (14:Nat)))/\V (Lpn.ndX (k i) (15:Nat)))/\V (Lpn.ndX (k i) (16:Nat)))/\V (Lpn.ndX (k i) (17:Nat)))/\V (Lpn.ndX (k i) (18:Nat)))/\V (Lpn.ndX (k i) (19:Nat)))/\V (Lpn.ndX (k i) (20:Nat)))/\V (Lpn.ndX (k i) (21:Nat)))/\V (Lpn.ndX (k i) (22:Nat)))/\V (Lpn.ndX (k i) (23:Nat)))/\V (Lpn.ndX (k i) (24:Nat)))/\V (Lpn.ndX (k i) (25:Nat)))/\V (Lpn.ndX (k i) (26:Nat)))/\V (Lpn.ndX (k i) (27:Nat)))/\V (Lpn.ndX (k i) (28:Nat)))/\V (Lpn.ndX (k i) (29:Nat)))/\V (Lpn.ndX (k i) (30:Nat)))/\V (Lpn.ndX (k i) (31:Nat)))/\V (Lpn.ndX (k i) (32:Nat)))/\V (Lpn.ndX (k i) (33:Nat)))/\V (Lpn.ndX (k i) (34:Nat)))/\V (Lpn.ndX (k i) (35:Nat)))/\V (Lpn.ndX (k i) (36:Nat)))/\True/\True)/\(A (z36.toNat=ns)/\∀ i:Nat,i<ns->True/\A (false=false))/\True)/\A (Lpc.CvOK (d+z17) z21))/\True/\(((A z42/\∀ i:Nat,i<ns->True/\A (z21.fin i=z21.fin i))/\A (true=true)/\True)/\A (ns<=(4294967296:Nat)))/\True/\K (!decide (z22<=Lpd.bX z21.fin ns z10)) (T2 ((True/\True)/\(A z42/\∀ i:Nat,i<ns->((((((((True/\A z3/\A (st i z10=z0.nx i z10))/\A z3/\A (st i z17=z0.nx i z17))/\A z3/\A (st i z23=z0.nx i z23))/\A z3/\A (st i z24=z0.nx i z24))/\A z3/\A (st i z25=z0.nx i z25))/\A z3/\A (st i z26=z0.nx i z26))/\A z3/\A (st i z27=z0.nx i z27))/\A z3/\A (st i z28=z0.nx i z28))/\A z3/\A (st i z29=z0.nx i z29))/\True)) (T2 (A (z22<=z36/\z36<=z36/\(↑z34:Int)*z36<=(140737488355328:Int)/\z36<=z47)/\True/\(T6 (K (!x.iso) (T2 (True/\∃ g:Unit,A ((naC z0).pre g)/\True/\z44/\z14/\z9/\z40/\(A (z36.toNat=ns)/\∀ i:Nat,let z49:=(i-z10);let z16:=(z10<=i/\i<z10+ns.min z36.toNat); i<ns->((((((((True/\A z3/\A ((bif decide z16 then st z49 z10 else z22)=z0.i0 i z10))/\A z3/\A ((bif decide z16 then st z49 z17 else z22)=z0.i0 i z17))/\A z3/\A ((bif decide z16 then st z49 z23 else z22)=z0.i0 i z23))/\A z3/\A ((bif decide z16 then st z49 z24 else z22)=z0.i0 i z24))/\A z3/\A ((bif decide z16 then st z49 z25 else z22)=z0.i0 i z25))/\A z3/\A ((bif decide z16 then st z49 z26 else z22)=z0.i0 i z26))/\A z3/\A ((bif decide z16 then st z49 z27 else z22)=z0.i0 i z27))/\A z3/\A ((bif decide z16 then st z49 z28 else z22)=z0.i0 i z28))/\A z3/\A ((bif decide z16 then st z49 z29 else z22)=z0.i0 i z29))/\True)) (∃ g:Unit,A ((naC z0).pre g)/\True/\z44/\z14/\z9/\z40/\(A (z36.toNat=ns)/\∀ i:Nat,i<ns->((((((((True/\A z3/\A (z22=z0.i0 i z10))/\A z3/\A (z22=z0.i0 i z17))/\A z3/\A (z22=z0.i0 i z23))/\A z3/\A (z22=z0.i0 i z24))/\A z3/\A (z22=z0.i0 i z25))/\A z3/\A (z22=z0.i0 i z26))/\A z3/\A (z22=z0.i0 i z27))/\A z3/\A (z22=z0.i0 i z28))/\A z3/\A (z22=z0.i0 i z29))/\True)))/\∀ g:Unit,(naC z0).pre g->T2 (True/\((True/\(z9/\z1/\True/\True)/\(A z42/\∀ i:Nat,i<ns->((((((((True/\q3 (z0.i0 i z10))/\q3 (z0.i0 i z17))/\q3 (z0.i0 i z23))/\q3 (z0.i0 i z24))/\q3 (z0.i0 i z25))/\q3 (z0.i0 i z26))/\q3 (z0.i0 i z27))/\q3 (z0.i0 i z28))/\q3 (z0.i0 i z29))/\True)/\A (PtOK d z15))/\T2 (True/\(∃ g:Nat,A ((naI z0).pre g)/\True/\(z1/\T5 (z32/\(A z13/\A (z22=(↑g:Int)))/\True))/\(A z42/\∀ i:Nat,i<ns->((((((((True/\A z3/\A (st i z10=z0.at g i z10))/\A z3/\A (st i z17=z0.at g i z17))/\A z3/\A (st i z23=z0.at g i z23))/\A z3/\A (st i z24=z0.at g i z24))/\A z3/\A (st i z25=z0.at g i z25))/\A z3/\A (st i z26=z0.at g i z26))/\A z3/\A (st i z27=z0.at g i z27))/\A z3/\A (st i z28=z0.at g i z28))/\A z3/\A (st i z29=z0.at g i z29))/\z9/\z19/\(A z42/\∀ i:Nat,i<ns->((((((((True/\A z3/\A (z15.pt z38.n i z10=z0.inn i z10))/\A z3/\A (z15.pt z38.n i z17=z0.inn i z17))/\A z3/\A (z15.pt z38.n i z23=z0.inn i z23))/\A z3/\A (z15.pt z38.n i z24=z0.inn i z24))/\A z3/\A (z15.pt z38.n i z25=z0.inn i z25))/\A z3/\A (z15.pt z38.n i z26=z0.inn i z26))/\A z3/\A (z15.pt z38.n i z27=z0.inn i z27))/\A z3/\A (z15.pt z38.n i z28=z0.inn i z28))/\A z3/\A (z15.pt z38.n i z29=z0.inn i z29))/\True)/\∀ g:Nat,let z12:=(↑g:Int);let z48:=(z0.inn z12.toNat z41=z0.inn z12.toNat z41);let z39:=(fun (j:Nat)=>z0.at g z12.toNat (z10+j));let z37:=(z12.toNat<ns);let z33:=(z0.inn z12.toNat z41);let z43:=(q3 (mul255 z33 x.alpha));let z20:=((-9223372036854775808:Int)<=z12+(1:Int)/\z12+(1:Int)<=z47);let z18:=(z22<=z12/\z12<z36);let z11:=(Lbt.MixG.mk z39 (fun (j:Nat)=>z0.inn z12.toNat (z10+j)) x.alpha);let z7:=(((((((((True/\q3 (z0.at g z12.toNat z41))/\q3 (z0.at g z12.toNat z53))/\q3 (z0.at g z12.toNat z54))/\q3 (z0.at g z12.toNat z55))/\q3 (z0.at g z12.toNat z56))/\q3 (z0.at g z12.toNat z57))/\q3 (z0.at g z12.toNat z58))/\q3 (z0.at g z12.toNat z59))/\q3 (z0.at g z12.toNat (z10+z29)));let z6:=(Cmp.PaintG.mk z39 (fun (j:Nat)=>z0.inn z12.toNat (z10+z17+(z10+j))) (mul255 z33 x.alpha) (Blend.modeF x.blend.toNat) false);let z4:=(Cmp.PaintG.mk z39 (fun (j:Nat)=>Sx.intOf (Sx.zeroF [Go.Value.int IntKind.u8 z22,Go.Value.int IntKind.u8 z22,Go.Value.int IntKind.u8 z22,Go.Value.int IntKind.u8 z22,Go.Value.int IntKind.u8 z22,Go.Value.int IntKind.u8 z22,Go.Value.int IntKind.u8 z22,Go.Value.int IntKind.u8 z22] (z10+j))) (mul255 z33 x.alpha) (Blend.modeF x.blend.toNat) false); (naI z0).pre g->True/\K (decide (z12<z36)) (True/\A z18/\A z37/\T2 (T2 (K (!z0.cv z12.toNat) (A z20/\True/\∃ (g':Nat),A ((naI z0).pre g')/\True/\((z1/\T5 (z32/\(A z13/\A (z12+(1:Int)=(↑g':Int)))/\True))/\(A z42/\∀ i:Nat,i<ns->((((((((True/\A z3/\A (z0.at g i z10=z0.at g' i z10))/\A z3/\A (z0.at g i z17=z0.at g' i z17))/\A z3/\A (z0.at g i z23=z0.at g' i z23))/\A z3/\A (z0.at g i z24=z0.at g' i z24))/\A z3/\A (z0.at g i z25=z0.at g' i z25))/\A z3/\A (z0.at g i z26=z0.at g' i z26))/\A z3/\A (z0.at g i z27=z0.at g' i z27))/\A z3/\A (z0.at g i z28=z0.at g' i z28))/\A z3/\A (z0.at g i z29=z0.at g' i z29))/\z9/\z19/\z8/\True)/\A ((naI z0).meas g'<(naI z0).meas g)) (T6 (K (!x.iso) (T2 (T2 (A z18/\A z37/\T2 (A z18/\A z37/\T5 (((z7/\(((((((((True/\A z3/\A z48)/\q3 (z0.inn z12.toNat z53))/\q3 (z0.inn z12.toNat z54))/\q3 (z0.inn z12.toNat z55))/\q3 (z0.inn z12.toNat z56))/\q3 (z0.inn z12.toNat z57))/\q3 (z0.inn z12.toNat z58))/\q3 (z0.inn z12.toNat z59))/\q3 (z0.inn z12.toNat (z10+z29)))/\z52/\True)/\A z11.ok)/\A z18/\A z37/\A z20/\True/\∃ (g':Nat),A ((naI z0).pre g')/\True/\((z1/\T5 (z32/\(A z13/\A (z12+(1:Int)=(↑g':Int)))/\True))/\(A z42/\∀ i:Nat,i<ns->((((((((True/\A z3/\A ((bif decide (i=z12.toNat/\z10<=z10/\z10<z10+z34) then z11.res (z10-z10) else z0.at g i z10)=z0.at g' i z10))/\A z3/\A ((bif decide (i=z12.toNat/\z10<=z17/\z17<z10+z34) then z11.res (z17-z10) else z0.at g i z17)=z0.at g' i z17))/\A z3/\A ((bif decide (i=z12.toNat/\z10<=z23/\z23<z10+z34) then z11.res (z23-z10) else z0.at g i z23)=z0.at g' i z23))/\A z3/\A ((bif decide (i=z12.toNat/\z10<=z24/\z24<z10+z34) then z11.res (z24-z10) else z0.at g i z24)=z0.at g' i z24))/\A z3/\A ((bif decide (i=z12.toNat/\z10<=z25/\z25<z10+z34) then z11.res (z25-z10) else z0.at g i z25)=z0.at g' i z25))/\A z3/\A ((bif decide (i=z12.toNat/\z10<=z26/\z26<z10+z34) then z11.res (z26-z10) else z0.at g i z26)=z0.at g' i z26))/\A z3/\A ((bif decide (i=z12.toNat/\z10<=z27/\z27<z10+z34) then z11.res (z27-z10) else z0.at g i z27)=z0.at g' i z27))/\A z3/\A ((bif decide (i=z12.toNat/\z10<=z28/\z28<z10+z34) then z11.res (z28-z10) else z0.at g i z28)=z0.at g' i z28))/\A z3/\A ((bif decide (i=z12.toNat/\z10<=z29/\z29<z10+z34) then z11.res (z29-z10) else z0.at g i z29)=z0.at g' i z29))/\z9/\z19/\z8/\True)/\A ((naI z0).meas g'<(naI z0).meas g)))))) (T2 (A z18/\True/\A z37/\T5 ((((A z3/\A z48)/\z52/\True)/\A ((z22<=z0.inn z12.toNat z41/\z0.inn z12.toNat z41<=(255:Int))/\z22<=x.alpha/\x.alpha<=(255:Int)))/\T2 (A z18/\True/\A z37/\T5 (K (decide (mul255 z33 x.alpha=z22)) (T6 (A z18/\A z37/\T6 (((z7/\((((((((True/\A z3/\A z46)/\A z3/\A z46)/\A z3/\A z46)/\A z3/\A z46)/\A z3/\A z46)/\A z3/\A z46)/\A z3/\A z46)/\A z3/\A z46)/\z43/\z30/\A (false=false)/\True)/\A z4.ok)/\A z18/\A z37/\A z20/\True/\∃ (g':Nat),A ((naI z0).pre g')/\True/\((z1/\T5 (z32/\(A z13/\A (z12+(1:Int)=(↑g':Int)))/\True))/\(A z42/\∀ i:Nat,i<ns->((((((((True/\A z3/\A ((bif decide (i=z12.toNat/\z10<=z10/\z10<z10+z34) then z4.res (z10-z10) else z0.at g i z10)=z0.at g' i z10))/\A z3/\A ((bif decide (i=z12.toNat/\z10<=z17/\z17<z10+z34) then z4.res (z17-z10) else z0.at g i z17)=z0.at g' i z17))/\A z3/\A ((bif decide (i=z12.toNat/\z10<=z23/\z23<z10+z34) then z4.res (z23-z10) else z0.at g i z23)=z0.at g' i z23))/\A z3/\A ((bif decide (i=z12.toNat/\z10<=z24/\z24<z10+z34) then z4.res (z24-z10) else z0.at g i z24)=z0.at g' i z24))/\A z3/\A ((bif decide (i=z12.toNat/\z10<=z25/\z25<z10+z34) then z4.res (z25-z10) else z0.at g i z25)=z0.at g' i z25))/\A z3/\A ((bif decide (i=z12.toNat/\z10<=z26/\z26<z10+z34) then z4.res (z26-z10) else z0.at g i z26)=z0.at g' i z26))/\A z3/\A ((bif decide (i=z12.toNat/\z10<=z27/\z27<z10+z34) then z4.res (z27-z10) else z0.at g i z27)=z0.at g' i z27))/\A z3/\A ((bif decide (i=z12.toNat/\z10<=z28/\z28<z10+z34) then z4.res (z28-z10) else z0.at g i z28)=z0.at g' i z28))/\A z3/\A ((bif decide (i=z12.toNat/\z10<=z29/\z29<z10+z34) then z4.res (z29-z10) else z0.at g i z29)=z0.at g' i z29))/\z9/\z19/\z8/\True)/\A ((naI z0).meas g'<(naI z0).meas g)))) (T2 (T2 (A z18/\A z37/\T6 (((z7/\((((((((True/\q3 (z0.inn z12.toNat (z10+z17+z41)))/\q3 (z0.inn z12.toNat (z10+z17+z53)))/\q3 (z0.inn z12.toNat (z10+z17+z54)))/\q3 (z0.inn z12.toNat (z10+z17+z55)))/\q3 (z0.inn z12.toNat (z10+z17+z56)))/\q3 (z0.inn z12.toNat (z10+z17+z57)))/\q3 (z0.inn z12.toNat (z10+z17+z58)))/\q3 (z0.inn z12.toNat (z10+z17+z59)))/\z43/\z30/\A (false=false)/\True)/\A z6.ok)/\A z18/\A z37/\A z20/\True/\∃ (g':Nat),A ((naI z0).pre g')/\True/\((z1/\T5 (z32/\(A z13/\A (z12+(1:Int)=(↑g':Int)))/\True))/\(A z42/\∀ i:Nat,i<ns->((((((((True/\A z3/\A ((bif decide (i=z12.toNat/\z10<=z10/\z10<z10+z34) then z6.res (z10-z10) else z0.at g i z10)=z0.at g' i z10))/\A z3/\A ((bif decide (i=z12.toNat/\z10<=z17/\z17<z10+z34) then z6.res (z17-z10) else z0.at g i z17)=z0.at g' i z17))/\A z3/\A ((bif decide (i=z12.toNat/\z10<=z23/\z23<z10+z34) then z6.res (z23-z10) else z0.at g i z23)=z0.at g' i z23))/\A z3/\A ((bif decide (i=z12.toNat/\z10<=z24/\z24<z10+z34) then z6.res (z24-z10) else z0.at g i z24)=z0.at g' i z24))/\A z3/\A ((bif decide (i=z12.toNat/\z10<=z25/\z25<z10+z34) then z6.res (z25-z10) else z0.at g i z25)=z0.at g' i z25))/\A z3/\A ((bif decide (i=z12.toNat/\z10<=z26/\z26<z10+z34) then z6.res (z26-z10) else z0.at g i z26)=z0.at g' i z26))/\A z3/\A ((bif decide (i=z12.toNat/\z10<=z27/\z27<z10+z34) then z6.res (z27-z10) else z0.at g i z27)=z0.at g' i z27))/\A z3/\A ((bif decide (i=z12.toNat/\z10<=z28/\z28<z10+z34) then z6.res (z28-z10) else z0.at g i z28)=z0.at g' i z28))/\A z3/\A ((bif decide (i=z12.toNat/\z10<=z29/\z29<z10+z34) then z6.res (z29-z10) else z0.at g i z29)=z0.at g' i z29))/\z9/\z19/\z8/\True)/\A ((naI z0).meas g'<(naI z0).meas g))))))))))))))) (T2 ((True/\True)/\(A z42/\∀ i:Nat,i<ns->((((((((True/\A z3/\A (z0.at g i z10=z0.nx i z10))/\A z3/\A (z0.at g i z17=z0.nx i z17))/\A z3/\A (z0.at g i z23=z0.nx i z23))/\A z3/\A (z0.at g i z24=z0.nx i z24))/\A z3/\A (z0.at g i z25=z0.nx i z25))/\A z3/\A (z0.at g i z26=z0.nx i z26))/\A z3/\A (z0.at g i z27=z0.nx i z27))/\A z3/\A (z0.at g i z28=z0.nx i z28))/\A z3/\A (z0.at g i z29=z0.nx i z29))/\True))))))))) (by kernel_rfl) ?_
  simp only [ask_iff,br_iff,eq_self,true_and,and_true,implies_true,forall_const,decide_eq_true_eq,decide_eq_false_iff_not,ne_eq,Nat.mul_one,Nat.add_zero,Nat.zero_add]
  have hs:∀ nd j,SVle [] [] (ndX nd j) (ndX nd j)=True:=fun nd j=>eq_true (SVle.refl [] [] (ndX_own nd j))
  have e:ndOf (lst (itL x++[.int .i64 t,mxS x false,.sl m 1 (fun a _=> .ifc (ndT (k a)) (fun _=> .ref 37 (ndX (k a))))])) = .grp t false x m k:=by rw [<-ndX_grp]; exact ndOf_ndX _
  simp only [e,hs,Int.toNat_natCast,and_self,and_true,true_and,implies_true,zf8]
  have hc:(lst (itL x++[.int .i64 t,mxS x false,.sl m 1 (fun a _=> .ifc (ndT (k a)) (fun _=> .ref 37 (ndX (k a))))]))=ndX (.grp t false x m k):=(ndX_grp _ _ _ _ _).symm
  have hb':=hg.b
  generalize lst (itL x++[.int .i64 t,mxS x false,.sl m 1 (fun a _=> .ifc (ndT (k a)) (fun _=> .ref 37 (ndX (k a))))])=C at *
  have hn1:(ns:Int)=s.x1-s.x0:=hb'.n
  have hn2 : -8192<=s.x0:=hb'.x0
  have hn3:s.x1<=8192:=hb'.x1
  have hn4:0<ns:=hb'.pos
  have hnd:NdOK (d+1) (.grp t false x m k):= .grp hn rfl ha hb hk
  have hcv:CvOK (d+1) ⟨s,C,.grp t false x m k,ns,fun _=>false⟩:=⟨hc,hnd,hn2,hn3,hn1⟩
  have hfin:∀ i,CvG.fin ⟨s,C,.grp t false x m k,ns,fun _=>false⟩ i=PnG.cv ⟨s,C,.grp t false x m k,ns,st,st⟩ i:=fun i=>Bool.false_or _
  refine ⟨by omega,⟨rfl,hcv⟩,by omega,fun hno i hi=>?_,fun hyes=>⟨by omega,⟨fun hx=>⟨(),trivial,fun i _=>hfin i,fun i hi=>?_⟩,fun hx=>⟨(),trivial,fun i _=>hfin i,fun i hi=>?_⟩⟩,fun _ _=>?_⟩⟩
  ·have hno:PnG.nx ⟨s,C,.grp t false x m k,ns,st,st⟩ i=st i:=ns_no (g:=⟨s,C,.grp t false x m k,ns,st,st⟩) rfl ((hfin i).symm.trans (any_cv (n:=ns) (by simpa using hno) hi))
   have h0:∀ j,st i j=PnG.nx ⟨s,C,.grp t false x m k,ns,st,st⟩ i j:=fun j=>(congrFun hno j).symm
   exact all9 h0
  ·have hx:x.iso=false:=by simpa using hx
   have h0:∀ j,(bif decide (0<=i/\i<ns.min ns) then st (i-0) j else 0)=PnG.i0 ⟨s,C,.grp t false x m k,ns,st,st⟩ i j:=fun j=>by
    have hi0:PnG.i0 ⟨s,C,.grp t false x m k,ns,st,st⟩ i=st i:=if_neg (show ¬ x.iso=true by rw [hx]; exact Bool.false_ne_true)
    have hmin:i<Nat.min ns ns:=by rw [show Nat.min ns ns=ns from Nat.min_self ns]; exact hi
    rw [decide_eq_true ⟨Nat.zero_le _,hmin⟩,hi0]
    rfl
   exact all9 h0
  ·have hx:x.iso=true:=by simpa using hx
   have h0:∀ j,(0:Int)=PnG.i0 ⟨s,C,.grp t false x m k,ns,st,st⟩ i j:=fun j=>(congrFun (show PnG.i0 ⟨s,C,.grp t false x m k,ns,st,st⟩ i=fun _=>0 from if_pos hx) j).symm
   exact all9 h0
  have hu:=fun i (hi:i<ns)=>inn_u9 (g:=⟨s,C,.grp t false x m k,ns,st,st⟩) hb' hk hi
  have hbd:BdOK ⟨s,C,.grp t false x m k,ns,PnG.i0 ⟨s,C,.grp t false x m k,ns,st,st⟩,PnG.i0 ⟨s,C,.grp t false x m k,ns,st,st⟩⟩:=⟨hb'.y,hn2,hn3,hn1,hn4,fun i hi=>i0_u9 hb' hi,fun i hi=>i0_u9 hb' hi⟩
  refine ⟨⟨hc,rfl,hn,hk,hbd⟩,⟨0,Nat.zero_le _,rfl,fun i _=>all9 fun j=>(congrFun (if_neg (Nat.not_lt_zero i)) j).symm,fun i _=>all9 fun j=>rfl⟩,fun q hq=>⟨fun hlt=>?_,fun hge i hi=>?_⟩⟩
  ·have hlt:q<ns:=by omega
   have hld:(fun j=>PnG.at ⟨s,C,.grp t false x m k,ns,st,st⟩ q q j)=st q:=ns_here q
   have hbq:isU9 (st q):=hb'.bs q hlt
   have hiq:=hu q hlt
   have hmm:ns-(q+1)<ns-q:=by omega
   simp only [hld]
   refine ⟨by omega,hlt,fun hm=>⟨by omega,q+1,hlt,⟨by simp,fun i _=>all9 fun j=>congrFun (ns_skip (g:=⟨s,C,.grp t false x m k,ns,st,st⟩) rfl (by simpa using hm) i) j⟩,hmm⟩,fun hm=>⟨fun hx=>?_,fun hx=>?_⟩⟩
   ·have hm:PnG.cv ⟨s,C,.grp t false x m k,ns,st,st⟩ q=true:=by simpa using hm
    have hx:x.iso=false:=by simpa using hx
    have hV:(MixG.mk (st q) (PnG.inn ⟨s,C,.grp t false x m k,ns,st,st⟩ q) x.alpha).res=PnG.nx ⟨s,C,.grp t false x m k,ns,st,st⟩ q:=(ns_mix (g:=⟨s,C,.grp t false x m k,ns,st,st⟩) rfl hm hx).symm
    have st9:=fun i=>ns_step hV i
    exact ⟨by omega,hlt,by omega,hlt,⟨⟨hbq,hiq⟩,ha⟩,by omega,hlt,by omega,q+1,hlt,⟨by simp,fun i hi=>⟨⟨⟨⟨⟨⟨⟨⟨st9 i 0,st9 i 1⟩,st9 i 2⟩,st9 i 3⟩,st9 i 4⟩,st9 i 5⟩,st9 i 6⟩,st9 i 7⟩,st9 i 8⟩⟩,hmm⟩
   ·have hm:PnG.cv ⟨s,C,.grp t false x m k,ns,st,st⟩ q=true:=by simpa using hm
    have hx:x.iso=true:=by simpa using hx
    have hV:isoC (st q) (PnG.inn ⟨s,C,.grp t false x m k,ns,st,st⟩ q) x=PnG.nx ⟨s,C,.grp t false x m k,ns,st,st⟩ q:=(ns_iso (g:=⟨s,C,.grp t false x m k,ns,st,st⟩) rfl hm hx).symm
    have hok:=isoG_ok hbq hiq ha hb
    unfold isoC at hV
    refine ⟨by omega,hlt,⟨hiq 0,ha⟩,by omega,hlt,fun hz=>?_,fun hz=>?_⟩
    ·rw [if_pos hz] at hV hok
     have st9:=fun i=>ns_step hV i
     exact ⟨by omega,hlt,hok,by omega,hlt,by omega,q+1,hlt,⟨by simp,fun i hi=>⟨⟨⟨⟨⟨⟨⟨⟨st9 i 0,st9 i 1⟩,st9 i 2⟩,st9 i 3⟩,st9 i 4⟩,st9 i 5⟩,st9 i 6⟩,st9 i 7⟩,st9 i 8⟩⟩,hmm⟩
    ·rw [if_neg hz] at hV hok
     have st9:=fun i=>ns_step hV i
     exact ⟨by omega,hlt,hok,by omega,hlt,by omega,q+1,hlt,⟨by simp,fun i hi=>⟨⟨⟨⟨⟨⟨⟨⟨st9 i 0,st9 i 1⟩,st9 i 2⟩,st9 i 3⟩,st9 i 4⟩,st9 i 5⟩,st9 i 6⟩,st9 i 7⟩,st9 i 8⟩⟩,hmm⟩
  ·have hq:q<=ns:=hq
   have h0:∀ j,PnG.at ⟨s,C,.grp t false x m k,ns,st,st⟩ q i j=PnG.nx ⟨s,C,.grp t false x m k,ns,st,st⟩ i j:=fun j=>congrFun (if_pos (by omega)) j
   exact all9 h0
theorem ok_nb0:SpecOK Try.prog (spNb 0):=by
 refine spec_soundM (specs:=[]) (all_ok trivial) (eqs:=[]) (fun _ _ h=>(List.not_mem_nil h).elim) Aff.mixed Try.func45 rfl (by kernel_rfl) (fun _ _=>by kernel_rfl) (fun g=>A0) true (fun g=>Nat.le_of_ble_eq_true (by kernel_rfl)) ?_
 rintro ⟨s,c,nd,ns,st,bs⟩ hg
 cases hg.k with
 | fill h hv=>exact absurd (show TPf=TPg from hg.isg) (by decide)
set_option maxHeartbeats 1000000 in
theorem ok_nb {d:Nat}(hp:SpecOK Try.prog (spPt d)):SpecOK Try.prog (spNb (d+1)):=by
 refine spec_soundM (specs:=[spCv (d+1),lend spConB,spPt d,spMul255,spBetween,spPaint]) (all_ok (⟨ok_cv (d+1),lend_ok ok_conB,hp,ok_mul255,ok_between2,ok_paint,trivial⟩)) (eqs:=[]) (fun _ _ h=>(List.not_mem_nil h).elim) Aff.mixed Try.func45 rfl (by kernel_rfl) (fun _ _=>by kernel_rfl) (fun g=>(⟨[(7,.cut (nbC g)),(9,.inv (nbI g))],[]⟩:Ann)) true (fun g=>Nat.le_of_ble_eq_true (by kernel_rfl)) ?_
 rintro ⟨s,c,nd,ns,st,bs⟩ hg
 have hc:c=ndX nd:=hg.c
 cases hg.k with
 | fill h hv=>exact absurd (show TPf=TPg from hg.isg) (by decide)
 | grp hn hm ha hb hk=>
  rename_i t mx x m k
  subst hm
  rw [ndX_grp] at hc
  subst hc
  refine vc_of (B:=let T2:=fun p:Prop=>True/\True/\p;let T5:=fun p:Prop=>True/\True/\True/\True/\True/\p;let T6:=fun p:Prop=>True/\True/\True/\True/\True/\True/\p;let V:=fun p:Sx.SV=>Sx.SVle [] [] p p;let J:=IntKind.i64;let K:=Sx.Br;let A:=Sx.Ask;let z52:=(72:Go.FuncId);let z51:=(58:Go.FuncId);let z48:=(9223372036854775807:Int);let z46:=(Blend.modeF x.blend.toNat=Blend.modeF x.blend.toNat);let z40:=(ns=ns);let z37:=(↑ns:Int);let z35:=(9:Nat);let z31:=(A (z51=z51)/\T2 (A (z52=z52)/\T2 (A z46/\True)));let z30:=(8:Nat);let z29:=(7:Nat);let z28:=(6:Nat);let z27:=(5:Nat);let z26:=(4:Nat);let z25:=(3:Nat);let z24:=(2:Nat);let z23:=(0:Int);let z47:=(z23=z23);let z18:=(1:Nat);let z14:=(J=J);let q14:=fun p:Int=>A z14/\A (p=p);let z33:=(q14 z37);let z11:=(0:Nat);let z60:=(z11+z29);let z59:=(z11+z28);let z58:=(z11+z27);let z57:=(z11+z26);let z56:=(z11+z25);let z55:=(z11+z24);let z54:=(z11+z18);let z42:=(z11+z11);let z10:=(((True/\q14 s.y)/\q14 s.x0)/\q14 s.x1);let z3:=(IntKind.u8=IntKind.u8);let q3:=fun p:Int=>A z3/\A (p=p);let z53:=(q3 x.alpha);let z15:=(A z40/\∀ i:Nat,i<ns->((((((((True/\q3 (st i z11))/\q3 (st i z18))/\q3 (st i z24))/\q3 (st i z25))/\q3 (st i z26))/\q3 (st i z27))/\q3 (st i z28))/\q3 (st i z29))/\q3 (st i z30));let z6:=((((((((((((((((((((((((((((((((((((True/\q14 x.kind)/\A (x.nr=x.nr)/\∀ i:Nat,i<x.nr->((True/\q14 ((x.runs i).y))/\q14 ((x.runs i).x0))/\q14 ((x.runs i).x1))/\q14 x.src.kind)/\q3 x.src.ink.c0)/\q3 x.src.ink.c1)/\q3 x.src.ink.c2)/\q3 x.src.ink.c3)/\q3 x.src.ink.c4)/\q3 x.src.ink.c5)/\q3 x.src.ink.c6)/\q3 x.src.ink.c7)/\q14 x.src.fx)/\q14 x.src.fy)/\q14 x.src.tx)/\q14 x.src.ty)/\q14 x.src.rad)/\A (x.src.ns=x.src.ns)/\∀ i:Nat,let z36:=(x.src.st i); i<x.src.ns->((((((((True/\q14 z36.pos)/\q3 z36.ink.c0)/\q3 z36.ink.c1)/\q3 z36.ink.c2)/\q3 z36.ink.c3)/\q3 z36.ink.c4)/\q3 z36.ink.c5)/\q3 z36.ink.c6)/\q3 z36.ink.c7)/\q14 x.src.img.w)/\q14 x.src.img.h)/\A (x.src.img.n=x.src.img.n)/\∀ i:Nat,let z32:=(x.src.img.px i); i<x.src.img.n->(((((((True/\q3 z32.c0)/\q3 z32.c1)/\q3 z32.c2)/\q3 z32.c3)/\q3 z32.c4)/\q3 z32.c5)/\q3 z32.c6)/\q3 z32.c7)/\A (x.src.img.sn=x.src.img.sn)/\∀ i:Nat,i<x.src.img.sn->True/\q3 (x.src.img.sf i))/\q14 x.src.img.m.a)/\q14 x.src.img.m.b)/\q14 x.src.img.m.c)/\q14 x.src.img.m.d)/\q14 x.src.img.m.e)/\q14 x.src.img.m.f)/\A (x.src.img.smooth=x.src.img.smooth))/\A (x.src.img.rep=x.src.img.rep))/\q3 x.alpha)/\q14 x.blend)/\A (x.over=x.over))/\A (x.iso=x.iso))/\A (x.knock=x.knock))/\q14 t)/\A (z51=z51)/\T2 (A (z52=z52)/\T2 (A z46/\True)));let z5:=(A z40/\∀ i:Nat,i<ns->((((((((True/\q3 (bs i z11))/\q3 (bs i z18))/\q3 (bs i z24))/\q3 (bs i z25))/\q3 (bs i z26))/\q3 (bs i z27))/\q3 (bs i z28))/\q3 (bs i z29))/\q3 (bs i z30));let z2:=(Sx.lst (Lsg.itL x++[Sx.SV.int J t,Lpn.mxS x false,Sx.SV.sl m z18 fun (a x:Nat)=>Sx.SV.ifc (Lpn.ndT (k a)) fun (x:Nat)=>Sx.SV.ref (37:Nat) (Lpn.ndX (k a))]));let z39:=(Lpn.ndOf z2);let z22:=(Lpc.CvG.mk s z2 z39 ns fun (i:Nat)=>false);let z1:=(z6/\A (m=m)/\∀ i:Nat,i<m->True/\A (Lpn.ndT (k i)=Lpn.ndT (k i))/\((((((((((((((((((((((((((((((((((((True/\V (Lpn.ndX (k i) 0))/\V (Lpn.ndX (k i) 1))/\V (Lpn.ndX (k i) 2))/\V (Lpn.ndX (k i) 3))/\V (Lpn.ndX (k i) 4))/\V (Lpn.ndX (k i) 5))/\V (Lpn.ndX (k i) 6))/\V (Lpn.ndX (k i) 7))/\V (Lpn.ndX (k i) 8))/\V (Lpn.ndX (k i) 9))/\V (Lpn.ndX (k i) (10:Nat)))/\V (Lpn.ndX (k i) (11:Nat)))/\V (Lpn.ndX (k i) (12:Nat)))/\V (Lpn.ndX (k i) (13:Nat)))/\V (Lpn.ndX (k i) (14:Nat)))/\V (Lpn.ndX (k i) (15:Nat)))/\V (Lpn.ndX (k i) (16:Nat)))/\V (Lpn.ndX (k i) (17:Nat)))/\V (Lpn.ndX (k i) (18:Nat)))/\V (Lpn.ndX (k i) (19:Nat)))/\V (Lpn.ndX (k i) (20:Nat)))/\V (Lpn.ndX (k i) (21:Nat)))/\V (Lpn.ndX (k i) (22:Nat)))/\V (Lpn.ndX (k i) (23:Nat)))/\V (Lpn.ndX (k i) (24:Nat)))/\V (Lpn.ndX (k i) (25:Nat)))/\V (Lpn.ndX (k i) (26:Nat)))/\V (Lpn.ndX (k i) (27:Nat)))/\V (Lpn.ndX (k i) (28:Nat)))/\V (Lpn.ndX (k i) (29:Nat)))/\V (Lpn.ndX (k i) (30:Nat)))/\V (Lpn.ndX (k i) (31:Nat)))/\V (Lpn.ndX (k i) (32:Nat)))/\V (Lpn.ndX (k i) (33:Nat)))/\V (Lpn.ndX (k i) (34:Nat)))/\V (Lpn.ndX (k i) (35:Nat)))/\V (Lpn.ndX (k i) (36:Nat)));let z45:=(z1/\T2 (A (z11=z11)/\T2 (True)));let z0:=(PnG.mk s z2 (Lpn.Nd.grp t false x m k) ns st bs);let z43:=(A z40/\∀ i:Nat,i<ns->True/\A (z22.fin i=z0.cv i));let z20:=(A z40/\∀ i:Nat,i<ns->True/\A (z0.cv i=z0.cv i));let z16:=(PnG.mk s z2 z39 ns z0.i0 z0.i0);let z9:=(A z40/\∀ i:Nat,i<ns->((((((((True/\q3 (z0.inn i z11))/\q3 (z0.inn i z18))/\q3 (z0.inn i z24))/\q3 (z0.inn i z25))/\q3 (z0.inn i z26))/\q3 (z0.inn i z27))/\q3 (z0.inn i z28))/\q3 (z0.inn i z29))/\q3 (z0.inn i z30));T2 (True/\A (z23<=z37/\z37<=z37/\(↑z18:Int)*z37<=(140737488355328:Int)/\z37<=z48)/\T5 (((True/\(z10/\(A ((58:Nat)=Lpn.ndT z39)/\z6/\A (m=m)/\∀ i:Nat,i<m->True/\A (Lpn.ndT (k i)=Lpn.ndT (k i))/\((((((((((((((((((((((((((((((((((((True/\V (Lpn.ndX (k i) 0))/\V (Lpn.ndX (k i) 1))/\V (Lpn.ndX (k i) 2))/\V (Lpn.ndX (k i) 3))/\V (Lpn.ndX (k i) 4))/\V (Lpn.ndX (k i) 5))/\V (Lpn.ndX (k i) 6))/\V (Lpn.ndX (k i) 7))/\V (Lpn.ndX (k i) 8))/\V (Lpn.ndX (k i) 9))/\V (Lpn.ndX (k i) (10:Nat)))/\V (Lpn.ndX (k i) (11:Nat)))/\V (Lpn.ndX (k i) (12:Nat)))/\V (Lpn.ndX (k i) (13:Nat)))/\V (Lpn.ndX (k i) (14:Nat)))/\V (Lpn.ndX (k i) (15:Nat)))/\V (Lpn.ndX (k i) (16:Nat)))/\V (Lpn.ndX (k i) (17:Nat)))/\V (Lpn.ndX (k i) (18:Nat)))/\V (Lpn.ndX (k i) (19:Nat)))/\V (Lpn.ndX (k i) (20:Nat)))/\V (Lpn.ndX (k i) (21:Nat)))/\V (Lpn.ndX (k i) (22:Nat)))/\V (Lpn.ndX (k i) (23:Nat)))/\V (Lpn.ndX (k i) (24:Nat)))/\V (Lpn.ndX (k i) (25:Nat)))/\V (Lpn.ndX (k i) (26:Nat)))/\V (Lpn.ndX (k i) (27:Nat)))/\V (Lpn.ndX (k i) (28:Nat)))/\V (Lpn.ndX (k i) (29:Nat)))/\V (Lpn.ndX (k i) (30:Nat)))/\V (Lpn.ndX (k i) (31:Nat)))/\V (Lpn.ndX (k i) (32:Nat)))/\V (Lpn.ndX (k i) (33:Nat)))/\V (Lpn.ndX (k i) (34:Nat)))/\V (Lpn.ndX (k i) (35:Nat)))/\V (Lpn.ndX (k i) (36:Nat)))/\True/\True)/\(A (z37.toNat=ns)/\∀ i:Nat,i<ns->True/\A (false=false))/\True)/\A (Lpc.CvOK (d+z18) z22))/\True/\(((A z40/\∀ i:Nat,i<ns->True/\A (z22.fin i=z22.fin i))/\A (true=true)/\True)/\A (ns<=(4294967296:Nat)))/\True/\K (!decide (z23<=Lpd.bX z22.fin ns z11)) (T2 ((True/\True)/\(A z40/\∀ i:Nat,i<ns->((((((((True/\A z3/\A (st i z11=z0.nx i z11))/\A z3/\A (st i z18=z0.nx i z18))/\A z3/\A (st i z24=z0.nx i z24))/\A z3/\A (st i z25=z0.nx i z25))/\A z3/\A (st i z26=z0.nx i z26))/\A z3/\A (st i z27=z0.nx i z27))/\A z3/\A (st i z28=z0.nx i z28))/\A z3/\A (st i z29=z0.nx i z29))/\A z3/\A (st i z30=z0.nx i z30))/\z5/\True)) (T2 (A (z23<=z37/\z37<=z37/\(↑z35:Int)*z37<=(140737488355328:Int)/\z37<=z48)/\True/\(T6 (K (!x.iso) (T2 (True/\∃ g:Unit,A ((nbC z0).pre g)/\True/\z45/\z15/\z5/\z10/\z43/\(A (z37.toNat=ns)/\∀ i:Nat,let z50:=(i-z11);let z17:=(z11<=i/\i<z11+ns.min z37.toNat); i<ns->((((((((True/\A z3/\A ((bif decide z17 then bs z50 z11 else z23)=z0.i0 i z11))/\A z3/\A ((bif decide z17 then bs z50 z18 else z23)=z0.i0 i z18))/\A z3/\A ((bif decide z17 then bs z50 z24 else z23)=z0.i0 i z24))/\A z3/\A ((bif decide z17 then bs z50 z25 else z23)=z0.i0 i z25))/\A z3/\A ((bif decide z17 then bs z50 z26 else z23)=z0.i0 i z26))/\A z3/\A ((bif decide z17 then bs z50 z27 else z23)=z0.i0 i z27))/\A z3/\A ((bif decide z17 then bs z50 z28 else z23)=z0.i0 i z28))/\A z3/\A ((bif decide z17 then bs z50 z29 else z23)=z0.i0 i z29))/\A z3/\A ((bif decide z17 then bs z50 z30 else z23)=z0.i0 i z30))/\True)) (∃ g:Unit,A ((nbC z0).pre g)/\True/\z45/\z15/\z5/\z10/\z43/\(A (z37.toNat=ns)/\∀ i:Nat,i<ns->((((((((True/\A z3/\A (z23=z0.i0 i z11))/\A z3/\A (z23=z0.i0 i z18))/\A z3/\A (z23=z0.i0 i z24))/\A z3/\A (z23=z0.i0 i z25))/\A z3/\A (z23=z0.i0 i z26))/\A z3/\A (z23=z0.i0 i z27))/\A z3/\A (z23=z0.i0 i z28))/\A z3/\A (z23=z0.i0 i z29))/\A z3/\A (z23=z0.i0 i z30))/\True)))/\∀ g:Unit,(nbC z0).pre g->T2 (True/\((True/\(z10/\z1/\True/\True)/\(A z40/\∀ i:Nat,i<ns->((((((((True/\q3 (z0.i0 i z11))/\q3 (z0.i0 i z18))/\q3 (z0.i0 i z24))/\q3 (z0.i0 i z25))/\q3 (z0.i0 i z26))/\q3 (z0.i0 i z27))/\q3 (z0.i0 i z28))/\q3 (z0.i0 i z29))/\q3 (z0.i0 i z30))/\True)/\A (PtOK d z16))/\T2 (True/\(∃ g:Nat,A ((nbI z0).pre g)/\True/\(z1/\T5 (z33/\(A z14/\A (z23=(↑g:Int)))/\True))/\(A z40/\∀ i:Nat,i<ns->((((((((True/\A z3/\A (st i z11=z0.at g i z11))/\A z3/\A (st i z18=z0.at g i z18))/\A z3/\A (st i z24=z0.at g i z24))/\A z3/\A (st i z25=z0.at g i z25))/\A z3/\A (st i z26=z0.at g i z26))/\A z3/\A (st i z27=z0.at g i z27))/\A z3/\A (st i z28=z0.at g i z28))/\A z3/\A (st i z29=z0.at g i z29))/\A z3/\A (st i z30=z0.at g i z30))/\z5/\z10/\z20/\(A z40/\∀ i:Nat,i<ns->((((((((True/\A z3/\A (z16.pt z39.n i z11=z0.inn i z11))/\A z3/\A (z16.pt z39.n i z18=z0.inn i z18))/\A z3/\A (z16.pt z39.n i z24=z0.inn i z24))/\A z3/\A (z16.pt z39.n i z25=z0.inn i z25))/\A z3/\A (z16.pt z39.n i z26=z0.inn i z26))/\A z3/\A (z16.pt z39.n i z27=z0.inn i z27))/\A z3/\A (z16.pt z39.n i z28=z0.inn i z28))/\A z3/\A (z16.pt z39.n i z29=z0.inn i z29))/\A z3/\A (z16.pt z39.n i z30=z0.inn i z30))/\True)/\∀ g:Nat,let z13:=(↑g:Int);let z49:=(z0.inn z13.toNat z42=z0.inn z13.toNat z42);let z41:=(fun (j:Nat)=>bs z13.toNat (z11+j));let z38:=(z13.toNat<ns);let z34:=(z0.inn z13.toNat z42);let z44:=(q3 (mul255 z34 x.alpha));let z21:=((-9223372036854775808:Int)<=z13+(1:Int)/\z13+(1:Int)<=z48);let z19:=(z23<=z13/\z13<z37);let z12:=(Lbt.MixG.mk z41 (fun (j:Nat)=>z0.inn z13.toNat (z11+j)) x.alpha);let z8:=(((((((((True/\q3 (bs z13.toNat z42))/\q3 (bs z13.toNat z54))/\q3 (bs z13.toNat z55))/\q3 (bs z13.toNat z56))/\q3 (bs z13.toNat z57))/\q3 (bs z13.toNat z58))/\q3 (bs z13.toNat z59))/\q3 (bs z13.toNat z60))/\q3 (bs z13.toNat (z11+z30)));let z7:=(Cmp.PaintG.mk z41 (fun (j:Nat)=>z0.inn z13.toNat (z11+z18+(z11+j))) (mul255 z34 x.alpha) (Blend.modeF x.blend.toNat) false);let z4:=(Cmp.PaintG.mk z41 (fun (j:Nat)=>Sx.intOf (Sx.zeroF [Go.Value.int IntKind.u8 z23,Go.Value.int IntKind.u8 z23,Go.Value.int IntKind.u8 z23,Go.Value.int IntKind.u8 z23,Go.Value.int IntKind.u8 z23,Go.Value.int IntKind.u8 z23,Go.Value.int IntKind.u8 z23,Go.Value.int IntKind.u8 z23] (z11+j))) (mul255 z34 x.alpha) (Blend.modeF x.blend.toNat) false); (nbI z0).pre g->True/\K (decide (z13<z37)) (True/\A z19/\A z38/\T2 (T2 (K (!z0.cv z13.toNat) (A z21/\True/\∃ (g':Nat),A ((nbI z0).pre g')/\True/\((z1/\T5 (z33/\(A z14/\A (z13+(1:Int)=(↑g':Int)))/\True))/\(A z40/\∀ i:Nat,i<ns->((((((((True/\A z3/\A (z0.at g i z11=z0.at g' i z11))/\A z3/\A (z0.at g i z18=z0.at g' i z18))/\A z3/\A (z0.at g i z24=z0.at g' i z24))/\A z3/\A (z0.at g i z25=z0.at g' i z25))/\A z3/\A (z0.at g i z26=z0.at g' i z26))/\A z3/\A (z0.at g i z27=z0.at g' i z27))/\A z3/\A (z0.at g i z28=z0.at g' i z28))/\A z3/\A (z0.at g i z29=z0.at g' i z29))/\A z3/\A (z0.at g i z30=z0.at g' i z30))/\z5/\z10/\z20/\z9/\True)/\A ((nbI z0).meas g'<(nbI z0).meas g)) (T6 (K (!x.iso) (T2 (T2 (A z19/\A z38/\T2 (A z19/\A z38/\T5 (((z8/\(((((((((True/\A z3/\A z49)/\q3 (z0.inn z13.toNat z54))/\q3 (z0.inn z13.toNat z55))/\q3 (z0.inn z13.toNat z56))/\q3 (z0.inn z13.toNat z57))/\q3 (z0.inn z13.toNat z58))/\q3 (z0.inn z13.toNat z59))/\q3 (z0.inn z13.toNat z60))/\q3 (z0.inn z13.toNat (z11+z30)))/\z53/\True)/\A z12.ok)/\A z19/\A z38/\A z21/\True/\∃ (g':Nat),A ((nbI z0).pre g')/\True/\((z1/\T5 (z33/\(A z14/\A (z13+(1:Int)=(↑g':Int)))/\True))/\(A z40/\∀ i:Nat,i<ns->((((((((True/\A z3/\A ((bif decide (i=z13.toNat/\z11<=z11/\z11<z11+z35) then z12.res (z11-z11) else z0.at g i z11)=z0.at g' i z11))/\A z3/\A ((bif decide (i=z13.toNat/\z11<=z18/\z18<z11+z35) then z12.res (z18-z11) else z0.at g i z18)=z0.at g' i z18))/\A z3/\A ((bif decide (i=z13.toNat/\z11<=z24/\z24<z11+z35) then z12.res (z24-z11) else z0.at g i z24)=z0.at g' i z24))/\A z3/\A ((bif decide (i=z13.toNat/\z11<=z25/\z25<z11+z35) then z12.res (z25-z11) else z0.at g i z25)=z0.at g' i z25))/\A z3/\A ((bif decide (i=z13.toNat/\z11<=z26/\z26<z11+z35) then z12.res (z26-z11) else z0.at g i z26)=z0.at g' i z26))/\A z3/\A ((bif decide (i=z13.toNat/\z11<=z27/\z27<z11+z35) then z12.res (z27-z11) else z0.at g i z27)=z0.at g' i z27))/\A z3/\A ((bif decide (i=z13.toNat/\z11<=z28/\z28<z11+z35) then z12.res (z28-z11) else z0.at g i z28)=z0.at g' i z28))/\A z3/\A ((bif decide (i=z13.toNat/\z11<=z29/\z29<z11+z35) then z12.res (z29-z11) else z0.at g i z29)=z0.at g' i z29))/\A z3/\A ((bif decide (i=z13.toNat/\z11<=z30/\z30<z11+z35) then z12.res (z30-z11) else z0.at g i z30)=z0.at g' i z30))/\z5/\z10/\z20/\z9/\True)/\A ((nbI z0).meas g'<(nbI z0).meas g)))))) (T2 (A z19/\True/\A z38/\T5 ((((A z3/\A z49)/\z53/\True)/\A ((z23<=z0.inn z13.toNat z42/\z0.inn z13.toNat z42<=(255:Int))/\z23<=x.alpha/\x.alpha<=(255:Int)))/\T2 (A z19/\True/\A z38/\T5 (K (decide (mul255 z34 x.alpha=z23)) (T6 (A z19/\A z38/\T6 (((z8/\((((((((True/\A z3/\A z47)/\A z3/\A z47)/\A z3/\A z47)/\A z3/\A z47)/\A z3/\A z47)/\A z3/\A z47)/\A z3/\A z47)/\A z3/\A z47)/\z44/\z31/\A (false=false)/\True)/\A z4.ok)/\A z19/\A z38/\A z21/\True/\∃ (g':Nat),A ((nbI z0).pre g')/\True/\((z1/\T5 (z33/\(A z14/\A (z13+(1:Int)=(↑g':Int)))/\True))/\(A z40/\∀ i:Nat,i<ns->((((((((True/\A z3/\A ((bif decide (i=z13.toNat/\z11<=z11/\z11<z11+z35) then z4.res (z11-z11) else z0.at g i z11)=z0.at g' i z11))/\A z3/\A ((bif decide (i=z13.toNat/\z11<=z18/\z18<z11+z35) then z4.res (z18-z11) else z0.at g i z18)=z0.at g' i z18))/\A z3/\A ((bif decide (i=z13.toNat/\z11<=z24/\z24<z11+z35) then z4.res (z24-z11) else z0.at g i z24)=z0.at g' i z24))/\A z3/\A ((bif decide (i=z13.toNat/\z11<=z25/\z25<z11+z35) then z4.res (z25-z11) else z0.at g i z25)=z0.at g' i z25))/\A z3/\A ((bif decide (i=z13.toNat/\z11<=z26/\z26<z11+z35) then z4.res (z26-z11) else z0.at g i z26)=z0.at g' i z26))/\A z3/\A ((bif decide (i=z13.toNat/\z11<=z27/\z27<z11+z35) then z4.res (z27-z11) else z0.at g i z27)=z0.at g' i z27))/\A z3/\A ((bif decide (i=z13.toNat/\z11<=z28/\z28<z11+z35) then z4.res (z28-z11) else z0.at g i z28)=z0.at g' i z28))/\A z3/\A ((bif decide (i=z13.toNat/\z11<=z29/\z29<z11+z35) then z4.res (z29-z11) else z0.at g i z29)=z0.at g' i z29))/\A z3/\A ((bif decide (i=z13.toNat/\z11<=z30/\z30<z11+z35) then z4.res (z30-z11) else z0.at g i z30)=z0.at g' i z30))/\z5/\z10/\z20/\z9/\True)/\A ((nbI z0).meas g'<(nbI z0).meas g)))) (T2 (T2 (A z19/\A z38/\T6 (((z8/\((((((((True/\q3 (z0.inn z13.toNat (z11+z18+z42)))/\q3 (z0.inn z13.toNat (z11+z18+z54)))/\q3 (z0.inn z13.toNat (z11+z18+z55)))/\q3 (z0.inn z13.toNat (z11+z18+z56)))/\q3 (z0.inn z13.toNat (z11+z18+z57)))/\q3 (z0.inn z13.toNat (z11+z18+z58)))/\q3 (z0.inn z13.toNat (z11+z18+z59)))/\q3 (z0.inn z13.toNat (z11+z18+z60)))/\z44/\z31/\A (false=false)/\True)/\A z7.ok)/\A z19/\A z38/\A z21/\True/\∃ (g':Nat),A ((nbI z0).pre g')/\True/\((z1/\T5 (z33/\(A z14/\A (z13+(1:Int)=(↑g':Int)))/\True))/\(A z40/\∀ i:Nat,i<ns->((((((((True/\A z3/\A ((bif decide (i=z13.toNat/\z11<=z11/\z11<z11+z35) then z7.res (z11-z11) else z0.at g i z11)=z0.at g' i z11))/\A z3/\A ((bif decide (i=z13.toNat/\z11<=z18/\z18<z11+z35) then z7.res (z18-z11) else z0.at g i z18)=z0.at g' i z18))/\A z3/\A ((bif decide (i=z13.toNat/\z11<=z24/\z24<z11+z35) then z7.res (z24-z11) else z0.at g i z24)=z0.at g' i z24))/\A z3/\A ((bif decide (i=z13.toNat/\z11<=z25/\z25<z11+z35) then z7.res (z25-z11) else z0.at g i z25)=z0.at g' i z25))/\A z3/\A ((bif decide (i=z13.toNat/\z11<=z26/\z26<z11+z35) then z7.res (z26-z11) else z0.at g i z26)=z0.at g' i z26))/\A z3/\A ((bif decide (i=z13.toNat/\z11<=z27/\z27<z11+z35) then z7.res (z27-z11) else z0.at g i z27)=z0.at g' i z27))/\A z3/\A ((bif decide (i=z13.toNat/\z11<=z28/\z28<z11+z35) then z7.res (z28-z11) else z0.at g i z28)=z0.at g' i z28))/\A z3/\A ((bif decide (i=z13.toNat/\z11<=z29/\z29<z11+z35) then z7.res (z29-z11) else z0.at g i z29)=z0.at g' i z29))/\A z3/\A ((bif decide (i=z13.toNat/\z11<=z30/\z30<z11+z35) then z7.res (z30-z11) else z0.at g i z30)=z0.at g' i z30))/\z5/\z10/\z20/\z9/\True)/\A ((nbI z0).meas g'<(nbI z0).meas g))))))))))))))) (T2 ((True/\True)/\(A z40/\∀ i:Nat,i<ns->((((((((True/\A z3/\A (z0.at g i z11=z0.nx i z11))/\A z3/\A (z0.at g i z18=z0.nx i z18))/\A z3/\A (z0.at g i z24=z0.nx i z24))/\A z3/\A (z0.at g i z25=z0.nx i z25))/\A z3/\A (z0.at g i z26=z0.nx i z26))/\A z3/\A (z0.at g i z27=z0.nx i z27))/\A z3/\A (z0.at g i z28=z0.nx i z28))/\A z3/\A (z0.at g i z29=z0.nx i z29))/\A z3/\A (z0.at g i z30=z0.nx i z30))/\z5/\True))))))))) (by kernel_rfl) ?_
  simp only [ask_iff,br_iff,eq_self,true_and,and_true,implies_true,forall_const,decide_eq_true_eq,decide_eq_false_iff_not,ne_eq,Nat.mul_one,Nat.add_zero,Nat.zero_add]
  have hs:∀ nd j,SVle [] [] (ndX nd j) (ndX nd j)=True:=fun nd j=>eq_true (SVle.refl [] [] (ndX_own nd j))
  have e:ndOf (lst (itL x++[.int .i64 t,mxS x false,.sl m 1 (fun a _=> .ifc (ndT (k a)) (fun _=> .ref 37 (ndX (k a))))])) = .grp t false x m k:=by rw [<-ndX_grp]; exact ndOf_ndX _
  simp only [e,hs,Int.toNat_natCast,and_self,and_true,true_and,implies_true,zf8]
  have hc:(lst (itL x++[.int .i64 t,mxS x false,.sl m 1 (fun a _=> .ifc (ndT (k a)) (fun _=> .ref 37 (ndX (k a))))]))=ndX (.grp t false x m k):=(ndX_grp _ _ _ _ _).symm
  have hb':=hg.b
  generalize lst (itL x++[.int .i64 t,mxS x false,.sl m 1 (fun a _=> .ifc (ndT (k a)) (fun _=> .ref 37 (ndX (k a))))])=C at *
  have hn1:(ns:Int)=s.x1-s.x0:=hb'.n
  have hn2 : -8192<=s.x0:=hb'.x0
  have hn3:s.x1<=8192:=hb'.x1
  have hn4:0<ns:=hb'.pos
  have hnd:NdOK (d+1) (.grp t false x m k):= .grp hn rfl ha hb hk
  have hcv:CvOK (d+1) ⟨s,C,.grp t false x m k,ns,fun _=>false⟩:=⟨hc,hnd,hn2,hn3,hn1⟩
  have hfin:∀ i,CvG.fin ⟨s,C,.grp t false x m k,ns,fun _=>false⟩ i=PnG.cv ⟨s,C,.grp t false x m k,ns,st,bs⟩ i:=fun i=>Bool.false_or _
  refine ⟨by omega,⟨rfl,hcv⟩,by omega,fun hno i hi=>?_,fun hyes=>⟨by omega,⟨fun hx=>⟨(),trivial,fun i _=>hfin i,fun i hi=>?_⟩,fun hx=>⟨(),trivial,fun i _=>hfin i,fun i hi=>?_⟩⟩,fun _ _=>?_⟩⟩
  ·have hno:PnG.nx ⟨s,C,.grp t false x m k,ns,st,bs⟩ i=st i:=ns_no (g:=⟨s,C,.grp t false x m k,ns,st,bs⟩) rfl ((hfin i).symm.trans (any_cv (n:=ns) (by simpa using hno) hi))
   have h0:∀ j,st i j=PnG.nx ⟨s,C,.grp t false x m k,ns,st,bs⟩ i j:=fun j=>(congrFun hno j).symm
   exact all9 h0
  ·have hx:x.iso=false:=by simpa using hx
   have h0:∀ j,(bif decide (0<=i/\i<ns.min ns) then bs (i-0) j else 0)=PnG.i0 ⟨s,C,.grp t false x m k,ns,st,bs⟩ i j:=fun j=>by
    have hi0:PnG.i0 ⟨s,C,.grp t false x m k,ns,st,bs⟩ i=bs i:=if_neg (show ¬ x.iso=true by rw [hx]; exact Bool.false_ne_true)
    have hmin:i<Nat.min ns ns:=by rw [show Nat.min ns ns=ns from Nat.min_self ns]; exact hi
    rw [decide_eq_true ⟨Nat.zero_le _,hmin⟩,hi0]
    rfl
   exact all9 h0
  ·have hx:x.iso=true:=by simpa using hx
   have h0:∀ j,(0:Int)=PnG.i0 ⟨s,C,.grp t false x m k,ns,st,bs⟩ i j:=fun j=>(congrFun (show PnG.i0 ⟨s,C,.grp t false x m k,ns,st,bs⟩ i=fun _=>0 from if_pos hx) j).symm
   exact all9 h0
  have hu:=fun i (hi:i<ns)=>inn_u9 (g:=⟨s,C,.grp t false x m k,ns,st,bs⟩) hb' hk hi
  have hbd:BdOK ⟨s,C,.grp t false x m k,ns,PnG.i0 ⟨s,C,.grp t false x m k,ns,st,bs⟩,PnG.i0 ⟨s,C,.grp t false x m k,ns,st,bs⟩⟩:=⟨hb'.y,hn2,hn3,hn1,hn4,fun i hi=>i0_u9 hb' hi,fun i hi=>i0_u9 hb' hi⟩
  refine ⟨⟨hc,rfl,hn,hk,hbd⟩,⟨0,Nat.zero_le _,rfl,fun i _=>all9 fun j=>(congrFun (if_neg (Nat.not_lt_zero i)) j).symm,fun i _=>all9 fun j=>rfl⟩,fun q hq=>⟨fun hlt=>?_,fun hge i hi=>?_⟩⟩
  ·have hlt:q<ns:=by omega
   have hld:(fun j=>bs q j)=bs q:=rfl
   have hbq:isU9 (bs q):=hb'.bs q hlt
   have hiq:=hu q hlt
   have hmm:ns-(q+1)<ns-q:=by omega
   simp only [hld]
   refine ⟨by omega,hlt,fun hm=>⟨by omega,q+1,hlt,⟨by simp,fun i _=>all9 fun j=>congrFun (ns_skip (g:=⟨s,C,.grp t false x m k,ns,st,bs⟩) rfl (by simpa using hm) i) j⟩,hmm⟩,fun hm=>⟨fun hx=>?_,fun hx=>?_⟩⟩
   ·have hm:PnG.cv ⟨s,C,.grp t false x m k,ns,st,bs⟩ q=true:=by simpa using hm
    have hx:x.iso=false:=by simpa using hx
    have hV:(MixG.mk (bs q) (PnG.inn ⟨s,C,.grp t false x m k,ns,st,bs⟩ q) x.alpha).res=PnG.nx ⟨s,C,.grp t false x m k,ns,st,bs⟩ q:=(ns_mix (g:=⟨s,C,.grp t false x m k,ns,st,bs⟩) rfl hm hx).symm
    have st9:=fun i=>ns_step hV i
    exact ⟨by omega,hlt,by omega,hlt,⟨⟨hbq,hiq⟩,ha⟩,by omega,hlt,by omega,q+1,hlt,⟨by simp,fun i hi=>⟨⟨⟨⟨⟨⟨⟨⟨st9 i 0,st9 i 1⟩,st9 i 2⟩,st9 i 3⟩,st9 i 4⟩,st9 i 5⟩,st9 i 6⟩,st9 i 7⟩,st9 i 8⟩⟩,hmm⟩
   ·have hm:PnG.cv ⟨s,C,.grp t false x m k,ns,st,bs⟩ q=true:=by simpa using hm
    have hx:x.iso=true:=by simpa using hx
    have hV:isoC (bs q) (PnG.inn ⟨s,C,.grp t false x m k,ns,st,bs⟩ q) x=PnG.nx ⟨s,C,.grp t false x m k,ns,st,bs⟩ q:=(ns_iso (g:=⟨s,C,.grp t false x m k,ns,st,bs⟩) rfl hm hx).symm
    have hok:=isoG_ok hbq hiq ha hb
    unfold isoC at hV
    refine ⟨by omega,hlt,⟨hiq 0,ha⟩,by omega,hlt,fun hz=>?_,fun hz=>?_⟩
    ·rw [if_pos hz] at hV hok
     have st9:=fun i=>ns_step hV i
     exact ⟨by omega,hlt,hok,by omega,hlt,by omega,q+1,hlt,⟨by simp,fun i hi=>⟨⟨⟨⟨⟨⟨⟨⟨st9 i 0,st9 i 1⟩,st9 i 2⟩,st9 i 3⟩,st9 i 4⟩,st9 i 5⟩,st9 i 6⟩,st9 i 7⟩,st9 i 8⟩⟩,hmm⟩
    ·rw [if_neg hz] at hV hok
     have st9:=fun i=>ns_step hV i
     exact ⟨by omega,hlt,hok,by omega,hlt,by omega,q+1,hlt,⟨by simp,fun i hi=>⟨⟨⟨⟨⟨⟨⟨⟨st9 i 0,st9 i 1⟩,st9 i 2⟩,st9 i 3⟩,st9 i 4⟩,st9 i 5⟩,st9 i 6⟩,st9 i 7⟩,st9 i 8⟩⟩,hmm⟩
  ·have hq:q<=ns:=hq
   have h0:∀ j,PnG.at ⟨s,C,.grp t false x m k,ns,st,bs⟩ q i j=PnG.nx ⟨s,C,.grp t false x m k,ns,st,bs⟩ i j:=fun j=>congrFun (if_pos (by omega)) j
   exact all9 h0
end Go.Proofs.Ythappngbapbkfaa.Lpe
set_option linter.unusedSimpArgs false
set_option linter.unusedVariables false
namespace Go.Proofs.Ythappngbapbkfaa.Lpf
open Go.RowKit Sx Num Aff Afi Img Imh Imp Imq Rga Blend Ble Lsg Lta Lrd Lri Luc Lck Lgr Lcs Lst Lch Lcl Lgp Lsc Cmp Lpm Lpa Lpr Lbt Lpn Lpc Lpd Lpe
set_option maxRecDepth 100000
noncomputable def ptT (g:PnG) (i:Nat):Tmps:=[(3,.own 1 0),(5,.own 2 0),(6,.own 3 0),(22,kidS g.nd.n g.nd.k),(23,.int .i64 g.nd.n),(24,.int .i64 i)]
def ptO (g:PnG) (kn:Bool) (i:Nat):List SO:=match kn with
 | false=>[stR g.ns (g.pt i),.cells 3 (lst (stL g.s)) TRp,.cells 1 (lst [.osl 0 0]) TSs,.cells 1 (lst [.osl 0 0]) TSs]
 | true=>[stR g.ns (g.pt i),.cells 3 (lst (stL g.s)) TRp,.cells 1 (lst [.osl 0 0]) TSs,.cells 1 (lst [.osl 4 0]) TSs,stR g.ns g.st]
noncomputable def ptI (g:PnG):Inv:=⟨Nat,fun i=>i<=g.nd.n,fun i=>⟨ptT g i,ptO g g.nd.x.knock i⟩,fun i=>g.nd.n-i⟩
structure FmG where
 t:Nat
 x:It
noncomputable def mbI (d:Nat) (g:PnG) (i:Nat):Inv:=⟨Nd,fun nd=>g.nd.k i=nd/\NdOK d nd,fun nd=>⟨(28,.ifc (ndT nd) (fun _=> .ref 37 (ndX nd)))::ptT g i,ptO g g.nd.x.knock i⟩,fun _=>0⟩
noncomputable def mbF (g:PnG) (i:Nat):Inv:=⟨FmG,fun m=>g.nd.k i = .fill m.t m.x/\FillOK m.x/\Vr m.x.nr m.x.runs,fun m=>⟨(28,.ifc TPf (fun _=> .ref 37 (fcS m.t m.x (srcX m.x.src))))::ptT g i,ptO g g.nd.x.knock i⟩,fun _=>0⟩
noncomputable def mbJ (d:Nat) (g:PnG) (i:Nat):Inv:=⟨Nd,fun nd=>(g.nd.k i=nd/\NdOK d nd)/\ndT nd=TPg,fun nd=>⟨(28,.ifc TPg (fun _=> .ref 37 (ndX nd)))::ptT g i,ptO g g.nd.x.knock i⟩,fun _=>0⟩
theorem hand_mb (d:Nat) (g:PnG) (i:Nat):HandOK 49 1 (mbI d g i) [mbF g i,mbJ d g i]:=by
 rintro nd ⟨h1,h2⟩ w0 X0 a w _ h
 have h1:g.nd.k i=nd:=h1
 have h2:NdOK d nd:=h2
 have h:StR w0 X0 49 ⟨(28,.ifc (ndT nd) (fun _=> .ref 37 (ndX nd)))::ptT g i,ptO g g.nd.x.knock i⟩ a w:=h
 cases h2 with
 | @fill _ t x hf hv=>
  rw [ndX_fill] at h
  exact ⟨mbF g i,List.mem_cons_self,⟨t,x⟩,⟨h1,hf,hv⟩,h⟩
 | grp hn hm ha hb hk=>
  exact ⟨mbJ _ g i,List.mem_cons_of_mem _ List.mem_cons_self,_,⟨⟨h1,.grp hn hm ha hb hk⟩,rfl⟩,h⟩
noncomputable def spPk (d:Nat) (kn:Bool):FSpec:=mkSpecM 28 [.arg 2] (γ:=PnG)
 (fun l o=>match l with | [.agg _ s,r,_]=>some ⟨stD s,refGD r,ndOf (refGD r),rowND (o.getD 0 .dead),stFD (o.getD 0 .dead),stFD (o.getD 0 .dead)⟩ | _=>none)
 (fun g=>[stS g.s,.ref 37 g.c,.osl 0 0]) (fun g=>[stR g.ns g.st]) (fun g=>PtOK d g/\g.nd.x.knock=kn) (fun _=> .tup 0 (lst [])) (fun g=>[stR g.ns (g.pt g.nd.n)])
set_option maxHeartbeats 1000000 in
theorem ok_pk0 {d:Nat}(ha:SpecOK Try.prog (spNa d)):SpecOK Try.prog (spPk d false):=by
 refine spec_soundM (specs:=[spRa,spNa d]) (all_ok (⟨ok_Ra,ha,trivial⟩)) (eqs:=[]) (fun _ _ h=>(List.not_mem_nil h).elim) Aff.mixed Try.func28 rfl (by kernel_rfl) (fun _ _=>by kernel_rfl) (fun g=>(⟨[(5,.nest (ptI g) (fun i=>[(5000008,.hand (mbI d g i) [mbF g i,mbJ d g i])]))],[]⟩:Ann)) true (fun g=>Nat.le_of_ble_eq_true (by kernel_rfl)) ?_
 rintro ⟨s,c,nd,ns,st,bs⟩ ⟨hg,hkn⟩
 have hc:c=ndX nd:=hg.c
 cases nd with
 | fill t x=>exact absurd (show TPf=TPg from hg.isg) (by decide)
 | grp t mx x m k=>
  rw [ndX_grp] at hc
  subst hc
  obtain ⟨kind,nr,runs,src,al,bl,ov,iso,kn⟩:=x
  have hkn:kn=false:=hkn
  subst hkn
  refine vc_of (B:=let V:=fun p:Sx.SV=>Sx.SVle [] [] p p;let K:=IntKind.i64;let A:=Sx.Ask;let z57:=(9:Nat);let z53:=(36:Nat);let z52:=(34:Nat);let z51:=(33:Nat);let z50:=(32:Nat);let z49:=(31:Nat);let z48:=(30:Nat);let z47:=(29:Nat);let z46:=(28:Nat);let z45:=(27:Nat);let z44:=(26:Nat);let z43:=(25:Nat);let z42:=(24:Nat);let z41:=(23:Nat);let z40:=(22:Nat);let z39:=(21:Nat);let z38:=(20:Nat);let z37:=(19:Nat);let z36:=(18:Nat);let z35:=(17:Nat);let z34:=(16:Nat);let z33:=(15:Nat);let z32:=(14:Nat);let z31:=(13:Nat);let z30:=(12:Nat);let z29:=(11:Nat);let z28:=(10:Nat);let z26:=(35:Nat);let z25:=(8:Nat);let z24:=(7:Nat);let z23:=(6:Nat);let z22:=(5:Nat);let z21:=(4:Nat);let z20:=(3:Nat);let z19:=(2:Nat);let z18:=(Lsg.It.mk kind nr runs src al bl ov iso false);let z17:=(True/\True);let z16:=(1:Nat);let z15:=(0:Nat);let z10:=(z15=z15);let z5:=(K=K);let q5:=fun p:Int=>A z5/\A (p=p);let z7:=(((True/\q5 s.y)/\q5 s.x0)/\q5 s.x1);let z3:=(IntKind.u8=IntKind.u8);let q3:=fun p:Int=>A z3/\A (p=p);let z1:=(Lpn.Nd.grp t mx z18 m k);let z56:=(↑z1.n:Int);let z14:=(q5 z56);let z2:=(A (z1.n=z1.n)/\∀ i:Nat,i<z1.n->True/\A (Lpn.ndT (z1.k i)=Lpn.ndT (z1.k i))/\((((((((((((((((((((((((((((((((((((True/\V (Lpn.ndX (z1.k i) 0))/\V (Lpn.ndX (z1.k i) 1))/\V (Lpn.ndX (z1.k i) 2))/\V (Lpn.ndX (z1.k i) 3))/\V (Lpn.ndX (z1.k i) 4))/\V (Lpn.ndX (z1.k i) 5))/\V (Lpn.ndX (z1.k i) 6))/\V (Lpn.ndX (z1.k i) 7))/\V (Lpn.ndX (z1.k i) 8))/\V (Lpn.ndX (z1.k i) 9))/\V (Lpn.ndX (z1.k i) 10))/\V (Lpn.ndX (z1.k i) 11))/\V (Lpn.ndX (z1.k i) 12))/\V (Lpn.ndX (z1.k i) 13))/\V (Lpn.ndX (z1.k i) 14))/\V (Lpn.ndX (z1.k i) 15))/\V (Lpn.ndX (z1.k i) 16))/\V (Lpn.ndX (z1.k i) 17))/\V (Lpn.ndX (z1.k i) 18))/\V (Lpn.ndX (z1.k i) 19))/\V (Lpn.ndX (z1.k i) 20))/\V (Lpn.ndX (z1.k i) 21))/\V (Lpn.ndX (z1.k i) 22))/\V (Lpn.ndX (z1.k i) 23))/\V (Lpn.ndX (z1.k i) 24))/\V (Lpn.ndX (z1.k i) 25))/\V (Lpn.ndX (z1.k i) 26))/\V (Lpn.ndX (z1.k i) 27))/\V (Lpn.ndX (z1.k i) 28))/\V (Lpn.ndX (z1.k i) 29))/\V (Lpn.ndX (z1.k i) 30))/\V (Lpn.ndX (z1.k i) 31))/\V (Lpn.ndX (z1.k i) 32))/\V (Lpn.ndX (z1.k i) 33))/\V (Lpn.ndX (z1.k i) 34))/\V (Lpn.ndX (z1.k i) 35))/\V (Lpn.ndX (z1.k i) 36));let z0:=(Lpe.PnG.mk s (Sx.lst (Lsg.itL z18++[Sx.SV.int K t,Lpn.mxS z18 mx,Sx.SV.sl m z16 fun (a x:Nat)=>Sx.SV.ifc (Lpn.ndT (k a)) fun (x:Nat)=>Sx.SV.ref (37:Nat) (Lpn.ndX (k a))])) z1 ns st bs);True/\True/\True/\True/\True/\True/\True/\True/\True/\True/\True/\True/\True/\True/\True/\True/\(∃ g:Nat,A ((ptI z0).pre g)/\True/\(A z10/\A z10/\A z10/\(A (m=z1.n)/\∀ i:Nat,i<z1.n->True/\A (Lpn.ndT (k i)=Lpn.ndT (z1.k i))/\((((((((((((((((((((((((((((((((((((True/\Sx.SVle [] [] (Lpn.ndX (k i) z15) (Lpn.ndX (z1.k i) z15))/\Sx.SVle [] [] (Lpn.ndX (k i) z16) (Lpn.ndX (z1.k i) z16))/\Sx.SVle [] [] (Lpn.ndX (k i) z19) (Lpn.ndX (z1.k i) z19))/\Sx.SVle [] [] (Lpn.ndX (k i) z20) (Lpn.ndX (z1.k i) z20))/\Sx.SVle [] [] (Lpn.ndX (k i) z21) (Lpn.ndX (z1.k i) z21))/\Sx.SVle [] [] (Lpn.ndX (k i) z22) (Lpn.ndX (z1.k i) z22))/\Sx.SVle [] [] (Lpn.ndX (k i) z23) (Lpn.ndX (z1.k i) z23))/\Sx.SVle [] [] (Lpn.ndX (k i) z24) (Lpn.ndX (z1.k i) z24))/\Sx.SVle [] [] (Lpn.ndX (k i) z25) (Lpn.ndX (z1.k i) z25))/\Sx.SVle [] [] (Lpn.ndX (k i) z57) (Lpn.ndX (z1.k i) z57))/\Sx.SVle [] [] (Lpn.ndX (k i) z28) (Lpn.ndX (z1.k i) z28))/\Sx.SVle [] [] (Lpn.ndX (k i) z29) (Lpn.ndX (z1.k i) z29))/\Sx.SVle [] [] (Lpn.ndX (k i) z30) (Lpn.ndX (z1.k i) z30))/\Sx.SVle [] [] (Lpn.ndX (k i) z31) (Lpn.ndX (z1.k i) z31))/\Sx.SVle [] [] (Lpn.ndX (k i) z32) (Lpn.ndX (z1.k i) z32))/\Sx.SVle [] [] (Lpn.ndX (k i) z33) (Lpn.ndX (z1.k i) z33))/\Sx.SVle [] [] (Lpn.ndX (k i) z34) (Lpn.ndX (z1.k i) z34))/\Sx.SVle [] [] (Lpn.ndX (k i) z35) (Lpn.ndX (z1.k i) z35))/\Sx.SVle [] [] (Lpn.ndX (k i) z36) (Lpn.ndX (z1.k i) z36))/\Sx.SVle [] [] (Lpn.ndX (k i) z37) (Lpn.ndX (z1.k i) z37))/\Sx.SVle [] [] (Lpn.ndX (k i) z38) (Lpn.ndX (z1.k i) z38))/\Sx.SVle [] [] (Lpn.ndX (k i) z39) (Lpn.ndX (z1.k i) z39))/\Sx.SVle [] [] (Lpn.ndX (k i) z40) (Lpn.ndX (z1.k i) z40))/\Sx.SVle [] [] (Lpn.ndX (k i) z41) (Lpn.ndX (z1.k i) z41))/\Sx.SVle [] [] (Lpn.ndX (k i) z42) (Lpn.ndX (z1.k i) z42))/\Sx.SVle [] [] (Lpn.ndX (k i) z43) (Lpn.ndX (z1.k i) z43))/\Sx.SVle [] [] (Lpn.ndX (k i) z44) (Lpn.ndX (z1.k i) z44))/\Sx.SVle [] [] (Lpn.ndX (k i) z45) (Lpn.ndX (z1.k i) z45))/\Sx.SVle [] [] (Lpn.ndX (k i) z46) (Lpn.ndX (z1.k i) z46))/\Sx.SVle [] [] (Lpn.ndX (k i) z47) (Lpn.ndX (z1.k i) z47))/\Sx.SVle [] [] (Lpn.ndX (k i) z48) (Lpn.ndX (z1.k i) z48))/\Sx.SVle [] [] (Lpn.ndX (k i) z49) (Lpn.ndX (z1.k i) z49))/\Sx.SVle [] [] (Lpn.ndX (k i) z50) (Lpn.ndX (z1.k i) z50))/\Sx.SVle [] [] (Lpn.ndX (k i) z51) (Lpn.ndX (z1.k i) z51))/\Sx.SVle [] [] (Lpn.ndX (k i) z52) (Lpn.ndX (z1.k i) z52))/\Sx.SVle [] [] (Lpn.ndX (k i) z26) (Lpn.ndX (z1.k i) z26))/\Sx.SVle [] [] (Lpn.ndX (k i) z53) (Lpn.ndX (z1.k i) z53))/\(A z5/\A ((↑m:Int)=z56))/\(A z5/\A ((0:Int)=(↑g:Int)))/\True)/\(A (ns=ns)/\∀ i:Nat,i<ns->((((((((True/\A z3/\A (st i z15=z0.pt g i z15))/\A z3/\A (st i z16=z0.pt g i z16))/\A z3/\A (st i z19=z0.pt g i z19))/\A z3/\A (st i z20=z0.pt g i z20))/\A z3/\A (st i z21=z0.pt g i z21))/\A z3/\A (st i z22=z0.pt g i z22))/\A z3/\A (st i z23=z0.pt g i z23))/\A z3/\A (st i z24=z0.pt g i z24))/\A z3/\A (st i z25=z0.pt g i z25))/\z7/\z17/\z17/\True)/\∀ g:Nat,let z27:=(↑g:Int);let z13:=((-9223372036854775808:Int)<=z27+(1:Int)/\z27+(1:Int)<=(9223372036854775807:Int));let z6:=(z1.k z27.toNat);let z4:=(A (ns=ns)/\∀ i:Nat,i<ns->((((((((True/\q3 (z0.pt g i z15))/\q3 (z0.pt g i z16))/\q3 (z0.pt g i z19))/\q3 (z0.pt g i z20))/\q3 (z0.pt g i z21))/\q3 (z0.pt g i z22))/\q3 (z0.pt g i z23))/\q3 (z0.pt g i z24))/\q3 (z0.pt g i z25)); (ptI z0).pre g->True/\Sx.Br (decide (z27<z56)) (A ((0:Int)<=z27/\z27<z56)/\True/\True/\True/\Sx.HandOK (nat_lit 49) (nat_lit 1) (mbI d z0 g) [mbF z0 g,mbJ d z0 g]/\(∃ g_1:Lpn.Nd,A ((mbI d z0 g).pre g_1)/\True/\((A (Lpn.ndT z6=Lpn.ndT g_1)/\((((((((((((((((((((((((((((((((((((True/\Sx.SVle [] [] (Lpn.ndX z6 z15) (Lpn.ndX g_1 z15))/\Sx.SVle [] [] (Lpn.ndX z6 z16) (Lpn.ndX g_1 z16))/\Sx.SVle [] [] (Lpn.ndX z6 z19) (Lpn.ndX g_1 z19))/\Sx.SVle [] [] (Lpn.ndX z6 z20) (Lpn.ndX g_1 z20))/\Sx.SVle [] [] (Lpn.ndX z6 z21) (Lpn.ndX g_1 z21))/\Sx.SVle [] [] (Lpn.ndX z6 z22) (Lpn.ndX g_1 z22))/\Sx.SVle [] [] (Lpn.ndX z6 z23) (Lpn.ndX g_1 z23))/\Sx.SVle [] [] (Lpn.ndX z6 z24) (Lpn.ndX g_1 z24))/\Sx.SVle [] [] (Lpn.ndX z6 z25) (Lpn.ndX g_1 z25))/\Sx.SVle [] [] (Lpn.ndX z6 z57) (Lpn.ndX g_1 z57))/\Sx.SVle [] [] (Lpn.ndX z6 z28) (Lpn.ndX g_1 z28))/\Sx.SVle [] [] (Lpn.ndX z6 z29) (Lpn.ndX g_1 z29))/\Sx.SVle [] [] (Lpn.ndX z6 z30) (Lpn.ndX g_1 z30))/\Sx.SVle [] [] (Lpn.ndX z6 z31) (Lpn.ndX g_1 z31))/\Sx.SVle [] [] (Lpn.ndX z6 z32) (Lpn.ndX g_1 z32))/\Sx.SVle [] [] (Lpn.ndX z6 z33) (Lpn.ndX g_1 z33))/\Sx.SVle [] [] (Lpn.ndX z6 z34) (Lpn.ndX g_1 z34))/\Sx.SVle [] [] (Lpn.ndX z6 z35) (Lpn.ndX g_1 z35))/\Sx.SVle [] [] (Lpn.ndX z6 z36) (Lpn.ndX g_1 z36))/\Sx.SVle [] [] (Lpn.ndX z6 z37) (Lpn.ndX g_1 z37))/\Sx.SVle [] [] (Lpn.ndX z6 z38) (Lpn.ndX g_1 z38))/\Sx.SVle [] [] (Lpn.ndX z6 z39) (Lpn.ndX g_1 z39))/\Sx.SVle [] [] (Lpn.ndX z6 z40) (Lpn.ndX g_1 z40))/\Sx.SVle [] [] (Lpn.ndX z6 z41) (Lpn.ndX g_1 z41))/\Sx.SVle [] [] (Lpn.ndX z6 z42) (Lpn.ndX g_1 z42))/\Sx.SVle [] [] (Lpn.ndX z6 z43) (Lpn.ndX g_1 z43))/\Sx.SVle [] [] (Lpn.ndX z6 z44) (Lpn.ndX g_1 z44))/\Sx.SVle [] [] (Lpn.ndX z6 z45) (Lpn.ndX g_1 z45))/\Sx.SVle [] [] (Lpn.ndX z6 z46) (Lpn.ndX g_1 z46))/\Sx.SVle [] [] (Lpn.ndX z6 z47) (Lpn.ndX g_1 z47))/\Sx.SVle [] [] (Lpn.ndX z6 z48) (Lpn.ndX g_1 z48))/\Sx.SVle [] [] (Lpn.ndX z6 z49) (Lpn.ndX g_1 z49))/\Sx.SVle [] [] (Lpn.ndX z6 z50) (Lpn.ndX g_1 z50))/\Sx.SVle [] [] (Lpn.ndX z6 z51) (Lpn.ndX g_1 z51))/\Sx.SVle [] [] (Lpn.ndX z6 z52) (Lpn.ndX g_1 z52))/\Sx.SVle [] [] (Lpn.ndX z6 z26) (Lpn.ndX g_1 z26))/\Sx.SVle [] [] (Lpn.ndX z6 z53) (Lpn.ndX g_1 z53))/\A z10/\A z10/\A z10/\z2/\z14/\(q5 z27)/\True)/\z4/\z7/\z17/\z17/\True)/\(∀ h:FmG,let z9:=(Lpr.RcG.mk (↑h.t:Int).toNat h.x s ns (z0.pt g) (z0.pt g)); (mbF z0 g).pre h->True/\True/\True/\True/\True/\True/\True/\True/\True/\True/\True/\True/\((True/\(z7/\(A (h.x.nr=h.x.nr)/\∀ i:Nat,let z54:=(h.x.runs i); i<h.x.nr->((True/\q5 z54.y)/\q5 z54.x0)/\q5 z54.x1)/\(A ((42:Nat)=(42:Go.FuncId))/\(((True/\A z10)/\A z10)/\A z10)/\A z10)/\True)/\(True/\((((((((((((((((((((((((((((((((((((True/\q5 h.x.kind)/\A (h.x.nr=h.x.nr)/\∀ i:Nat,let z55:=(h.x.runs i); i<h.x.nr->((True/\q5 z55.y)/\q5 z55.x0)/\q5 z55.x1)/\q5 h.x.src.kind)/\q3 h.x.src.ink.c0)/\q3 h.x.src.ink.c1)/\q3 h.x.src.ink.c2)/\q3 h.x.src.ink.c3)/\q3 h.x.src.ink.c4)/\q3 h.x.src.ink.c5)/\q3 h.x.src.ink.c6)/\q3 h.x.src.ink.c7)/\q5 h.x.src.fx)/\q5 h.x.src.fy)/\q5 h.x.src.tx)/\q5 h.x.src.ty)/\q5 h.x.src.rad)/\A (h.x.src.ns=h.x.src.ns)/\∀ i:Nat,let z12:=(h.x.src.st i); i<h.x.src.ns->((((((((True/\q5 z12.pos)/\q3 z12.ink.c0)/\q3 z12.ink.c1)/\q3 z12.ink.c2)/\q3 z12.ink.c3)/\q3 z12.ink.c4)/\q3 z12.ink.c5)/\q3 z12.ink.c6)/\q3 z12.ink.c7)/\q5 h.x.src.img.w)/\q5 h.x.src.img.h)/\A (h.x.src.img.n=h.x.src.img.n)/\∀ i:Nat,let z11:=(h.x.src.img.px i); i<h.x.src.img.n->(((((((True/\q3 z11.c0)/\q3 z11.c1)/\q3 z11.c2)/\q3 z11.c3)/\q3 z11.c4)/\q3 z11.c5)/\q3 z11.c6)/\q3 z11.c7)/\A (h.x.src.img.sn=h.x.src.img.sn)/\∀ i:Nat,i<h.x.src.img.sn->True/\q3 (h.x.src.img.sf i))/\q5 h.x.src.img.m.a)/\q5 h.x.src.img.m.b)/\q5 h.x.src.img.m.c)/\q5 h.x.src.img.m.d)/\q5 h.x.src.img.m.e)/\q5 h.x.src.img.m.f)/\A (h.x.src.img.smooth=h.x.src.img.smooth))/\A (h.x.src.img.rep=h.x.src.img.rep))/\q3 h.x.alpha)/\q5 h.x.blend)/\A (h.x.over=h.x.over))/\A (h.x.iso=h.x.iso))/\A (h.x.knock=h.x.knock))/\A z5/\A ((↑h.t:Int)=(↑(↑h.t:Int).toNat:Int)))/\Sx.SVle [] [] (Lpa.fcS h.t h.x (Lpa.srcX h.x.src) z26) (Lpa.fcS (↑h.t:Int).toNat h.x (Lpa.srcX h.x.src) z26))/\A ((58:Go.FuncId)=(58:Go.FuncId))/\True/\True/\A ((72:Go.FuncId)=(72:Go.FuncId))/\True/\True/\A (Blend.modeF h.x.blend.toNat=Blend.modeF h.x.blend.toNat)/\True)/\z7/\z17/\z17/\z4/\True)/\A (Lpr.RcOK z9/\z0.pt g=z0.pt g))/\A z13/\True/\∃ (g':Nat),A ((ptI z0).pre g')/\True/\((A z10/\A z10/\A z10/\z2/\z14/\(A z5/\A (z27+(1:Int)=(↑g':Int)))/\True)/\(A (ns=ns)/\∀ i:Nat,i<ns->((((((((True/\A z3/\A (z9.at h.x.nr i z15=z0.pt g' i z15))/\A z3/\A (z9.at h.x.nr i z16=z0.pt g' i z16))/\A z3/\A (z9.at h.x.nr i z19=z0.pt g' i z19))/\A z3/\A (z9.at h.x.nr i z20=z0.pt g' i z20))/\A z3/\A (z9.at h.x.nr i z21=z0.pt g' i z21))/\A z3/\A (z9.at h.x.nr i z22=z0.pt g' i z22))/\A z3/\A (z9.at h.x.nr i z23=z0.pt g' i z23))/\A z3/\A (z9.at h.x.nr i z24=z0.pt g' i z24))/\A z3/\A (z9.at h.x.nr i z25=z0.pt g' i z25))/\z7/\z17/\z17/\True)/\A ((ptI z0).meas g'<(ptI z0).meas g))/\(∀ h:Lpn.Nd,let z8:=(Lpe.PnG.mk s (Lpn.ndX h) (Lpn.ndOf (Lpn.ndX h)) ns (z0.pt g) (z0.pt g)); (mbJ d z0 g).pre h->True/\True/\True/\True/\True/\True/\True/\True/\True/\True/\True/\((True/\(z7/\(((((((((((((((((((((((((((((((((((((True/\V (Lpn.ndX h 0))/\V (Lpn.ndX h 1))/\V (Lpn.ndX h 2))/\V (Lpn.ndX h 3))/\V (Lpn.ndX h 4))/\V (Lpn.ndX h 5))/\V (Lpn.ndX h 6))/\V (Lpn.ndX h 7))/\V (Lpn.ndX h 8))/\V (Lpn.ndX h 9))/\V (Lpn.ndX h 10))/\V (Lpn.ndX h 11))/\V (Lpn.ndX h 12))/\V (Lpn.ndX h 13))/\V (Lpn.ndX h 14))/\V (Lpn.ndX h 15))/\V (Lpn.ndX h 16))/\V (Lpn.ndX h 17))/\V (Lpn.ndX h 18))/\V (Lpn.ndX h 19))/\V (Lpn.ndX h 20))/\V (Lpn.ndX h 21))/\V (Lpn.ndX h 22))/\V (Lpn.ndX h 23))/\V (Lpn.ndX h 24))/\V (Lpn.ndX h 25))/\V (Lpn.ndX h 26))/\V (Lpn.ndX h 27))/\V (Lpn.ndX h 28))/\V (Lpn.ndX h 29))/\V (Lpn.ndX h 30))/\V (Lpn.ndX h 31))/\V (Lpn.ndX h 32))/\V (Lpn.ndX h 33))/\V (Lpn.ndX h 34))/\V (Lpn.ndX h 35))/\V (Lpn.ndX h 36))/\True/\True/\True)/\z4/\True)/\A (Lpe.NsOK d z8/\z0.pt g=z0.pt g))/\A z13/\True/\∃ (g':Nat),A ((ptI z0).pre g')/\True/\((A z10/\A z10/\A z10/\z2/\z14/\(A z5/\A (z27+(1:Int)=(↑g':Int)))/\True)/\(A (ns=ns)/\∀ i:Nat,i<ns->((((((((True/\A z3/\A (z8.nx i z15=z0.pt g' i z15))/\A z3/\A (z8.nx i z16=z0.pt g' i z16))/\A z3/\A (z8.nx i z19=z0.pt g' i z19))/\A z3/\A (z8.nx i z20=z0.pt g' i z20))/\A z3/\A (z8.nx i z21=z0.pt g' i z21))/\A z3/\A (z8.nx i z22=z0.pt g' i z22))/\A z3/\A (z8.nx i z23=z0.pt g' i z23))/\A z3/\A (z8.nx i z24=z0.pt g' i z24))/\A z3/\A (z8.nx i z25=z0.pt g' i z25))/\z7/\z17/\z17/\True)/\A ((ptI z0).meas g'<(ptI z0).meas g))/\True) (True/\True/\z17/\(A (ns=ns)/\∀ i:Nat,i<ns->((((((((True/\A z3/\A (z0.pt g i z15=z0.pt z1.n i z15))/\A z3/\A (z0.pt g i z16=z0.pt z1.n i z16))/\A z3/\A (z0.pt g i z19=z0.pt z1.n i z19))/\A z3/\A (z0.pt g i z20=z0.pt z1.n i z20))/\A z3/\A (z0.pt g i z21=z0.pt z1.n i z21))/\A z3/\A (z0.pt g i z22=z0.pt z1.n i z22))/\A z3/\A (z0.pt g i z23=z0.pt z1.n i z23))/\A z3/\A (z0.pt g i z24=z0.pt z1.n i z24))/\A z3/\A (z0.pt g i z25=z0.pt z1.n i z25))/\True)) (by kernel_rfl) ?_
  simp only [ask_iff,br_iff,eq_self,true_and,and_true,implies_true,forall_const,decide_eq_true_eq,decide_eq_false_iff_not,ne_eq,Nat.mul_one,Nat.add_zero,Nat.zero_add]
  have hs:∀ nd j,SVle [] [] (ndX nd j) (ndX nd j)=True:=fun nd j=>eq_true (SVle.refl [] [] (ndX_own nd j))
  have hs2:∀ (t:Nat) (x:It),SVle [] [] (fcS t x (srcX x.src) 35) (fcS t x (srcX x.src) 35)=True:=fun t x=>eq_true (SVle.refl [] [] (srcX_own x.src))
  simp only [Nd.n,Nd.k,ndOf_ndX,hs,hs2,Int.toNat_natCast,and_self,and_true,true_and,implies_true]
  generalize lst (itL _++_)=C at *
  generalize hX:It.mk kind nr runs src al bl ov iso false=X at *
  have hkn:X.knock=false:=by rw [<-hX]
  have hb':=hg.b
  have hn1:(ns:Int)=s.x1-s.x0:=hb'.n
  have hn2 : -8192<=s.x0:=hb'.x0
  have hn3:s.x1<=8192:=hb'.x1
  have hn4:0<ns:=hb'.pos
  have hm:m<=4294967296:=hg.n
  have hk:∀ a,a<m->NdOK d (k a):=hg.k
  have hst:∀ i,i<ns->isU9 (st i):=hb'.st
  have hpu:∀ q,q<=m->∀ i,i<ns->isU9 (PnG.pt ⟨s,C,.grp t mx X m k,ns,st,bs⟩ q i):=fun q hq i hi=>pntK_u9 hk (bd_xy hb' hi) (hst i hi) hq
  have hpt:∀ q i,PnG.pt ⟨s,C,.grp t mx X m k,ns,st,bs⟩ (q+1) i=(k q).pnt (s.x0+i) s.y ((PnG.pt ⟨s,C,.grp t mx X m k,ns,st,bs⟩ q) i) (PnG.pt ⟨s,C,.grp t mx X m k,ns,st,bs⟩ q i):=fun q i=>by
   have h1:PnG.pt ⟨s,C,.grp t mx X m k,ns,st,bs⟩ (q+1) i=(k q).pnt (s.x0+i) s.y (if X.knock=true then st i else PnG.pt ⟨s,C,.grp t mx X m k,ns,st,bs⟩ q i) (PnG.pt ⟨s,C,.grp t mx X m k,ns,st,bs⟩ q i):=rfl
   rw [h1,hkn]
   rfl
  refine ⟨⟨0,Nat.zero_le _,rfl,fun i _=>all9 fun j=>rfl⟩,fun q hq=>?_⟩
  have hq:q<=m:=hq
  refine ⟨fun hlt=>?_,fun hge i hi=>?_⟩
  ·have hlt:q<m:=by omega
   have hu:=hpu q hq
   have hbu:∀ i,i<ns->isU9 ((PnG.pt ⟨s,C,.grp t mx X m k,ns,st,bs⟩ q) i):=hu
   have hmm:m-(q+1)<m-q:=by omega
   refine ⟨by omega,hand_mb _ _ _,⟨k q,⟨rfl,hk q hlt⟩,rfl,by simp only [hs,and_self]⟩,fun h hh=>?_,fun h hh=>?_⟩
   ·obtain ⟨x,hx⟩:∃ x,x=h.x:=⟨_,rfl⟩
    have h1:k q = .fill h.t h.x:=hh.1
    have hf:FillOK h.x:=hh.2.1
    have hv:Vr h.x.nr h.x.runs:=hh.2.2
    have e:∀ i,RcG.at ⟨h.t,h.x,s,ns,PnG.pt ⟨s,C,.grp t mx X m k,ns,st,bs⟩ q,(PnG.pt ⟨s,C,.grp t mx X m k,ns,st,bs⟩ q)⟩ h.x.nr i=PnG.pt ⟨s,C,.grp t mx X m k,ns,st,bs⟩ (q+1) i:=fun i=>by
     rw [hpt q i,h1]
     rfl
    have hrc:RcOK ⟨h.t,h.x,s,ns,PnG.pt ⟨s,C,.grp t mx X m k,ns,st,bs⟩ q,(PnG.pt ⟨s,C,.grp t mx X m k,ns,st,bs⟩ q)⟩:=⟨hf,hv,hb'.y,hn2,hn3,hn1,hu,hbu⟩
    exact ⟨hrc,by omega,q+1,hlt,⟨by simp,fun i hi=>all9 fun j=>congrFun (e i) j⟩,hmm⟩
   ·have h1:k q=h:=hh.1.1
    have h2:NdOK d h:=hh.1.2
    have h3:ndT h=TPg:=hh.2
    have e:∀ i,PnG.nx ⟨s,ndX h,h,ns,PnG.pt ⟨s,C,.grp t mx X m k,ns,st,bs⟩ q,(PnG.pt ⟨s,C,.grp t mx X m k,ns,st,bs⟩ q)⟩ i=PnG.pt ⟨s,C,.grp t mx X m k,ns,st,bs⟩ (q+1) i:=fun i=>by
     rw [hpt q i,h1]
     rfl
    have hno:NsOK d ⟨s,ndX h,h,ns,PnG.pt ⟨s,C,.grp t mx X m k,ns,st,bs⟩ q,(PnG.pt ⟨s,C,.grp t mx X m k,ns,st,bs⟩ q)⟩:=⟨rfl,h3,h2,hb'.y,hn2,hn3,hn1,hn4,hu,hbu⟩
    exact ⟨hno,by omega,q+1,hlt,⟨by simp,fun i hi=>all9 fun j=>congrFun (e i) j⟩,hmm⟩
  ·have h0:∀ j,PnG.pt ⟨s,C,.grp t mx X m k,ns,st,bs⟩ q i j=PnG.pt ⟨s,C,.grp t mx X m k,ns,st,bs⟩ m i j:=fun j=>by
    have:q=m:=by omega
    rw [this]
   exact all9 h0
set_option maxHeartbeats 1000000 in
theorem ok_pk1 {d:Nat}(hb:SpecOK Try.prog (spNb d)):SpecOK Try.prog (spPk d true):=by
 refine spec_soundM (specs:=[spClS,spRb,spNb d]) (all_ok (⟨ok_clS,ok_Rb,hb,trivial⟩)) (eqs:=[]) (fun _ _ h=>(List.not_mem_nil h).elim) Aff.mixed Try.func28 rfl (by kernel_rfl) (fun _ _=>by kernel_rfl) (fun g=>(⟨[(5,.nest (ptI g) (fun i=>[(5000008,.hand (mbI d g i) [mbF g i,mbJ d g i])]))],[]⟩:Ann)) true (fun g=>Nat.le_of_ble_eq_true (by kernel_rfl)) ?_
 rintro ⟨s,c,nd,ns,st,bs⟩ ⟨hg,hkn⟩
 have hc:c=ndX nd:=hg.c
 cases nd with
 | fill t x=>exact absurd (show TPf=TPg from hg.isg) (by decide)
 | grp t mx x m k=>
  rw [ndX_grp] at hc
  subst hc
  obtain ⟨kind,nr,runs,src,al,bl,ov,iso,kn⟩:=x
  have hkn:kn=true:=hkn
  subst hkn
  refine vc_of (B:=let T11:=fun p:Prop=>True/\True/\True/\True/\True/\True/\True/\True/\True/\True/\True/\p;let V:=fun p:Sx.SV=>Sx.SVle [] [] p p;let K:=IntKind.i64;let A:=Sx.Ask;let z58:=(9:Nat);let z54:=(36:Nat);let z53:=(34:Nat);let z52:=(33:Nat);let z51:=(32:Nat);let z50:=(31:Nat);let z49:=(30:Nat);let z48:=(29:Nat);let z47:=(28:Nat);let z46:=(27:Nat);let z45:=(26:Nat);let z44:=(25:Nat);let z43:=(24:Nat);let z42:=(23:Nat);let z41:=(22:Nat);let z40:=(21:Nat);let z39:=(20:Nat);let z38:=(19:Nat);let z37:=(18:Nat);let z36:=(17:Nat);let z35:=(16:Nat);let z34:=(15:Nat);let z33:=(14:Nat);let z32:=(13:Nat);let z31:=(12:Nat);let z30:=(11:Nat);let z29:=(10:Nat);let z27:=(35:Nat);let z26:=(Lsg.It.mk kind nr runs src al bl ov iso true);let z25:=(True/\True);let z24:=(8:Nat);let z23:=(7:Nat);let z22:=(6:Nat);let z21:=(5:Nat);let z20:=(4:Nat);let z19:=(3:Nat);let z18:=(2:Nat);let z16:=(1:Nat);let z14:=(0:Nat);let z11:=(z14=z14);let z6:=(K=K);let q6:=fun p:Int=>A z6/\A (p=p);let z8:=(((True/\q6 s.y)/\q6 s.x0)/\q6 s.x1);let z4:=(IntKind.u8=IntKind.u8);let q4:=fun p:Int=>A z4/\A (p=p);let z3:=(A (ns=ns)/\∀ i:Nat,i<ns->((((((((True/\q4 (st i z14))/\q4 (st i z16))/\q4 (st i z18))/\q4 (st i z19))/\q4 (st i z20))/\q4 (st i z21))/\q4 (st i z22))/\q4 (st i z23))/\q4 (st i z24));let z1:=(Lpn.Nd.grp t mx z26 m k);let z57:=(↑z1.n:Int);let z17:=(q6 z57);let z2:=(A (z1.n=z1.n)/\∀ i:Nat,i<z1.n->True/\A (Lpn.ndT (z1.k i)=Lpn.ndT (z1.k i))/\((((((((((((((((((((((((((((((((((((True/\V (Lpn.ndX (z1.k i) 0))/\V (Lpn.ndX (z1.k i) 1))/\V (Lpn.ndX (z1.k i) 2))/\V (Lpn.ndX (z1.k i) 3))/\V (Lpn.ndX (z1.k i) 4))/\V (Lpn.ndX (z1.k i) 5))/\V (Lpn.ndX (z1.k i) 6))/\V (Lpn.ndX (z1.k i) 7))/\V (Lpn.ndX (z1.k i) 8))/\V (Lpn.ndX (z1.k i) 9))/\V (Lpn.ndX (z1.k i) 10))/\V (Lpn.ndX (z1.k i) 11))/\V (Lpn.ndX (z1.k i) 12))/\V (Lpn.ndX (z1.k i) 13))/\V (Lpn.ndX (z1.k i) 14))/\V (Lpn.ndX (z1.k i) 15))/\V (Lpn.ndX (z1.k i) 16))/\V (Lpn.ndX (z1.k i) 17))/\V (Lpn.ndX (z1.k i) 18))/\V (Lpn.ndX (z1.k i) 19))/\V (Lpn.ndX (z1.k i) 20))/\V (Lpn.ndX (z1.k i) 21))/\V (Lpn.ndX (z1.k i) 22))/\V (Lpn.ndX (z1.k i) 23))/\V (Lpn.ndX (z1.k i) 24))/\V (Lpn.ndX (z1.k i) 25))/\V (Lpn.ndX (z1.k i) 26))/\V (Lpn.ndX (z1.k i) 27))/\V (Lpn.ndX (z1.k i) 28))/\V (Lpn.ndX (z1.k i) 29))/\V (Lpn.ndX (z1.k i) 30))/\V (Lpn.ndX (z1.k i) 31))/\V (Lpn.ndX (z1.k i) 32))/\V (Lpn.ndX (z1.k i) 33))/\V (Lpn.ndX (z1.k i) 34))/\V (Lpn.ndX (z1.k i) 35))/\V (Lpn.ndX (z1.k i) 36));let z0:=(Lpe.PnG.mk s (Sx.lst (Lsg.itL z26++[Sx.SV.int K t,Lpn.mxS z26 mx,Sx.SV.sl m z16 fun (a x:Nat)=>Sx.SV.ifc (Lpn.ndT (k a)) fun (x:Nat)=>Sx.SV.ref (37:Nat) (Lpn.ndX (k a))])) z1 ns st bs);T11 (((z3/\True)/\A (z14<ns/\ns<=(4294967296:Nat)))/\True/\True/\True/\True/\True/\True/\True/\(∃ g:Nat,A ((ptI z0).pre g)/\True/\(A z11/\A z11/\A z11/\(A (m=z1.n)/\∀ i:Nat,i<z1.n->True/\A (Lpn.ndT (k i)=Lpn.ndT (z1.k i))/\((((((((((((((((((((((((((((((((((((True/\Sx.SVle [] [] (Lpn.ndX (k i) z14) (Lpn.ndX (z1.k i) z14))/\Sx.SVle [] [] (Lpn.ndX (k i) z16) (Lpn.ndX (z1.k i) z16))/\Sx.SVle [] [] (Lpn.ndX (k i) z18) (Lpn.ndX (z1.k i) z18))/\Sx.SVle [] [] (Lpn.ndX (k i) z19) (Lpn.ndX (z1.k i) z19))/\Sx.SVle [] [] (Lpn.ndX (k i) z20) (Lpn.ndX (z1.k i) z20))/\Sx.SVle [] [] (Lpn.ndX (k i) z21) (Lpn.ndX (z1.k i) z21))/\Sx.SVle [] [] (Lpn.ndX (k i) z22) (Lpn.ndX (z1.k i) z22))/\Sx.SVle [] [] (Lpn.ndX (k i) z23) (Lpn.ndX (z1.k i) z23))/\Sx.SVle [] [] (Lpn.ndX (k i) z24) (Lpn.ndX (z1.k i) z24))/\Sx.SVle [] [] (Lpn.ndX (k i) z58) (Lpn.ndX (z1.k i) z58))/\Sx.SVle [] [] (Lpn.ndX (k i) z29) (Lpn.ndX (z1.k i) z29))/\Sx.SVle [] [] (Lpn.ndX (k i) z30) (Lpn.ndX (z1.k i) z30))/\Sx.SVle [] [] (Lpn.ndX (k i) z31) (Lpn.ndX (z1.k i) z31))/\Sx.SVle [] [] (Lpn.ndX (k i) z32) (Lpn.ndX (z1.k i) z32))/\Sx.SVle [] [] (Lpn.ndX (k i) z33) (Lpn.ndX (z1.k i) z33))/\Sx.SVle [] [] (Lpn.ndX (k i) z34) (Lpn.ndX (z1.k i) z34))/\Sx.SVle [] [] (Lpn.ndX (k i) z35) (Lpn.ndX (z1.k i) z35))/\Sx.SVle [] [] (Lpn.ndX (k i) z36) (Lpn.ndX (z1.k i) z36))/\Sx.SVle [] [] (Lpn.ndX (k i) z37) (Lpn.ndX (z1.k i) z37))/\Sx.SVle [] [] (Lpn.ndX (k i) z38) (Lpn.ndX (z1.k i) z38))/\Sx.SVle [] [] (Lpn.ndX (k i) z39) (Lpn.ndX (z1.k i) z39))/\Sx.SVle [] [] (Lpn.ndX (k i) z40) (Lpn.ndX (z1.k i) z40))/\Sx.SVle [] [] (Lpn.ndX (k i) z41) (Lpn.ndX (z1.k i) z41))/\Sx.SVle [] [] (Lpn.ndX (k i) z42) (Lpn.ndX (z1.k i) z42))/\Sx.SVle [] [] (Lpn.ndX (k i) z43) (Lpn.ndX (z1.k i) z43))/\Sx.SVle [] [] (Lpn.ndX (k i) z44) (Lpn.ndX (z1.k i) z44))/\Sx.SVle [] [] (Lpn.ndX (k i) z45) (Lpn.ndX (z1.k i) z45))/\Sx.SVle [] [] (Lpn.ndX (k i) z46) (Lpn.ndX (z1.k i) z46))/\Sx.SVle [] [] (Lpn.ndX (k i) z47) (Lpn.ndX (z1.k i) z47))/\Sx.SVle [] [] (Lpn.ndX (k i) z48) (Lpn.ndX (z1.k i) z48))/\Sx.SVle [] [] (Lpn.ndX (k i) z49) (Lpn.ndX (z1.k i) z49))/\Sx.SVle [] [] (Lpn.ndX (k i) z50) (Lpn.ndX (z1.k i) z50))/\Sx.SVle [] [] (Lpn.ndX (k i) z51) (Lpn.ndX (z1.k i) z51))/\Sx.SVle [] [] (Lpn.ndX (k i) z52) (Lpn.ndX (z1.k i) z52))/\Sx.SVle [] [] (Lpn.ndX (k i) z53) (Lpn.ndX (z1.k i) z53))/\Sx.SVle [] [] (Lpn.ndX (k i) z27) (Lpn.ndX (z1.k i) z27))/\Sx.SVle [] [] (Lpn.ndX (k i) z54) (Lpn.ndX (z1.k i) z54))/\(A z6/\A ((↑m:Int)=z57))/\(A z6/\A ((0:Int)=(↑g:Int)))/\True)/\(A (ns=ns)/\∀ i:Nat,i<ns->((((((((True/\A z4/\A (st i z14=z0.pt g i z14))/\A z4/\A (st i z16=z0.pt g i z16))/\A z4/\A (st i z18=z0.pt g i z18))/\A z4/\A (st i z19=z0.pt g i z19))/\A z4/\A (st i z20=z0.pt g i z20))/\A z4/\A (st i z21=z0.pt g i z21))/\A z4/\A (st i z22=z0.pt g i z22))/\A z4/\A (st i z23=z0.pt g i z23))/\A z4/\A (st i z24=z0.pt g i z24))/\z8/\z25/\z25/\z3/\True)/\∀ g:Nat,let z28:=(↑g:Int);let z15:=((-9223372036854775808:Int)<=z28+(1:Int)/\z28+(1:Int)<=(9223372036854775807:Int));let z7:=(z1.k z28.toNat);let z5:=(A (ns=ns)/\∀ i:Nat,i<ns->((((((((True/\q4 (z0.pt g i z14))/\q4 (z0.pt g i z16))/\q4 (z0.pt g i z18))/\q4 (z0.pt g i z19))/\q4 (z0.pt g i z20))/\q4 (z0.pt g i z21))/\q4 (z0.pt g i z22))/\q4 (z0.pt g i z23))/\q4 (z0.pt g i z24)); (ptI z0).pre g->True/\Sx.Br (decide (z28<z57)) (A ((0:Int)<=z28/\z28<z57)/\True/\True/\True/\Sx.HandOK (nat_lit 49) (nat_lit 1) (mbI d z0 g) [mbF z0 g,mbJ d z0 g]/\(∃ g_1:Lpn.Nd,A ((mbI d z0 g).pre g_1)/\True/\((A (Lpn.ndT z7=Lpn.ndT g_1)/\((((((((((((((((((((((((((((((((((((True/\Sx.SVle [] [] (Lpn.ndX z7 z14) (Lpn.ndX g_1 z14))/\Sx.SVle [] [] (Lpn.ndX z7 z16) (Lpn.ndX g_1 z16))/\Sx.SVle [] [] (Lpn.ndX z7 z18) (Lpn.ndX g_1 z18))/\Sx.SVle [] [] (Lpn.ndX z7 z19) (Lpn.ndX g_1 z19))/\Sx.SVle [] [] (Lpn.ndX z7 z20) (Lpn.ndX g_1 z20))/\Sx.SVle [] [] (Lpn.ndX z7 z21) (Lpn.ndX g_1 z21))/\Sx.SVle [] [] (Lpn.ndX z7 z22) (Lpn.ndX g_1 z22))/\Sx.SVle [] [] (Lpn.ndX z7 z23) (Lpn.ndX g_1 z23))/\Sx.SVle [] [] (Lpn.ndX z7 z24) (Lpn.ndX g_1 z24))/\Sx.SVle [] [] (Lpn.ndX z7 z58) (Lpn.ndX g_1 z58))/\Sx.SVle [] [] (Lpn.ndX z7 z29) (Lpn.ndX g_1 z29))/\Sx.SVle [] [] (Lpn.ndX z7 z30) (Lpn.ndX g_1 z30))/\Sx.SVle [] [] (Lpn.ndX z7 z31) (Lpn.ndX g_1 z31))/\Sx.SVle [] [] (Lpn.ndX z7 z32) (Lpn.ndX g_1 z32))/\Sx.SVle [] [] (Lpn.ndX z7 z33) (Lpn.ndX g_1 z33))/\Sx.SVle [] [] (Lpn.ndX z7 z34) (Lpn.ndX g_1 z34))/\Sx.SVle [] [] (Lpn.ndX z7 z35) (Lpn.ndX g_1 z35))/\Sx.SVle [] [] (Lpn.ndX z7 z36) (Lpn.ndX g_1 z36))/\Sx.SVle [] [] (Lpn.ndX z7 z37) (Lpn.ndX g_1 z37))/\Sx.SVle [] [] (Lpn.ndX z7 z38) (Lpn.ndX g_1 z38))/\Sx.SVle [] [] (Lpn.ndX z7 z39) (Lpn.ndX g_1 z39))/\Sx.SVle [] [] (Lpn.ndX z7 z40) (Lpn.ndX g_1 z40))/\Sx.SVle [] [] (Lpn.ndX z7 z41) (Lpn.ndX g_1 z41))/\Sx.SVle [] [] (Lpn.ndX z7 z42) (Lpn.ndX g_1 z42))/\Sx.SVle [] [] (Lpn.ndX z7 z43) (Lpn.ndX g_1 z43))/\Sx.SVle [] [] (Lpn.ndX z7 z44) (Lpn.ndX g_1 z44))/\Sx.SVle [] [] (Lpn.ndX z7 z45) (Lpn.ndX g_1 z45))/\Sx.SVle [] [] (Lpn.ndX z7 z46) (Lpn.ndX g_1 z46))/\Sx.SVle [] [] (Lpn.ndX z7 z47) (Lpn.ndX g_1 z47))/\Sx.SVle [] [] (Lpn.ndX z7 z48) (Lpn.ndX g_1 z48))/\Sx.SVle [] [] (Lpn.ndX z7 z49) (Lpn.ndX g_1 z49))/\Sx.SVle [] [] (Lpn.ndX z7 z50) (Lpn.ndX g_1 z50))/\Sx.SVle [] [] (Lpn.ndX z7 z51) (Lpn.ndX g_1 z51))/\Sx.SVle [] [] (Lpn.ndX z7 z52) (Lpn.ndX g_1 z52))/\Sx.SVle [] [] (Lpn.ndX z7 z53) (Lpn.ndX g_1 z53))/\Sx.SVle [] [] (Lpn.ndX z7 z27) (Lpn.ndX g_1 z27))/\Sx.SVle [] [] (Lpn.ndX z7 z54) (Lpn.ndX g_1 z54))/\A z11/\A z11/\A z11/\z2/\z17/\(q6 z28)/\True)/\z5/\z8/\z25/\z25/\z3/\True)/\(∀ h:FmG,let z10:=(Lpr.RcG.mk (↑h.t:Int).toNat h.x s ns (z0.pt g) st); (mbF z0 g).pre h->T11 (True/\((True/\(z8/\(A (h.x.nr=h.x.nr)/\∀ i:Nat,let z55:=(h.x.runs i); i<h.x.nr->((True/\q6 z55.y)/\q6 z55.x0)/\q6 z55.x1)/\(A ((42:Nat)=(42:Go.FuncId))/\(((True/\A z11)/\A z11)/\A z11)/\A z11)/\True)/\(True/\((((((((((((((((((((((((((((((((((((True/\q6 h.x.kind)/\A (h.x.nr=h.x.nr)/\∀ i:Nat,let z56:=(h.x.runs i); i<h.x.nr->((True/\q6 z56.y)/\q6 z56.x0)/\q6 z56.x1)/\q6 h.x.src.kind)/\q4 h.x.src.ink.c0)/\q4 h.x.src.ink.c1)/\q4 h.x.src.ink.c2)/\q4 h.x.src.ink.c3)/\q4 h.x.src.ink.c4)/\q4 h.x.src.ink.c5)/\q4 h.x.src.ink.c6)/\q4 h.x.src.ink.c7)/\q6 h.x.src.fx)/\q6 h.x.src.fy)/\q6 h.x.src.tx)/\q6 h.x.src.ty)/\q6 h.x.src.rad)/\A (h.x.src.ns=h.x.src.ns)/\∀ i:Nat,let z13:=(h.x.src.st i); i<h.x.src.ns->((((((((True/\q6 z13.pos)/\q4 z13.ink.c0)/\q4 z13.ink.c1)/\q4 z13.ink.c2)/\q4 z13.ink.c3)/\q4 z13.ink.c4)/\q4 z13.ink.c5)/\q4 z13.ink.c6)/\q4 z13.ink.c7)/\q6 h.x.src.img.w)/\q6 h.x.src.img.h)/\A (h.x.src.img.n=h.x.src.img.n)/\∀ i:Nat,let z12:=(h.x.src.img.px i); i<h.x.src.img.n->(((((((True/\q4 z12.c0)/\q4 z12.c1)/\q4 z12.c2)/\q4 z12.c3)/\q4 z12.c4)/\q4 z12.c5)/\q4 z12.c6)/\q4 z12.c7)/\A (h.x.src.img.sn=h.x.src.img.sn)/\∀ i:Nat,i<h.x.src.img.sn->True/\q4 (h.x.src.img.sf i))/\q6 h.x.src.img.m.a)/\q6 h.x.src.img.m.b)/\q6 h.x.src.img.m.c)/\q6 h.x.src.img.m.d)/\q6 h.x.src.img.m.e)/\q6 h.x.src.img.m.f)/\A (h.x.src.img.smooth=h.x.src.img.smooth))/\A (h.x.src.img.rep=h.x.src.img.rep))/\q4 h.x.alpha)/\q6 h.x.blend)/\A (h.x.over=h.x.over))/\A (h.x.iso=h.x.iso))/\A (h.x.knock=h.x.knock))/\A z6/\A ((↑h.t:Int)=(↑(↑h.t:Int).toNat:Int)))/\Sx.SVle [] [] (Lpa.fcS h.t h.x (Lpa.srcX h.x.src) z27) (Lpa.fcS (↑h.t:Int).toNat h.x (Lpa.srcX h.x.src) z27))/\A ((58:Go.FuncId)=(58:Go.FuncId))/\True/\True/\A ((72:Go.FuncId)=(72:Go.FuncId))/\True/\True/\A (Blend.modeF h.x.blend.toNat=Blend.modeF h.x.blend.toNat)/\True)/\z8/\z25/\z25/\z5/\z3/\True)/\A (Lpr.RcOK z10))/\A z15/\True/\∃ (g':Nat),A ((ptI z0).pre g')/\True/\((A z11/\A z11/\A z11/\z2/\z17/\(A z6/\A (z28+(1:Int)=(↑g':Int)))/\True)/\(A (ns=ns)/\∀ i:Nat,i<ns->((((((((True/\A z4/\A (z10.at h.x.nr i z14=z0.pt g' i z14))/\A z4/\A (z10.at h.x.nr i z16=z0.pt g' i z16))/\A z4/\A (z10.at h.x.nr i z18=z0.pt g' i z18))/\A z4/\A (z10.at h.x.nr i z19=z0.pt g' i z19))/\A z4/\A (z10.at h.x.nr i z20=z0.pt g' i z20))/\A z4/\A (z10.at h.x.nr i z21=z0.pt g' i z21))/\A z4/\A (z10.at h.x.nr i z22=z0.pt g' i z22))/\A z4/\A (z10.at h.x.nr i z23=z0.pt g' i z23))/\A z4/\A (z10.at h.x.nr i z24=z0.pt g' i z24))/\z8/\z25/\z25/\z3/\True)/\A ((ptI z0).meas g'<(ptI z0).meas g)))/\(∀ h:Lpn.Nd,let z9:=(Lpe.PnG.mk s (Lpn.ndX h) (Lpn.ndOf (Lpn.ndX h)) ns (z0.pt g) st); (mbJ d z0 g).pre h->T11 (((True/\(z8/\(((((((((((((((((((((((((((((((((((((True/\V (Lpn.ndX h 0))/\V (Lpn.ndX h 1))/\V (Lpn.ndX h 2))/\V (Lpn.ndX h 3))/\V (Lpn.ndX h 4))/\V (Lpn.ndX h 5))/\V (Lpn.ndX h 6))/\V (Lpn.ndX h 7))/\V (Lpn.ndX h 8))/\V (Lpn.ndX h 9))/\V (Lpn.ndX h 10))/\V (Lpn.ndX h 11))/\V (Lpn.ndX h 12))/\V (Lpn.ndX h 13))/\V (Lpn.ndX h 14))/\V (Lpn.ndX h 15))/\V (Lpn.ndX h 16))/\V (Lpn.ndX h 17))/\V (Lpn.ndX h 18))/\V (Lpn.ndX h 19))/\V (Lpn.ndX h 20))/\V (Lpn.ndX h 21))/\V (Lpn.ndX h 22))/\V (Lpn.ndX h 23))/\V (Lpn.ndX h 24))/\V (Lpn.ndX h 25))/\V (Lpn.ndX h 26))/\V (Lpn.ndX h 27))/\V (Lpn.ndX h 28))/\V (Lpn.ndX h 29))/\V (Lpn.ndX h 30))/\V (Lpn.ndX h 31))/\V (Lpn.ndX h 32))/\V (Lpn.ndX h 33))/\V (Lpn.ndX h 34))/\V (Lpn.ndX h 35))/\V (Lpn.ndX h 36))/\True/\True/\True)/\z5/\z3/\True)/\A (Lpe.NsOK d z9))/\A z15/\True/\∃ (g':Nat),A ((ptI z0).pre g')/\True/\((A z11/\A z11/\A z11/\z2/\z17/\(A z6/\A (z28+(1:Int)=(↑g':Int)))/\True)/\(A (ns=ns)/\∀ i:Nat,i<ns->((((((((True/\A z4/\A (z9.nx i z14=z0.pt g' i z14))/\A z4/\A (z9.nx i z16=z0.pt g' i z16))/\A z4/\A (z9.nx i z18=z0.pt g' i z18))/\A z4/\A (z9.nx i z19=z0.pt g' i z19))/\A z4/\A (z9.nx i z20=z0.pt g' i z20))/\A z4/\A (z9.nx i z21=z0.pt g' i z21))/\A z4/\A (z9.nx i z22=z0.pt g' i z22))/\A z4/\A (z9.nx i z23=z0.pt g' i z23))/\A z4/\A (z9.nx i z24=z0.pt g' i z24))/\z8/\z25/\z25/\z3/\True)/\A ((ptI z0).meas g'<(ptI z0).meas g)))/\True) (True/\True/\z25/\(A (ns=ns)/\∀ i:Nat,i<ns->((((((((True/\A z4/\A (z0.pt g i z14=z0.pt z1.n i z14))/\A z4/\A (z0.pt g i z16=z0.pt z1.n i z16))/\A z4/\A (z0.pt g i z18=z0.pt z1.n i z18))/\A z4/\A (z0.pt g i z19=z0.pt z1.n i z19))/\A z4/\A (z0.pt g i z20=z0.pt z1.n i z20))/\A z4/\A (z0.pt g i z21=z0.pt z1.n i z21))/\A z4/\A (z0.pt g i z22=z0.pt z1.n i z22))/\A z4/\A (z0.pt g i z23=z0.pt z1.n i z23))/\A z4/\A (z0.pt g i z24=z0.pt z1.n i z24))/\True))) (by kernel_rfl) ?_
  simp only [ask_iff,br_iff,eq_self,true_and,and_true,implies_true,forall_const,decide_eq_true_eq,decide_eq_false_iff_not,ne_eq,Nat.mul_one,Nat.add_zero,Nat.zero_add]
  have hs:∀ nd j,SVle [] [] (ndX nd j) (ndX nd j)=True:=fun nd j=>eq_true (SVle.refl [] [] (ndX_own nd j))
  have hs2:∀ (t:Nat) (x:It),SVle [] [] (fcS t x (srcX x.src) 35) (fcS t x (srcX x.src) 35)=True:=fun t x=>eq_true (SVle.refl [] [] (srcX_own x.src))
  simp only [Nd.n,Nd.k,ndOf_ndX,hs,hs2,Int.toNat_natCast,and_self,and_true,true_and,implies_true]
  generalize lst (itL _++_)=C at *
  generalize hX:It.mk kind nr runs src al bl ov iso true=X at *
  have hkn:X.knock=true:=by rw [<-hX]
  have hb':=hg.b
  have hn1:(ns:Int)=s.x1-s.x0:=hb'.n
  have hn2 : -8192<=s.x0:=hb'.x0
  have hn3:s.x1<=8192:=hb'.x1
  have hn4:0<ns:=hb'.pos
  have hm:m<=4294967296:=hg.n
  have hk:∀ a,a<m->NdOK d (k a):=hg.k
  have hst:∀ i,i<ns->isU9 (st i):=hb'.st
  have hpu:∀ q,q<=m->∀ i,i<ns->isU9 (PnG.pt ⟨s,C,.grp t mx X m k,ns,st,bs⟩ q i):=fun q hq i hi=>pntK_u9 hk (bd_xy hb' hi) (hst i hi) hq
  have hpt:∀ q i,PnG.pt ⟨s,C,.grp t mx X m k,ns,st,bs⟩ (q+1) i=(k q).pnt (s.x0+i) s.y (st i) (PnG.pt ⟨s,C,.grp t mx X m k,ns,st,bs⟩ q i):=fun q i=>by
   have h1:PnG.pt ⟨s,C,.grp t mx X m k,ns,st,bs⟩ (q+1) i=(k q).pnt (s.x0+i) s.y (if X.knock=true then st i else PnG.pt ⟨s,C,.grp t mx X m k,ns,st,bs⟩ q i) (PnG.pt ⟨s,C,.grp t mx X m k,ns,st,bs⟩ q i):=rfl
   rw [h1,hkn]
   rfl
  refine ⟨⟨by omega,by omega⟩,⟨0,Nat.zero_le _,rfl,fun i _=>all9 fun j=>rfl⟩,fun q hq=>?_⟩
  have hq:q<=m:=hq
  refine ⟨fun hlt=>?_,fun hge i hi=>?_⟩
  ·have hlt:q<m:=by omega
   have hu:=hpu q hq
   have hbu:∀ i,i<ns->isU9 (st i):=hst
   have hmm:m-(q+1)<m-q:=by omega
   refine ⟨by omega,hand_mb _ _ _,⟨k q,⟨rfl,hk q hlt⟩,rfl,by simp only [hs,and_self]⟩,fun h hh=>?_,fun h hh=>?_⟩
   ·obtain ⟨x,hx⟩:∃ x,x=h.x:=⟨_,rfl⟩
    have h1:k q = .fill h.t h.x:=hh.1
    have hf:FillOK h.x:=hh.2.1
    have hv:Vr h.x.nr h.x.runs:=hh.2.2
    have e:∀ i,RcG.at ⟨h.t,h.x,s,ns,PnG.pt ⟨s,C,.grp t mx X m k,ns,st,bs⟩ q,st⟩ h.x.nr i=PnG.pt ⟨s,C,.grp t mx X m k,ns,st,bs⟩ (q+1) i:=fun i=>by
     rw [hpt q i,h1]
     rfl
    have hrc:RcOK ⟨h.t,h.x,s,ns,PnG.pt ⟨s,C,.grp t mx X m k,ns,st,bs⟩ q,st⟩:=⟨hf,hv,hb'.y,hn2,hn3,hn1,hu,hbu⟩
    exact ⟨hrc,by omega,q+1,hlt,⟨by simp,fun i hi=>all9 fun j=>congrFun (e i) j⟩,hmm⟩
   ·have h1:k q=h:=hh.1.1
    have h2:NdOK d h:=hh.1.2
    have h3:ndT h=TPg:=hh.2
    have e:∀ i,PnG.nx ⟨s,ndX h,h,ns,PnG.pt ⟨s,C,.grp t mx X m k,ns,st,bs⟩ q,st⟩ i=PnG.pt ⟨s,C,.grp t mx X m k,ns,st,bs⟩ (q+1) i:=fun i=>by
     rw [hpt q i,h1]
     rfl
    have hno:NsOK d ⟨s,ndX h,h,ns,PnG.pt ⟨s,C,.grp t mx X m k,ns,st,bs⟩ q,st⟩:=⟨rfl,h3,h2,hb'.y,hn2,hn3,hn1,hn4,hu,hbu⟩
    exact ⟨hno,by omega,q+1,hlt,⟨by simp,fun i hi=>all9 fun j=>congrFun (e i) j⟩,hmm⟩
  ·have h0:∀ j,PnG.pt ⟨s,C,.grp t mx X m k,ns,st,bs⟩ q i j=PnG.pt ⟨s,C,.grp t mx X m k,ns,st,bs⟩ m i j:=fun j=>by
    have:q=m:=by omega
    rw [this]
   exact all9 h0
theorem ok_pt {d:Nat}(ha:SpecOK Try.prog (spNa d)) (hb:SpecOK Try.prog (spNb d)):SpecOK Try.prog (spPt d):=
 specM_case (ok_pk0 ha) (ok_pk1 hb) fun g hg=>(Bool.eq_false_or_eq_true g.nd.x.knock).elim (fun h=> .inr ⟨hg,h⟩) (fun h=> .inl ⟨hg,h⟩)
theorem ok_all:∀ d,SpecOK Try.prog (spNa d)/\SpecOK Try.prog (spNb d)
 | 0=>⟨ok_na0,ok_nb0⟩
 | d+1=>by
  have h:=ok_all d
  have hp:=ok_pt h.1 h.2
  exact ⟨ok_na hp,ok_nb hp⟩
theorem ok_paintG (d:Nat):SpecOK Try.prog (spPt d):=ok_pt (ok_all d).1 (ok_all d).2
end Go.Proofs.Ythappngbapbkfaa.Lpf
set_option linter.unusedSimpArgs false
set_option linter.unusedVariables false
namespace Go.Proofs.Ythappngbapbkfaa.Lrw
open Go.RowKit Sx Num Aff Afi Img Imh Imp Imq Rga Blend Ble Lsg Lta Lrd Lri Luc Lck Lgr Lcs Lst Lch Lcl Lgp Lsc Cmp Lpm Lpa Lpr Lbt Lpn Lpc Lpd Lpe Lpf
set_option maxRecDepth 100000
structure RoG where
 c:Nat->SV
 nd:Nd
 k:Nat
 y:Int
 x0:Int
 ns:Nat
structure RoOK (d:Nat) (g:RoG):Prop where
 c:g.c=ndX g.nd
 isg:ndT g.nd=TPg
 n:g.nd.n<=4294967296
 kid:∀ a,a<g.nd.n->NdOK d (g.nd.k a)
 k1:1<=g.k
 k8:g.k<=8
 y : -8192<=g.y/\g.y<8192
 x0 : -8192<=g.x0
 x1:g.x0+g.ns<=8192
 pos:0<g.ns
def cellC (nd:Nd) (x y:Int):Cl:=pntK nd.k nd.x.knock x y paperI nd.n
def cellI (nd:Nd) (k:Nat) (x y:Int) (j:Nat):Int:=if j<k then cellC nd x y (1+j) else 0
def roA (q i:Nat):Cl:=fun j=>if i<q then paperI j else 0
def roO (g:RoG):SO:= .cells 2 (lst [.ref 37 g.c,.int .i64 g.k]) 60
def roI (g:RoG):Inv:=⟨Nat,fun i=>i<=g.ns,fun i=>⟨[(1,.int .i64 g.y),(2,.int .i64 g.x0),(3,.int .i64 (g.x0+g.ns)),(4,.own 0 0),(9,.osl 1 0),(19,.int .i64 g.ns),(20,.int .i64 i)],[roO g,stR g.ns (roA i)]⟩,fun i=>g.ns-i⟩
def roV (g:RoG) (q i j:Nat):Int:=if i<q then cellI g.nd g.k (g.x0+i) g.y j else 0
def roJ (g:RoG):Inv:=⟨Nat,fun i=>i<=g.ns,fun i=>⟨[(4,.own 0 0),(11,.osl 2 0),(39,.osl 1 0),(40,.int .i64 g.ns),(41,.int .i64 i)],[roO g,stR g.ns (fun i=>cellC g.nd (g.x0+i) g.y),.row 0 g.ns 8 (fun a j=> .int .u8 (roV g i a j)) 33]⟩,fun i=>g.ns-i⟩
theorem all8 {p:Nat->Prop}(h:∀ j,p j):((((((p 0/\p 1)/\p 2)/\p 3)/\p 4)/\p 5)/\p 6)/\p 7:=⟨⟨⟨⟨⟨⟨⟨h 0,h 1⟩,h 2⟩,h 3⟩,h 4⟩,h 5⟩,h 6⟩,h 7⟩
theorem roA_step (q i j:Nat):(bif decide (i=q/\0<=j/\j<9) then paperI (j-0) else roA q i j)=bif decide (j<9) then roA (q+1) i j else roA q i j:=by
 by_cases hj:j<9
 ·rw [decide_eq_true hj,cond_true]
  by_cases hi:i=q
  ·rw [decide_eq_true ⟨hi,Nat.zero_le _,hj⟩,cond_true]
   unfold roA
   rw [if_pos (by omega)]
   rfl
  ·rw [decide_eq_false (fun h=>hi h.1),cond_false]
   unfold roA
   by_cases hc:i<q
   ·rw [if_pos hc,if_pos (by omega)]
   ·rw [if_neg hc,if_neg (by omega)]
 ·rw [decide_eq_false hj,decide_eq_false (fun h=>hj h.2.2),cond_false,cond_false]
theorem roV_step {g:RoG}(hk:g.k<=8) (q i j:Nat) (hj:j<8):(bif decide (q*8<=i*8+j/\i*8+j<q*8+g.k.min g.k) then cellC g.nd (g.x0+q) g.y (1+(i*8+j-q*8)) else roV g q i j)=roV g (q+1) i j:=by
 have hm:g.k.min g.k=g.k:=Nat.min_self g.k
 rw [hm]
 unfold roV
 by_cases hi:i=q
 ·subst hi
  rw [if_neg (Nat.lt_irrefl i),if_pos (Nat.lt_succ_self i),show i*8+j-i*8=j by omega]
  unfold cellI
  by_cases hc:j<g.k
  ·rw [decide_eq_true (by omega),cond_true,if_pos hc]
  ·rw [decide_eq_false (by omega),cond_false,if_neg hc]
 ·rw [decide_eq_false (by omega),cond_false]
  by_cases hc:i<q
  ·rw [if_pos hc,if_pos (by omega)]
  ·rw [if_neg hc,if_neg (by omega)]
noncomputable def spRow (d:Nat):FSpec:=mkSpec 17 (γ:=RoG) (fun | [.agg _ p,.int _ y,.int _ x0,.int _ x1]=>some ⟨refGD (p 0),ndOf (refGD (p 0)),(Sx.intOf (p 1)).toNat,y,x0,(x1-x0).toNat⟩ | _=>none)
 (fun g=>[.agg 2 (lst [.ref 37 g.c,.int .i64 g.k]),.int .i64 g.y,.int .i64 g.x0,.int .i64 (g.x0+g.ns)]) (RoOK d) (fun g=> .sl g.ns 8 (fun i j=> .int .u8 (cellI g.nd g.k (g.x0+i) g.y j)))
theorem ok_row (d:Nat):SpecOK Try.prog (spRow d):=by
 refine spec_sound (specs:=[Cmp.spPaper,spPt d]) (all_ok (⟨Cmp.ok_paper,ok_paintG d,trivial⟩)) (eqs:=[]) (fun _ _ h=>(List.not_mem_nil h).elim) Aff.mixed Try.func17 rfl (by kernel_rfl) (fun _ _=>by kernel_rfl) (fun g=>(⟨[(3,.inv (roI g)),(10,.inv (roJ g))],[(12,[.tmp 13])]⟩:Ann)) (fun g=>Nat.le_of_ble_eq_true (by kernel_rfl)) ?_
 rintro ⟨c,nd,k,y,x0,ns⟩ hg
 have hc:c=ndX nd:=hg.c
 cases nd with
 | fill t x=>exact absurd (show TPf=TPg from hg.isg) (by decide)
 | grp t mx x m kd=>
  rw [ndX_grp] at hc
  subst hc
  refine vc_of (B:=let T4:=fun p:Prop=>True/\True/\True/\True/\p;let V:=fun p:Sx.SV=>Sx.SVle [] [] p p;let K:=IntKind.i64;let A:=Sx.Ask;let z33:=(-9223372036854775808:Int);let z31:=(9:Nat);let z28:=(9223372036854775807:Int);let z26:=(7:Nat);let z25:=(6:Nat);let z24:=(5:Nat);let z23:=(4:Nat);let z22:=(3:Nat);let z21:=(2:Nat);let z19:=(0:Int);let z18:=(↑k:Int);let z15:=(1:Nat);let z11:=(↑ns:Int);let z9:=(8:Nat);let z8:=(0:Nat);let z7:=(Lpn.Nd.grp t mx x m kd);let z6:=(K=K);let q6:=fun p:Int=>A z6/\A (p=p);let z34:=(q6 (x0+z11));let z32:=(q6 z11);let z4:=(IntKind.u8=IntKind.u8);let q4:=fun p:Int=>A z4/\A (p=p);let z1:=(Lsg.itL x++[Sx.SV.int K t,Lpn.mxS x mx,Sx.SV.sl m z15 fun (a x:Nat)=>Sx.SV.ifc (Lpn.ndT (kd a)) fun (x:Nat)=>Sx.SV.ref (37:Nat) (Lpn.ndX (kd a))]);let z14:=(Lpn.ndOf (Sx.lst z1));let z3:=(RoG.mk (Sx.lst z1) z7 k y x0 ns);let z2:=((((((((((((((((((((((((((((((((((((True/\q6 x.kind)/\A (x.nr=x.nr)/\∀ i:Nat,i<x.nr->((True/\q6 ((x.runs i).y))/\q6 ((x.runs i).x0))/\q6 ((x.runs i).x1))/\q6 x.src.kind)/\q4 x.src.ink.c0)/\q4 x.src.ink.c1)/\q4 x.src.ink.c2)/\q4 x.src.ink.c3)/\q4 x.src.ink.c4)/\q4 x.src.ink.c5)/\q4 x.src.ink.c6)/\q4 x.src.ink.c7)/\q6 x.src.fx)/\q6 x.src.fy)/\q6 x.src.tx)/\q6 x.src.ty)/\q6 x.src.rad)/\A (x.src.ns=x.src.ns)/\∀ i:Nat,let z17:=(x.src.st i); i<x.src.ns->((((((((True/\q6 z17.pos)/\q4 z17.ink.c0)/\q4 z17.ink.c1)/\q4 z17.ink.c2)/\q4 z17.ink.c3)/\q4 z17.ink.c4)/\q4 z17.ink.c5)/\q4 z17.ink.c6)/\q4 z17.ink.c7)/\q6 x.src.img.w)/\q6 x.src.img.h)/\A (x.src.img.n=x.src.img.n)/\∀ i:Nat,let z13:=(x.src.img.px i); i<x.src.img.n->(((((((True/\q4 z13.c0)/\q4 z13.c1)/\q4 z13.c2)/\q4 z13.c3)/\q4 z13.c4)/\q4 z13.c5)/\q4 z13.c6)/\q4 z13.c7)/\A (x.src.img.sn=x.src.img.sn)/\∀ i:Nat,i<x.src.img.sn->True/\q4 (x.src.img.sf i))/\q6 x.src.img.m.a)/\q6 x.src.img.m.b)/\q6 x.src.img.m.c)/\q6 x.src.img.m.d)/\q6 x.src.img.m.e)/\q6 x.src.img.m.f)/\A (x.src.img.smooth=x.src.img.smooth))/\A (x.src.img.rep=x.src.img.rep))/\q4 x.alpha)/\q6 x.blend)/\A (x.over=x.over))/\A (x.iso=x.iso))/\A (x.knock=x.knock))/\q6 t)/\V (Sx.lst z1 (35:Nat)));let z0:=((True/\z2/\A (m=m)/\∀ i:Nat,i<m->True/\A (Lpn.ndT (kd i)=Lpn.ndT (kd i))/\((((((((((((((((((((((((((((((((((((True/\V (Lpn.ndX (kd i) 0))/\V (Lpn.ndX (kd i) 1))/\V (Lpn.ndX (kd i) 2))/\V (Lpn.ndX (kd i) 3))/\V (Lpn.ndX (kd i) 4))/\V (Lpn.ndX (kd i) 5))/\V (Lpn.ndX (kd i) 6))/\V (Lpn.ndX (kd i) 7))/\V (Lpn.ndX (kd i) 8))/\V (Lpn.ndX (kd i) 9))/\V (Lpn.ndX (kd i) (10:Nat)))/\V (Lpn.ndX (kd i) (11:Nat)))/\V (Lpn.ndX (kd i) (12:Nat)))/\V (Lpn.ndX (kd i) (13:Nat)))/\V (Lpn.ndX (kd i) (14:Nat)))/\V (Lpn.ndX (kd i) (15:Nat)))/\V (Lpn.ndX (kd i) (16:Nat)))/\V (Lpn.ndX (kd i) (17:Nat)))/\V (Lpn.ndX (kd i) (18:Nat)))/\V (Lpn.ndX (kd i) (19:Nat)))/\V (Lpn.ndX (kd i) (20:Nat)))/\V (Lpn.ndX (kd i) (21:Nat)))/\V (Lpn.ndX (kd i) (22:Nat)))/\V (Lpn.ndX (kd i) (23:Nat)))/\V (Lpn.ndX (kd i) (24:Nat)))/\V (Lpn.ndX (kd i) (25:Nat)))/\V (Lpn.ndX (kd i) (26:Nat)))/\V (Lpn.ndX (kd i) (27:Nat)))/\V (Lpn.ndX (kd i) (28:Nat)))/\V (Lpn.ndX (kd i) (29:Nat)))/\V (Lpn.ndX (kd i) (30:Nat)))/\V (Lpn.ndX (kd i) (31:Nat)))/\V (Lpn.ndX (kd i) (32:Nat)))/\V (Lpn.ndX (kd i) (33:Nat)))/\V (Lpn.ndX (kd i) (34:Nat)))/\V (Lpn.ndX (kd i) (35:Nat)))/\V (Lpn.ndX (kd i) (36:Nat)))/\q6 z18);T4 (A (z33<=x0+z11-x0/\x0+z11-x0<=z28)/\A (z19<=x0+z11-x0/\x0+z11-x0<=x0+z11-x0/\(↑z31:Int)*(x0+z11-x0)<=(140737488355328:Int)/\x0+z11-x0<=z28)/\T4 ((∃ g:Nat,A ((roI z3).pre g)/\((q6 y)/\(q6 x0)/\z34/\A (z8=z8)/\True/\(A z6/\A ((↑(x0+z11-x0).toNat:Int)=z11))/\(A z6/\A (z19=(↑g:Int)))/\True)/\z0/\(A ((x0+z11-x0).toNat=ns)/\∀ i:Nat,i<ns->((((((((True/\A z4/\A (z19=roA g i z8))/\A z4/\A (z19=roA g i z15))/\A z4/\A (z19=roA g i z21))/\A z4/\A (z19=roA g i z22))/\A z4/\A (z19=roA g i z23))/\A z4/\A (z19=roA g i z24))/\A z4/\A (z19=roA g i z25))/\A z4/\A (z19=roA g i z26))/\A z4/\A (z19=roA g i z9))/\True)/\∀ g:Nat,let z30:=(↑g:Int);let z5:=(Lpe.PnG.mk (Lrd.StG.mk y x0 (x0+z11)) (Sx.lst z1) z14 ns (roA g) (roA g)); (roI z3).pre g->True/\Sx.Br (decide (z30<z11)) (T4 ((True/\A True)/\A (z19<=z30/\z30<z11)/\A (z30.toNat<ns)/\A (z33<=z30+(1:Int)/\z30+(1:Int)<=z28)/\True/\∃ (g':Nat),A ((roI z3).pre g')/\(((q6 y)/\(q6 x0)/\z34/\A (z8=z8)/\True/\z32/\(A z6/\A (z30+(1:Int)=(↑g':Int)))/\True)/\z0/\(A (ns=ns)/\∀ i:Nat,i<ns->((((((((True/\A z4/\A ((bif decide (i=z30.toNat/\z8<=z8/\z8<z8+z31) then Cmp.paperI (z8-z8) else roA g i z8)=roA g' i z8))/\A z4/\A ((bif decide (i=z30.toNat/\z8<=z15/\z15<z8+z31) then Cmp.paperI (z15-z8) else roA g i z15)=roA g' i z15))/\A z4/\A ((bif decide (i=z30.toNat/\z8<=z21/\z21<z8+z31) then Cmp.paperI (z21-z8) else roA g i z21)=roA g' i z21))/\A z4/\A ((bif decide (i=z30.toNat/\z8<=z22/\z22<z8+z31) then Cmp.paperI (z22-z8) else roA g i z22)=roA g' i z22))/\A z4/\A ((bif decide (i=z30.toNat/\z8<=z23/\z23<z8+z31) then Cmp.paperI (z23-z8) else roA g i z23)=roA g' i z23))/\A z4/\A ((bif decide (i=z30.toNat/\z8<=z24/\z24<z8+z31) then Cmp.paperI (z24-z8) else roA g i z24)=roA g' i z24))/\A z4/\A ((bif decide (i=z30.toNat/\z8<=z25/\z25<z8+z31) then Cmp.paperI (z25-z8) else roA g i z25)=roA g' i z25))/\A z4/\A ((bif decide (i=z30.toNat/\z8<=z26/\z26<z8+z31) then Cmp.paperI (z26-z8) else roA g i z26)=roA g' i z26))/\A z4/\A ((bif decide (i=z30.toNat/\z8<=z9/\z9<z8+z31) then Cmp.paperI (z9-z8) else roA g i z9)=roA g' i z9))/\True)/\A ((roI z3).meas g'<(roI z3).meas g))) (T4 (True/\True/\True/\((True/\((((True/\q6 y)/\q6 x0)/\q6 (x0+z11))/\(z2/\A (m=m)/\∀ i:Nat,i<m->True/\A (Lpn.ndT (kd i)=Lpn.ndT (kd i))/\((((((((((((((((((((((((((((((((((((True/\V (Lpn.ndX (kd i) 0))/\V (Lpn.ndX (kd i) 1))/\V (Lpn.ndX (kd i) 2))/\V (Lpn.ndX (kd i) 3))/\V (Lpn.ndX (kd i) 4))/\V (Lpn.ndX (kd i) 5))/\V (Lpn.ndX (kd i) 6))/\V (Lpn.ndX (kd i) 7))/\V (Lpn.ndX (kd i) 8))/\V (Lpn.ndX (kd i) 9))/\V (Lpn.ndX (kd i) (10:Nat)))/\V (Lpn.ndX (kd i) (11:Nat)))/\V (Lpn.ndX (kd i) (12:Nat)))/\V (Lpn.ndX (kd i) (13:Nat)))/\V (Lpn.ndX (kd i) (14:Nat)))/\V (Lpn.ndX (kd i) (15:Nat)))/\V (Lpn.ndX (kd i) (16:Nat)))/\V (Lpn.ndX (kd i) (17:Nat)))/\V (Lpn.ndX (kd i) (18:Nat)))/\V (Lpn.ndX (kd i) (19:Nat)))/\V (Lpn.ndX (kd i) (20:Nat)))/\V (Lpn.ndX (kd i) (21:Nat)))/\V (Lpn.ndX (kd i) (22:Nat)))/\V (Lpn.ndX (kd i) (23:Nat)))/\V (Lpn.ndX (kd i) (24:Nat)))/\V (Lpn.ndX (kd i) (25:Nat)))/\V (Lpn.ndX (kd i) (26:Nat)))/\V (Lpn.ndX (kd i) (27:Nat)))/\V (Lpn.ndX (kd i) (28:Nat)))/\V (Lpn.ndX (kd i) (29:Nat)))/\V (Lpn.ndX (kd i) (30:Nat)))/\V (Lpn.ndX (kd i) (31:Nat)))/\V (Lpn.ndX (kd i) (32:Nat)))/\V (Lpn.ndX (kd i) (33:Nat)))/\V (Lpn.ndX (kd i) (34:Nat)))/\V (Lpn.ndX (kd i) (35:Nat)))/\V (Lpn.ndX (kd i) (36:Nat)))/\True/\True)/\(A (ns=ns)/\∀ i:Nat,i<ns->((((((((True/\q4 (roA g i z8))/\q4 (roA g i z15))/\q4 (roA g i z21))/\q4 (roA g i z22))/\q4 (roA g i z23))/\q4 (roA g i z24))/\q4 (roA g i z25))/\q4 (roA g i z26))/\q4 (roA g i z9))/\True)/\A (Lpe.PtOK d z5))/\True/\True/\A (z19<=z11/\z11<=z11/\(↑z9:Int)*z11<=(140737488355328:Int)/\z11<=z28)/\T4 ((∃ g_1:Nat,A ((roJ z3).pre g_1)/\(A (z8=z8)/\True/\True/\z32/\(A z6/\A (z19=(↑g_1:Int)))/\True)/\z0/\(A (ns=ns)/\∀ i:Nat,let z27:=(x0+(↑i:Int)); i<ns->((((((((True/\A z4/\A (z5.pt z14.n i z8=cellC z7 z27 y z8))/\A z4/\A (z5.pt z14.n i z15=cellC z7 z27 y z15))/\A z4/\A (z5.pt z14.n i z21=cellC z7 z27 y z21))/\A z4/\A (z5.pt z14.n i z22=cellC z7 z27 y z22))/\A z4/\A (z5.pt z14.n i z23=cellC z7 z27 y z23))/\A z4/\A (z5.pt z14.n i z24=cellC z7 z27 y z24))/\A z4/\A (z5.pt z14.n i z25=cellC z7 z27 y z25))/\A z4/\A (z5.pt z14.n i z26=cellC z7 z27 y z26))/\A z4/\A (z5.pt z14.n i z9=cellC z7 z27 y z9))/\(A (z11.toNat=ns)/\∀ i:Nat,i<ns->(((((((True/\A z4/\A (z19=roV z3 g_1 i z8))/\A z4/\A (z19=roV z3 g_1 i z15))/\A z4/\A (z19=roV z3 g_1 i z21))/\A z4/\A (z19=roV z3 g_1 i z22))/\A z4/\A (z19=roV z3 g_1 i z23))/\A z4/\A (z19=roV z3 g_1 i z24))/\A z4/\A (z19=roV z3 g_1 i z25))/\A z4/\A (z19=roV z3 g_1 i z26))/\True)/\∀ g:Nat,let z10:=(↑g:Int);let z20:=(z10.toNat*z9+z8);let z16:=(x0+(↑z10.toNat:Int)); (roJ z3).pre g->True/\Sx.Br (decide (z10<z11)) (True/\A (z19<=z10/\z10<z11)/\A (z10.toNat<ns)/\T4 (True/\A (z19<=z10/\z10<z11)/\True/\True/\A (z19<=z18/\z18<=(↑z9:Int))/\True/\True/\True/\A (z19<=z18/\z18<=(↑z9:Int))/\A (z10.toNat*z9+z8+z18.toNat<=ns*z9)/\A (z33<=z10+(1:Int)/\z10+(1:Int)<=z28)/\True/\∃ (g':Nat),A ((roJ z3).pre g')/\((A (z8=z8)/\True/\True/\z32/\(A z6/\A (z10+(1:Int)=(↑g':Int)))/\True)/\z0/\(A (ns=ns)/\∀ i:Nat,let z12:=(x0+(↑i:Int)); i<ns->((((((((True/\q4 (cellC z7 z12 y z8))/\q4 (cellC z7 z12 y z15))/\q4 (cellC z7 z12 y z21))/\q4 (cellC z7 z12 y z22))/\q4 (cellC z7 z12 y z23))/\q4 (cellC z7 z12 y z24))/\q4 (cellC z7 z12 y z25))/\q4 (cellC z7 z12 y z26))/\q4 (cellC z7 z12 y z9))/\(A (ns=ns)/\∀ i:Nat,i<ns->(((((((True/\A z4/\A ((bif decide (z10.toNat*z9+z8<=i*z9+z8/\i*z9+z8<z10.toNat*z9+z8+z18.toNat.min z18.toNat) then cellC z7 z16 y (z8+(z8+(z15+(i*z9+z8-z20)))) else roV z3 g i z8)=roV z3 g' i z8))/\A z4/\A ((bif decide (z10.toNat*z9+z8<=i*z9+z15/\i*z9+z15<z10.toNat*z9+z8+z18.toNat.min z18.toNat) then cellC z7 z16 y (z8+(z8+(z15+(i*z9+z15-z20)))) else roV z3 g i z15)=roV z3 g' i z15))/\A z4/\A ((bif decide (z10.toNat*z9+z8<=i*z9+z21/\i*z9+z21<z10.toNat*z9+z8+z18.toNat.min z18.toNat) then cellC z7 z16 y (z8+(z8+(z15+(i*z9+z21-z20)))) else roV z3 g i z21)=roV z3 g' i z21))/\A z4/\A ((bif decide (z10.toNat*z9+z8<=i*z9+z22/\i*z9+z22<z10.toNat*z9+z8+z18.toNat.min z18.toNat) then cellC z7 z16 y (z8+(z8+(z15+(i*z9+z22-z20)))) else roV z3 g i z22)=roV z3 g' i z22))/\A z4/\A ((bif decide (z10.toNat*z9+z8<=i*z9+z23/\i*z9+z23<z10.toNat*z9+z8+z18.toNat.min z18.toNat) then cellC z7 z16 y (z8+(z8+(z15+(i*z9+z23-z20)))) else roV z3 g i z23)=roV z3 g' i z23))/\A z4/\A ((bif decide (z10.toNat*z9+z8<=i*z9+z24/\i*z9+z24<z10.toNat*z9+z8+z18.toNat.min z18.toNat) then cellC z7 z16 y (z8+(z8+(z15+(i*z9+z24-z20)))) else roV z3 g i z24)=roV z3 g' i z24))/\A z4/\A ((bif decide (z10.toNat*z9+z8<=i*z9+z25/\i*z9+z25<z10.toNat*z9+z8+z18.toNat.min z18.toNat) then cellC z7 z16 y (z8+(z8+(z15+(i*z9+z25-z20)))) else roV z3 g i z25)=roV z3 g' i z25))/\A z4/\A ((bif decide (z10.toNat*z9+z8<=i*z9+z26/\i*z9+z26<z10.toNat*z9+z8+z18.toNat.min z18.toNat) then cellC z7 z16 y (z8+(z8+(z15+(i*z9+z26-z20)))) else roV z3 g i z26)=roV z3 g' i z26))/\True)/\A ((roJ z3).meas g'<(roJ z3).meas g))) (True/\True/\True/\A (ns=ns)/\∀ i:Nat,let z29:=(x0+(↑i:Int)); i<ns->(((((((True/\A z4/\A (roV z3 g i z8=cellI z7 k z29 y z8))/\A z4/\A (roV z3 g i z15=cellI z7 k z29 y z15))/\A z4/\A (roV z3 g i z21=cellI z7 k z29 y z21))/\A z4/\A (roV z3 g i z22=cellI z7 k z29 y z22))/\A z4/\A (roV z3 g i z23=cellI z7 k z29 y z23))/\A z4/\A (roV z3 g i z24=cellI z7 k z29 y z24))/\A z4/\A (roV z3 g i z25=cellI z7 k z29 y z25))/\A z4/\A (roV z3 g i z26=cellI z7 k z29 y z26)))))))) (by kernel_rfl) ?_
  simp only [ask_iff,br_iff,eq_self,true_and,and_true,implies_true,forall_const,decide_eq_true_eq,decide_eq_false_iff_not,ne_eq,Nat.mul_one,Nat.add_zero,Nat.zero_add]
  have hs:∀ nd j,SVle [] [] (ndX nd j) (ndX nd j)=True:=fun nd j=>eq_true (SVle.refl [] [] (ndX_own nd j))
  have e:ndOf (lst (itL x++[.int .i64 t,mxS x mx,.sl m 1 (fun a _=> .ifc (ndT (kd a)) (fun _=> .ref 37 (ndX (kd a))))])) = .grp t mx x m kd:=by rw [<-ndX_grp]; exact ndOf_ndX _
  simp only [e,hs,Int.toNat_natCast,and_self,and_true,true_and,implies_true]
  have hc:(lst (itL x++[.int .i64 t,mxS x mx,.sl m 1 (fun a _=> .ifc (ndT (kd a)) (fun _=> .ref 37 (ndX (kd a))))]))=ndX (.grp t mx x m kd):=(ndX_grp _ _ _ _ _).symm
  generalize lst (itL x++_)=C at *
  have hC:SVle [] [] (C 35) (C 35):=by rw [hc]; exact SVle.refl [] [] (ndX_own _ 35)
  have hy : -8192<=y/\y<8192:=hg.y
  have h0 : -8192<=x0:=hg.x0
  have h1:x0+ns<=8192:=hg.x1
  have hp:0<ns:=hg.pos
  have hk1:1<=k:=hg.k1
  have hk8:k<=8:=hg.k8
  have hm:m<=4294967296:=hg.n
  have hA:∀ q i,isU9 (roA q i):=fun q i j=>by
   unfold roA paperI
   split
   ·split<;>omega
   ·omega
  refine ⟨by omega,by omega,⟨0,Nat.zero_le _,⟨by omega,rfl⟩,hC,by omega,fun i _=>?_⟩,fun q hq=>⟨fun hlt=>?_,fun hge=>?_⟩⟩
  ·have hz:∀ j,(0:Int)=roA 0 i j:=fun j=>(if_neg (Nat.not_lt_zero i)).symm
   exact all9 hz
  ·have hlt:q<ns:=by omega
   have st:=roA_step q
   exact ⟨by omega,hlt,by omega,q+1,hlt,⟨by simp,hC,fun i _=>⟨⟨⟨⟨⟨⟨⟨⟨st i 0,st i 1⟩,st i 2⟩,st i 3⟩,st i 4⟩,st i 5⟩,st i 6⟩,st i 7⟩,st i 8⟩⟩,(show ns-(q+1)<ns-q by omega)⟩
  ·have hq:q<=ns:=hq
   have hb:BdOK ⟨⟨y,x0,x0+ns⟩,C,.grp t mx x m kd,ns,roA q,roA q⟩:=⟨hy,h0,h1,by show (ns:Int)=x0+ns-x0; omega,hp,fun i _=>hA q i,fun i _=>hA q i⟩
   have hfin:∀ i,i<ns->PnG.pt ⟨⟨y,x0,x0+ns⟩,C,.grp t mx x m kd,ns,roA q,roA q⟩ m i=cellC (.grp t mx x m kd) (x0+i) y:=fun i hi=>by
    have:roA q i=paperI:=funext fun j=>if_pos (by omega)
    show pntK kd x.knock (x0+i) y (roA q i) m=pntK kd x.knock (x0+i) y paperI m
    rw [this]
   refine ⟨⟨hC,hc,rfl,hm,hg.kid,hb⟩,by omega,⟨0,Nat.zero_le _,rfl,hC,fun i hi=>all9 fun j=>congrFun (hfin i hi) j,fun i _=>?_⟩,fun r hr=>⟨fun hlt=>?_,fun hge i hi=>?_⟩⟩
   ·have hz:∀ j,(0:Int)=roV ⟨C,.grp t mx x m kd,k,y,x0,ns⟩ 0 i j:=fun j=>(if_neg (Nat.not_lt_zero i)).symm
    exact all8 hz
   ·have hlt:r<ns:=by omega
    have st:=fun i j h=>roV_step (g:=⟨C,.grp t mx x m kd,k,y,x0,ns⟩) hk8 r i j h
    exact ⟨by omega,hlt,by omega,by omega,by omega,by omega,by omega,r+1,hlt,⟨by simp,hC,fun i _=>⟨⟨⟨⟨⟨⟨⟨st i 0 (by decide),st i 1 (by decide)⟩,st i 2 (by decide)⟩,st i 3 (by decide)⟩,st i 4 (by decide)⟩,st i 5 (by decide)⟩,st i 6 (by decide)⟩,st i 7 (by decide)⟩⟩,(show ns-(r+1)<ns-r by omega)⟩
   ·have hz:∀ j,roV ⟨C,.grp t mx x m kd,k,y,x0,ns⟩ r i j=cellI (.grp t mx x m kd) k (x0+i) y j:=fun j=>if_pos (by omega)
    exact all8 hz
end Go.Proofs.Ythappngbapbkfaa.Lrw
set_option linter.unusedSimpArgs false
set_option linter.unusedVariables false
namespace Go.Proofs.Ythappngbapbkfaa.Lto
open Go.RowKit Sx Num Aff Afi Img Imh Imp Imq Rga Blend Ble Lsg Lta Lrd Lri Luc Lck Lgr Lcs Lst Lch Lcl Lgp Lsc Cmp Lpm Lpa Lpr Lbt Lpn Lpc Lpd Lpe Lpf Lrw
theorem spec_res {P:Program}{f:FuncId}{γ:Type}{dec:List SV->Option γ}{args:γ->List SV}{pre:γ->Prop}{res res':γ->SV}(h:SpecOK P (mkSpec f dec args pre res)) (hp:∀ g,pre g->isPure 6 (res g)=true) (hl:∀ g,pre g->SVle [] [] (res g) (res' g)):SpecOK P (mkSpec f dec args pre res'):=by
 refine ⟨h.1,fun _ _ _ _ _ _ _ hr=>hr,fun l H nm y hrun hask w0 X0 E w hrep hf vals ha=>?_⟩
 simp only [mkSpec] at hrun
 split at hrun
 case h_2=>cases hrun
 rename_i hpu
 split at hrun
 case h_2=>cases hrun
 rename_i g hdec
 cases hrun
 obtain ⟨hle,⟨hpre⟩⟩:=hask
 refine (h.2.2 l H nm ⟨mkSpec.leArgs l (args g)/\Sx.Ask (pre g),res g,.keep⟩ (by simp only [mkSpec,hpu,hdec]) ⟨hle,⟨hpre⟩⟩ w0 X0 E w hrep hf vals ha).mono ?_
 rintro e w' ⟨v,rfl,E',a1,a2,a3,a4,a5,a6⟩
 exact ⟨v,rfl,E',a1,a2,a3,a4,up (pureR (fun _ hb=>hb) (hl g hpre) (isPure_sound 6 _ _ (hp g hpre) a5)),a6⟩
def ndG (L:LsG) (B:Bld):Nat->Nat->Nd
 | 0,_=> .grp 0 true zIt 0 (fun _=> .fill 0 zIt)
 | f+1,g=> .grp (if g=0 then -1 else (B.it g:Nat)) (decide (g=0)) (if g=0 then zIt else L.it (B.it g)) (B.m g) fun a=>match B.kid g a with
  | none=> .fill (B.leaf g a) (L.it (B.leaf g a))
  | some k=>ndG L B f k
theorem ndG_T (L:LsG) (B:Bld) (f g:Nat):ndT (ndG L B f g)=TPg:=by cases f<;>rfl
theorem lst_lt {l:List SV}{j:Nat}(h:l.length<=j):lst l j = .any:=by
 show l.getD j .any = .any
 rw [List.getD_eq_getElem?_getD,List.getElem?_eq_none h]; rfl
theorem ndG_le {L:LsG}{B:Bld}{i:Nat}(hb:BldOK B i):∀ f g,g<B.n->B.n<=g+f->SVle [] [] (.ref 37 (grpC L B f g)) (.ref 37 (ndX (ndG L B f g))):=by
 intro f
 induction f with
 | zero=>intro g h1 h2; omega
 | succ f ih=>
  intro g hg hf
  have e:ndX (ndG L B (f+1) g)=lst (itL (if g=0 then zIt else L.it (B.it g))++[.int .i64 (if g=0 then -1 else (B.it g:Nat)),mxS (if g=0 then zIt else L.it (B.it g)) (decide (g=0)),.sl (B.m g) 1 (fun a _=> .ifc (ndT (match B.kid g a with
   | none=> .fill (B.leaf g a) (L.it (B.leaf g a))
   | some k=>ndG L B f k)) (fun _=> .ref 37 (ndX (match B.kid g a with
   | none=> .fill (B.leaf g a) (L.it (B.leaf g a))
   | some k=>ndG L B f k))))]):=ndX_grp _ _ _ _ _
  show (if 37<=37 then allN 37 fun j=>SVle [] [] (grpC L B (f+1) g j) (ndX (ndG L B (f+1) g) j) else False)
  rw [if_pos (Nat.le_refl 37),e]
  refine allN_of (fun j=>?_) 37
  by_cases hj:j=36
  ·subst hj
   show (if 1=1 then Sx.Ask (B.m g=B.m g)/\∀ a,a<B.m g->allN 1 fun j=>SVle [] [] (.ifc ((B.kid g a).elim TPf fun _=>TPg) (fun _=> .ref 37 ((B.kid g a).elim (lfC L B g a) (grpC L B f)))) _ else False)
   rw [if_pos rfl]
   refine ⟨⟨rfl⟩,fun a ha=>⟨trivial,?_⟩⟩
   cases hk:B.kid g a with
   | none=>
    refine ⟨⟨rfl⟩,?_⟩
    show SVle [] [] (.ref 37 (lfC L B g a)) (.ref 37 (ndX (.fill (B.leaf g a) (L.it (B.leaf g a)))))
    have e2:lfC L B g a=ndX (.fill (B.leaf g a) (L.it (B.leaf g a))):=by
     rw [ndX_fill,srcX_eq]; rfl
    rw [e2]
    exact SVle.refl [] [] (fun j=>ndX_own _ j)
   | some k=>
    have hkid:=hb.kid g a k hg ha hk
    exact ⟨⟨(ndG_T L B f k).symm⟩,ih k hkid.2 (by omega)⟩
  ·by_cases hl:37<=j
   ·rw [lst_lt (by simpa [itL,srcL,inkL,imgL] using hl)]
    unfold SVle
    exact True.intro
   ·have h1:grpC L B (f+1) g j=hdF L B g j:=by
     show (bif Nat.beq j 36 then _ else hdF L B g j)=_
     have:Nat.beq j 36=false:=by
      cases h:Nat.beq j 36 with
      | false=>rfl
      | true=>exact absurd (Nat.eq_of_beq_eq_true h) hj
     rw [this]; rfl
    have h2:∀ (l:List SV) (s:SV),l.length=36->lst (l++[s]) j=lst l j:=fun l s h=>lst_app (by omega)
    have h3:hdF L B g j=lst (itL (if g=0 then zIt else L.it (B.it g))++[.int .i64 (if g=0 then -1 else (B.it g:Nat)),mxS (if g=0 then zIt else L.it (B.it g)) (decide (g=0))]) j:=by
     unfold hdF
     by_cases hg0:g=0
     ·rw [if_pos hg0,if_pos hg0,if_pos hg0,decide_eq_true hg0]; rfl
     ·rw [if_neg hg0,if_neg hg0,if_neg hg0,decide_eq_false hg0]; rfl
    have h4:=h2 (itL (if g=0 then zIt else L.it (B.it g))++[.int .i64 (if g=0 then -1 else (B.it g:Nat)),mxS (if g=0 then zIt else L.it (B.it g)) (decide (g=0))]) (.sl (B.m g) 1 (fun a _=> .ifc (ndT (match B.kid g a with
   | none=> .fill (B.leaf g a) (L.it (B.leaf g a))
   | some k=>ndG L B f k)) (fun _=> .ref 37 (ndX (match B.kid g a with
   | none=> .fill (B.leaf g a) (L.it (B.leaf g a))
   | some k=>ndG L B f k))))) (by simp [itL,srcL,inkL,imgL])
    rw [List.append_assoc] at h4
    have h5:=h4.trans h3.symm
    have h6:SVle [] [] (hdF L B g j) (hdF L B g j):=SVle.refl [] [] (hdF_own L B g j)
    rw [h1]
    exact h5▸h6
structure LsU8 (L:LsG):Prop where
 alpha:∀ i,i<L.n->0<=(L.it i).alpha/\(L.it i).alpha<=255
 ink:∀ i,i<L.n->u8i (L.it i).src.ink
 st:∀ i,i<L.n->∀ j,j<(L.it i).src.ns->u8i ((L.it i).src.st j).ink
 px:∀ i,i<L.n->∀ j,j<(L.it i).src.img.n->inkOk ((L.it i).src.img.px j)
 sf:∀ i,i<L.n->∀ j,j<(L.it i).src.img.sn->0<=(L.it i).src.img.sf j/\(L.it i).src.img.sf j<=255
 nr:∀ i,i<L.n->(L.it i).nr<=9223372036854775807
structure ChkOK (L:LsG):Prop where
 w:1<=L.w/\L.w<=256
 h:1<=L.h/\L.h<=256
 ni:1<=L.ni/\L.ni<=8
 n:L.n<=5000
 it:∀ i,i<L.n->itE L i=0
theorem chk_ok {L:LsG}(h:chkL L=0):ChkOK L:=by
 unfold chkL at h
 split at h
 ·omega
 split at h
 ·omega
 split at h
 ·omega
 split at h
 ·omega
 split at h
 ·omega
 rename_i h1 h2 h3 h4 h5
 exact ⟨by omega,by omega,by omega,by omega,fun i hi=>fstE_zero _ _ (Classical.not_not.1 h5) i (Nat.zero_le _) (by omega)⟩
theorem cs_ok {s:Src}{n:Nat}(h:csE s n=0) (h1:u8i s.ink) (h2:∀ j,j<s.ns->u8i (s.st j).ink) (h3:∀ j,j<s.img.n->inkOk (s.img.px j)) (h4:∀ j,j<s.img.sn->0<=s.img.sf j/\s.img.sf j<=255):SrcOK s:=by
 unfold csE at h
 refine ⟨h1,fun k0 k3=>?_,fun k3=>?_⟩
 ·rw [if_neg k0] at h
  split at h
  ·split at h
   ·omega
   ·rename_i h5
    exact ⟨Classical.not_not.1 h5,h2⟩
  ·omega
 ·rw [if_neg (by omega),if_neg (by omega),if_pos k3] at h
  split at h
  ·omega
  ·split at h
   ·omega
   ·rename_i h5
    exact ⟨Classical.not_not.1 h5,h3,h4⟩
structure ItOK (L:LsG) (i:Nat):Prop where
 kind:(L.it i).kind=0\/(L.it i).kind=1\/(L.it i).kind=2
 blend:0<=(L.it i).blend/\(L.it i).blend<=11
 close:(L.it i).kind=2->opI L i≠0
 opn:(L.it i).kind=1->opI L i<16
 fill:(L.it i).kind=0->rgChk ⟨(L.it i).nr,(L.it i).runs⟩=0/\csE (L.it i).src L.ni=0
theorem it_ok {L:LsG}{i:Nat}(h:itE L i=0):ItOK L i:=by
 unfold itE ciE at h
 split at h
 ·omega
 split at h
 ·omega
 split at h
 ·omega
 split at h
 ·omega
 split at h
 ·omega
 rename_i h1 h2 h3 h4 h5
 refine ⟨by omega,by omega,fun hk ho=>h3 ⟨hk,ho⟩,fun hk=>by omega,fun hk=>?_⟩
 rw [if_neg (by omega)] at h
 split at h
 ·rename_i h6; exact absurd h h6
 ·rename_i h6; exact ⟨Classical.not_not.1 h6,h⟩
theorem bld_d {L:LsG}(hc:ChkOK L):∀ i,i<=L.n->0<=opI L i/\((bld L i).d:Int)=opI L i+1
 | 0,_=>by simp [opI,bld]
 | i+1,hi=>by
  have ih:=bld_d hc i (by omega)
  have hit:=it_ok (hc.it i (by omega))
  simp only [opI,bld,stepB]
  rcases hit.kind with hk | hk | hk
  ·rw [if_neg (by omega),if_neg (by omega),if_pos hk]
   exact ih
  ·rw [if_pos hk,if_neg (by omega),if_pos hk]
   show 0<=opI L i+1/\(((bld L i).d+1:Nat):Int)=_
   omega
  ·rw [if_neg (by omega),if_pos hk,if_neg (by omega),if_neg (by omega)]
   have:=hit.close hk
   show 0<=opI L i-1/\(((bld L i).d-1:Nat):Int)=_
   omega
theorem ls_ok {L:LsG}(hc:ChkOK L):LsOK L:=by
 refine ⟨hc.n,fun i hi=>?_,fun i hi=>(it_ok (hc.it i hi)).blend,fun i hi hk=>?_⟩
 ·have:=(it_ok (hc.it i hi)).kind; omega
 ·have h1:=(it_ok (hc.it i hi)).close hk
  have h2:=bld_d hc i (by omega)
  omega
theorem fill_ok {L:LsG}(hc:ChkOK L) (hu:LsU8 L) {i:Nat}(hi:i<L.n) (hk:(L.it i).kind=0):FillOK (L.it i)/\Vr (L.it i).nr (L.it i).runs:=by
 have hit:=it_ok (hc.it i hi)
 have hf:=hit.fill hk
 exact ⟨⟨cs_ok hf.2 (hu.ink i hi) (hu.st i hi) (hu.px i hi) (hu.sf i hi),hu.alpha i hi,hit.blend⟩,vr_of hf.1⟩
def GrpOK (L:LsG) (B:Bld) (i:Nat):Prop:=∀ g,0<g->g<B.n->B.it g<i/\(L.it (B.it g)).kind=1
theorem grp_ok {L:LsG}(h:LsOK L):∀ i,i<=L.n->GrpOK L (bld L i) i
 | 0,_=>fun g h0 hg=>by simp [bld] at hg; omega
 | i+1,hi=>by
  have ih:=grp_ok h i (by omega)
  simp only [bld,stepB]
  split
  ·intro g h0 hg
   have:=ih g h0 hg
   exact ⟨by have:=this.1; show (bld L i).it g<i+1; omega,this.2⟩
  ·split
   ·rename_i hk
    intro g h0 hg
    have hg:g<(bld L i).n+1:=hg
    show (if g=(bld L i).n then i else (bld L i).it g)<i+1/\(L.it (if g=(bld L i).n then i else (bld L i).it g)).kind=1
    by_cases e:g=(bld L i).n
    ·rw [if_pos e]; exact ⟨by omega,hk⟩
    ·rw [if_neg e]
     have:=ih g h0 (by omega)
     exact ⟨by omega,this.2⟩
   ·intro g h0 hg
    have:=ih g h0 hg
    exact ⟨by have:=this.1; show (bld L i).it g<i+1; omega,this.2⟩
theorem ndG_ok {L:LsG}(hc:ChkOK L) (hu:LsU8 L):∀ f g,0<g->g<(bld L L.n).n->(bld L L.n).n<=g+f->NdOK f (ndG L (bld L L.n) f g):=by
 have hl:=ls_ok hc
 have hb:=bld_ok hl L.n (Nat.le_refl _)
 have hlf:=leaf_ok hl L.n (Nat.le_refl _)
 have hgr:=grp_ok hl L.n (Nat.le_refl _)
 have hn:=hc.n
 intro f
 induction f with
 | zero=>intro g h0 h1 h2; omega
 | succ f ih=>
  intro g h0 hg hf
  have hgi:=hgr g h0 hg
  have e:ndG L (bld L L.n) (f+1) g = .grp ((bld L L.n).it g:Nat) false (L.it ((bld L L.n).it g)) ((bld L L.n).m g) fun a=>match (bld L L.n).kid g a with
   | none=> .fill ((bld L L.n).leaf g a) (L.it ((bld L L.n).leaf g a))
   | some k=>ndG L (bld L L.n) f k:=by
   show Nd.grp _ _ _ _ _=_
   rw [if_neg (by omega),if_neg (by omega),decide_eq_false (by omega)]
  rw [e]
  refine .grp (by have:=hb.m g hg; omega) rfl (hu.alpha _ hgi.1) (it_ok (hc.it _ hgi.1)).blend fun a ha=>?_
  cases hk:(bld L L.n).kid g a with
  | none=>
   have:=hlf g a hg ha hk
   have:=fill_ok hc hu this.1 this.2
   exact .fill this.1 this.2
  | some k=>
   have:=hb.kid g a k hg ha hk
   exact ih k (by omega) this.2 (by omega)
def ndP (L:LsG):Nd:=ndG L (bld L L.n) (Nat.succ (bld L L.n).n) 0
structure PgOK (d:Nat) (nd:Nd):Prop where
 isg:ndT nd=TPg
 n:nd.n<=4294967296
 kid:∀ a,a<nd.n->NdOK d (nd.k a)
theorem ndP_ok {L:LsG}(hc:ChkOK L) (hu:LsU8 L):PgOK (bld L L.n).n (ndP L):=by
 have hl:=ls_ok hc
 have hb:=bld_ok hl L.n (Nat.le_refl _)
 have hlf:=leaf_ok hl L.n (Nat.le_refl _)
 have hn:=hc.n
 refine ⟨rfl,(by show (bld L L.n).m 0<=_; have:=hb.m 0 hb.n1; omega),fun a ha=>?_⟩
 have ha:a<(bld L L.n).m 0:=ha
 show NdOK (bld L L.n).n (match (bld L L.n).kid 0 a with
   | none=> .fill ((bld L L.n).leaf 0 a) (L.it ((bld L L.n).leaf 0 a))
   | some k=>ndG L (bld L L.n) (bld L L.n).n k)
 cases hk:(bld L L.n).kid 0 a with
 | none=>
  have:=hlf 0 a hb.n1 ha hk
  have:=fill_ok hc hu this.1 this.2
  exact .fill this.1 this.2
 | some k=>
  have:=hb.kid 0 a k hb.n1 ha hk
  exact ndG_ok hc hu _ k (by omega) this.2 (by omega)
noncomputable def spTreeN:FSpec:=mkSpec 26 (γ:=LsG) (fun | [.agg _ g]=>some (lsD g) | _=>none) (fun g=>[lsS g]) LsOK (fun g=> .ref 37 (ndX (ndP g)))
theorem ok_treeN:SpecOK Try.prog spTreeN:=spec_res ok_tree (fun _ _=>rfl) fun L hL=>ndG_le (bld_ok hL L.n (Nat.le_refl _)) _ 0 (bld_ok hL L.n (Nat.le_refl _)).n1 (by omega)
end Go.Proofs.Ythappngbapbkfaa.Lto
