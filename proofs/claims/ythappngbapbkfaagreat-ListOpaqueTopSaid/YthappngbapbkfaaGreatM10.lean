/- Part 10 of the texts that the law's proof leans on. -/
import Derived.Test.YthappngbapbkfaaGreatM9
set_option linter.unusedSimpArgs false
set_option linter.unusedVariables false
namespace Go.Proofs.YthappngbapbkfaaGreat.Lpe
open Go.RowKit Sx Num Aff Afi Img Imh Imp Imq Rga Blend Ble Lsg Lta Lrd Lri Luc Lck Lgr Lcs Lst Lch Lcl Lgp Lsc Cmp Lpm Lpa Lpr Lbt Lpn Lpc Lpd
set_option maxRecDepth 100000
structure PnG where
 s:StG
 c:Nat->SV
 nd:Nd
 ns:Nat
 st:Nat->Cl
 bs:Nat->Cl
structure BdOK (g:PnG):Prop where
 y : -8192<=g.s.y/\g.s.y<8192
 x0 : -8192<=g.s.x0
 x1:g.s.x1<=8192
 n:(g.ns:Int)=g.s.x1-g.s.x0
 pos:0<g.ns
 st:∀ i,i<g.ns->isU9 (g.st i)
 bs:∀ i,i<g.ns->isU9 (g.bs i)
structure PtOK (d:Nat) (g:PnG):Prop where
 c:g.c=ndX g.nd
 isg:ndT g.nd=TPg
 n:g.nd.n<=4294967296
 k:∀ a,a<g.nd.n->NdOK d (g.nd.k a)
 b:BdOK g
structure NsOK (d:Nat) (g:PnG):Prop where
 c:g.c=ndX g.nd
 isg:ndT g.nd=TPg
 k:NdOK d g.nd
 b:BdOK g
def PnG.pt (g:PnG) (m i:Nat):Cl:=pntK g.nd.k g.nd.x.knock (g.s.x0+i) g.s.y (g.st i) m
def PnG.nx (g:PnG) (i:Nat):Cl:=g.nd.pnt (g.s.x0+i) g.s.y (g.bs i) (g.st i)
noncomputable def spPt (d:Nat):FSpec:=ad5 41 [.arg 2] (γ:=PnG)
 (fun l o=>match l with | [.agg _ s,r,_]=>some ⟨stD s,aw7 r,ndOf (aw7 r),aG3 (o.getD 0 .dead),stFD (o.getD 0 .dead),stFD (o.getD 0 .dead)⟩ | _=>none)
 (fun g=>[stS g.s,.ref 37 g.c,.osl 0 0]) (fun g=>[stR g.ns g.st]) (PtOK d) (fun _=> .tup 0 (lst [])) (fun g=>[stR g.ns (g.pt g.nd.n)])
noncomputable def spNa (d:Nat):FSpec:=ad5 66 [.arg 3] (γ:=PnG)
 (fun l o=>match l with | [.agg _ s,r,_,_]=>some ⟨stD s,aw7 r,ndOf (aw7 r),aG3 (o.getD 0 .dead),stFD (o.getD 0 .dead),stFD (o.getD 0 .dead)⟩ | _=>none)
 (fun g=>[stS g.s,.ref 37 g.c,.osl 0 0,.osl 0 0]) (fun g=>[stR g.ns g.st]) (fun g=>NsOK d g/\g.bs=g.st) (fun _=> .tup 0 (lst [])) (fun g=>[stR g.ns g.nx])
noncomputable def spNb (d:Nat):FSpec:=ad5 66 [.arg 3,.arg 2] (γ:=PnG)
 (fun l o=>match l with | [.agg _ s,r,_,_]=>some ⟨stD s,aw7 r,ndOf (aw7 r),aG3 (o.getD 0 .dead),stFD (o.getD 0 .dead),stFD (o.getD 1 .dead)⟩ | _=>none)
 (fun g=>[stS g.s,.ref 37 g.c,.osl 1 0,.osl 0 0]) (fun g=>[stR g.ns g.st,stR g.ns g.bs]) (NsOK d) (fun _=> .tup 0 (lst [])) (fun g=>[stR g.ns g.nx,stR g.ns g.bs])
def PnG.cv (g:PnG) (i:Nat):Bool:=g.nd.cov (g.s.x0+i) g.s.y
def PnG.i0 (g:PnG) (i:Nat):Cl:=if g.nd.x.iso=true then (fun _=>0) else g.bs i
def PnG.inn (g:PnG) (i:Nat):Cl:=pntK g.nd.k g.nd.x.knock (g.s.x0+i) g.s.y (g.i0 i) g.nd.n
def PnG.at (g:PnG) (m i:Nat):Cl:=if i<m then g.nx i else g.st i
def nsT (g:PnG) (b k:Nat) (q:Nat):Tmps:=[(1,.ref 37 g.c),(2,.osl b 0),(3,.osl 0 0),(8,.osl (k+1) 0),(9,.osl (k+2) 0),(41,.osl (k+1) 0),(42,.int .i64 g.ns),(43,.int .i64 q)]
def nsO (g:PnG):List SO:=[.cells 3 (lst (stL g.s)) TRp,mkR g.ns g.cv,stR g.ns g.inn]
def naI (g:PnG):Inv:=⟨Nat,fun q=>q<=g.ns,fun q=>⟨nsT g 0 1 q,stR g.ns (g.at q)::nsO g⟩,fun q=>g.ns-q⟩
def nbI (g:PnG):Inv:=⟨Nat,fun q=>q<=g.ns,fun q=>⟨nsT g 1 2 q,stR g.ns (g.at q)::stR g.ns g.bs::nsO g⟩,fun q=>g.ns-q⟩
def nc0 (g:PnG):List SO:=[.cells 3 (lst (stL g.s)) TRp,mkR g.ns g.cv,stR g.ns g.i0]
def naC (g:PnG):Inv:=⟨Unit,fun _=>True,fun _=>⟨[(1,.ref 37 g.c),(2,.osl 0 0),(3,.osl 0 0),(4,.own 1 0),(8,.osl 2 0),(9,.osl 3 0)],stR g.ns g.st::nc0 g⟩,fun _=>0⟩
def nbC (g:PnG):Inv:=⟨Unit,fun _=>True,fun _=>⟨[(1,.ref 37 g.c),(2,.osl 1 0),(3,.osl 0 0),(4,.own 2 0),(8,.osl 3 0),(9,.osl 4 0)],stR g.ns g.st::stR g.ns g.bs::nc0 g⟩,fun _=>0⟩
theorem ns_no {g:PnG}(hg:ndT g.nd=TPg) {i:Nat}(h:g.cv i=false):g.nx i=g.st i:=by
 obtain ⟨s,c,nd,ns,st,bs⟩:=g
 cases nd with
 | fill t x=>exact absurd (show TPf=TPg from hg) (by decide)
 | grp t mx x m k=>
  unfold PnG.cv at h
  unfold PnG.nx Nd.pnt
  unfold Nd.cov at h
  rw [if_neg (by rw [h]; exact Bool.false_ne_true)]
theorem ns_mix {g:PnG}(hg:ndT g.nd=TPg) {i:Nat}(h:g.cv i=true) (hx:g.nd.x.iso=false):g.nx i=(MixG.mk (g.bs i) (g.inn i) g.nd.x.alpha).res:=by
 obtain ⟨s,c,nd,ns,st,bs⟩:=g
 cases nd with
 | fill t x=>exact absurd (show TPf=TPg from hg) (by decide)
 | grp t mx x m k=>
  have hx:x.iso=false:=hx
  have hi0:PnG.i0 ⟨s,c,.grp t mx x m k,ns,st,bs⟩ i=bs i:=by
   show (if x.iso=true then (fun _=>0:Cl) else bs i)=bs i
   rw [if_neg (by rw [hx]; exact Bool.false_ne_true)]
  have hin:PnG.inn ⟨s,c,.grp t mx x m k,ns,st,bs⟩ i=pntK k x.knock (s.x0+i) s.y (bs i) m:=congrArg (fun z=>pntK k x.knock (s.x0+i) s.y z m) hi0
  rw [hin]
  have h1:PnG.nx ⟨s,c,.grp t mx x m k,ns,st,bs⟩ i=if covK k (s.x0+i) s.y m=true then (if x.iso=true then isoC (bs i) (pntK k x.knock (s.x0+i) s.y (fun _=>0) m) x else (MixG.mk (bs i) (pntK k x.knock (s.x0+i) s.y (bs i) m) x.alpha).res) else st i:=rfl
  rw [h1,if_pos (show covK k (s.x0+i) s.y m=true from h),if_neg (by rw [hx]; exact Bool.false_ne_true)]
  rfl
theorem ns_iso {g:PnG}(hg:ndT g.nd=TPg) {i:Nat}(h:g.cv i=true) (hx:g.nd.x.iso=true):g.nx i=isoC (g.bs i) (g.inn i) g.nd.x:=by
 obtain ⟨s,c,nd,ns,st,bs⟩:=g
 cases nd with
 | fill t x=>exact absurd (show TPf=TPg from hg) (by decide)
 | grp t mx x m k=>
  have hx:x.iso=true:=hx
  have hi0:PnG.i0 ⟨s,c,.grp t mx x m k,ns,st,bs⟩ i=fun _=>0:=by
   show (if x.iso=true then (fun _=>0:Cl) else bs i)=_
   rw [if_pos hx]
  have hin:PnG.inn ⟨s,c,.grp t mx x m k,ns,st,bs⟩ i=pntK k x.knock (s.x0+i) s.y (fun _=>0) m:=congrArg (fun z=>pntK k x.knock (s.x0+i) s.y z m) hi0
  rw [hin]
  have h1:PnG.nx ⟨s,c,.grp t mx x m k,ns,st,bs⟩ i=if covK k (s.x0+i) s.y m=true then (if x.iso=true then isoC (bs i) (pntK k x.knock (s.x0+i) s.y (fun _=>0) m) x else (MixG.mk (bs i) (pntK k x.knock (s.x0+i) s.y (bs i) m) x.alpha).res) else st i:=rfl
  rw [h1,if_pos (show covK k (s.x0+i) s.y m=true from h),if_pos hx]
  rfl
theorem aA1 {g:PnG}{q:Nat}{V:Cl}(hV:V=g.nx q) (i j:Nat):(bif decide (i=q/\0<=j/\j<9) then V (j-0) else g.at q i j)=bif decide (j<9) then g.at (q+1) i j else g.at q i j:=by
 by_cases hj:j<9
 ·rw [decide_eq_true hj,cond_true]
  by_cases hi:i=q
  ·rw [decide_eq_true ⟨hi,Nat.zero_le _,hj⟩,cond_true,Nat.sub_zero,hV]
   unfold PnG.at
   rw [if_pos (by omega),hi]
  ·rw [decide_eq_false (fun h=>hi h.1),cond_false]
   unfold PnG.at
   by_cases hc:i<q
   ·rw [if_pos hc,if_pos (by omega)]
   ·rw [if_neg hc,if_neg (by omega)]
 ·rw [decide_eq_false hj,decide_eq_false (fun h=>hj h.2.2),cond_false,cond_false]
theorem ns_skip {g:PnG}(hg:ndT g.nd=TPg) {q:Nat}(h:g.cv q=false) (i:Nat):g.at q i=g.at (q+1) i:=by
 unfold PnG.at
 by_cases hi:i=q
 ·subst hi
  rw [if_neg (by omega),if_pos (by omega),ns_no hg h]
 ·by_cases hc:i<q
  ·rw [if_pos hc,if_pos (by omega)]
  ·rw [if_neg hc,if_neg (by omega)]
theorem ns_here {g:PnG}(q:Nat):g.at q q=g.st q:=if_neg (Nat.lt_irrefl q)
theorem bd_xy {g:PnG}(h:BdOK g) {i:Nat}(hi:i<g.ns):xyOK (g.s.x0+i) g.s.y:=by
 have:=h.n; have:=h.x0; have:=h.x1
 exact ⟨by omega,h.y⟩
theorem i0_u9 {g:PnG}(h:BdOK g) {i:Nat}(hi:i<g.ns):isU9 (g.i0 i):=by
 unfold PnG.i0
 split
 ·exact zero_u9
 ·exact h.bs i hi
theorem inn_u9 {d:Nat}{g:PnG}(h:BdOK g) (hk:∀ a,a<g.nd.n->NdOK d (g.nd.k a)) {i:Nat}(hi:i<g.ns):isU9 (g.inn i):=a16 hk (bd_xy h hi) (i0_u9 h hi) (Nat.le_refl _)
theorem any_cv {mf:Nat->Bool}{n:Nat}(h:¬ 0<=bX mf n 0) {i:Nat}(hi:i<n):mf i=false:=by
 cases hm:mf i with
 | false=>rfl
 | true=>exact absurd ((bX_iff n 0).2 ⟨i,Nat.zero_le _,by omega,hm⟩) h
theorem ok_na0:aa2 Tryz.prog (spNa 0):=by
 refine ad2 (specs:=[]) (aa9 trivial) (eqs:=[]) (fun _ _ h=>(List.not_mem_nil h).elim) Aff.mixed Tryz.func66 rfl (by kernel_rfl) (fun _ _=>by kernel_rfl) (fun g=>A0) true (fun g=>Nat.le_of_ble_eq_true (by kernel_rfl)) ?_
 rintro ⟨s,c,nd,ns,st,bs⟩ ⟨hg,hbs⟩
 have hc:c=ndX nd:=hg.c
 cases hg.k with
 | fill h hv=>exact absurd (show TPf=TPg from hg.isg) (by decide)
set_option maxHeartbeats 1000000 in
theorem ok_na {d:Nat}(hp:aa2 Tryz.prog (spPt d)):aa2 Tryz.prog (spNa (d+1)):=by
 refine ad2 (specs:=[spCv (d+1),lend spConB,spPt d,aw4,aF8,aF7]) (aa9 (⟨ok_cv (d+1),lend_ok ok_conB,hp,aw9,aG8,aD7,trivial⟩)) (eqs:=[]) (fun _ _ h=>(List.not_mem_nil h).elim) Aff.mixed Tryz.func66 rfl (by kernel_rfl) (fun _ _=>by kernel_rfl) (fun g=>(⟨[(7,.cut (naC g)),(9,.inv (naI g))],[]⟩:Ann)) true (fun g=>Nat.le_of_ble_eq_true (by kernel_rfl)) ?_
 rintro ⟨s,c,nd,ns,st,bs⟩ ⟨hg,hbs⟩
 have hc:c=ndX nd:=hg.c
 have hbs:st=bs:=hbs.symm
 subst hbs
 cases hg.k with
 | fill h hv=>exact absurd (show TPf=TPg from hg.isg) (by decide)
 | grp hn hm ha hb hk=>
  rename_i t mx x m k
  subst hm
  rw [aj3] at hc
  subst hc
  refine ab5 (B:=let T2:=fun p:Prop=>True/\True/\p;let T5:=fun p:Prop=>True/\True/\True/\True/\True/\p;let T6:=fun p:Prop=>True/\True/\True/\True/\True/\True/\p;let V:=fun p:Sx.SV=>Sx.SVle [] [] p p;let J:=IntKind.i64;let K:=Sx.Br;let A:=Sx.Ask;let z48:=(86:Go.FuncId);let z47:=(112:Go.FuncId);let z45:=(9223372036854775807:Int);let z43:=(Blend.aa6 x.blend.toNat=Blend.aa6 x.blend.toNat);let z39:=(ns=ns);let z34:=(↑ns:Int);let z32:=(9:Nat);let z30:=(A (z48=z48)/\T2 (A (z47=z47)/\T2 (A z43/\True)));let z29:=(8:Nat);let z28:=(7:Nat);let z27:=(6:Nat);let z26:=(5:Nat);let z25:=(4:Nat);let z24:=(3:Nat);let z23:=(2:Nat);let z21:=(0:Int);let z44:=(z21=z21);let z16:=(1:Nat);let z14:=(J=J);let q14:=fun p:Int=>A z14/\A (p=p);let z31:=(q14 z34);let z22:=(((Lsg.qT True x x)/\q14 t)/\A (z48=z48)/\T2 (A (z47=z47)/\T2 (A z43/\True)));let z9:=(0:Nat);let z46:=(z9+z9);let z8:=(((True/\q14 s.y)/\q14 s.x0)/\q14 s.x1);let z4:=(IntKind.u8=IntKind.u8);let q4:=fun p:Int=>A z4/\A (p=p);let z49:=(q4 x.alpha);let z12:=(A z39/\∀ i:Nat,i<ns->(((((((((True/\q4 (st i z9))/\q4 (st i z16))/\q4 (st i z23))/\q4 (st i z24))/\q4 (st i z25))/\q4 (st i z26))/\q4 (st i z27))/\q4 (st i z28))/\q4 (st i z29)));let z2:=(Sx.lst (Lsg.itL x++[Sx.SV.int J t,Lpn.mxS x false,Sx.SV.sl m z16 fun (a x:Nat)=>Sx.SV.ifc (Lpn.ndT (k a)) fun (x:Nat)=>Sx.SV.ref (37:Nat) (Lpn.ndX (k a))]));let z36:=(Lpn.ndOf z2);let z20:=(Lpc.CvG.mk s z2 z36 ns fun (i:Nat)=>false);let z1:=(z22/\A (m=m)/\∀ i:Nat,i<m->True/\A (Lpn.ndT (k i)=Lpn.ndT (k i))/\((((((((((((((((((((((((((((((((((((True/\V (Lpn.ndX (k i) 0))/\V (Lpn.ndX (k i) 1))/\V (Lpn.ndX (k i) 2))/\V (Lpn.ndX (k i) 3))/\V (Lpn.ndX (k i) 4))/\V (Lpn.ndX (k i) 5))/\V (Lpn.ndX (k i) 6))/\V (Lpn.ndX (k i) 7))/\V (Lpn.ndX (k i) 8))/\V (Lpn.ndX (k i) 9))/\V (Lpn.ndX (k i) (10:Nat)))/\V (Lpn.ndX (k i) (11:Nat)))/\V (Lpn.ndX (k i) (12:Nat)))/\V (Lpn.ndX (k i) (13:Nat)))/\V (Lpn.ndX (k i) (14:Nat)))/\V (Lpn.ndX (k i) (15:Nat)))/\V (Lpn.ndX (k i) (16:Nat)))/\V (Lpn.ndX (k i) (17:Nat)))/\V (Lpn.ndX (k i) (18:Nat)))/\V (Lpn.ndX (k i) (19:Nat)))/\V (Lpn.ndX (k i) (20:Nat)))/\V (Lpn.ndX (k i) (21:Nat)))/\V (Lpn.ndX (k i) (22:Nat)))/\V (Lpn.ndX (k i) (23:Nat)))/\V (Lpn.ndX (k i) (24:Nat)))/\V (Lpn.ndX (k i) (25:Nat)))/\V (Lpn.ndX (k i) (26:Nat)))/\V (Lpn.ndX (k i) (27:Nat)))/\V (Lpn.ndX (k i) (28:Nat)))/\V (Lpn.ndX (k i) (29:Nat)))/\V (Lpn.ndX (k i) (30:Nat)))/\V (Lpn.ndX (k i) (31:Nat)))/\V (Lpn.ndX (k i) (32:Nat)))/\V (Lpn.ndX (k i) (33:Nat)))/\V (Lpn.ndX (k i) (34:Nat)))/\V (Lpn.ndX (k i) (35:Nat)))/\V (Lpn.ndX (k i) (36:Nat)));let z41:=(z1/\T2 (A (z9=z9)/\T2 (True)));let z0:=(PnG.mk s z2 (Lpn.Nd.grp t false x m k) ns st st);let z38:=(A z39/\∀ i:Nat,i<ns->True/\A (z20.fin i=z0.cv i));let z18:=(A z39/\∀ i:Nat,i<ns->True/\A (z0.cv i=z0.cv i));let z13:=(PnG.mk s z2 z36 ns z0.i0 z0.i0);let z7:=(A z39/\∀ i:Nat,i<ns->(((((((((True/\q4 (z0.inn i z9))/\q4 (z0.inn i z16))/\q4 (z0.inn i z23))/\q4 (z0.inn i z24))/\q4 (z0.inn i z25))/\q4 (z0.inn i z26))/\q4 (z0.inn i z27))/\q4 (z0.inn i z28))/\q4 (z0.inn i z29)));T2 (True/\A (z21<=z34/\z34<=z34/\(↑z16:Int)*z34<=(140737488355328:Int)/\z34<=z45)/\T5 (((True/\(z8/\(A ((73:Nat)=Lpn.ndT z36)/\z22/\A (m=m)/\∀ i:Nat,i<m->True/\A (Lpn.ndT (k i)=Lpn.ndT (k i))/\((((((((((((((((((((((((((((((((((((True/\V (Lpn.ndX (k i) 0))/\V (Lpn.ndX (k i) 1))/\V (Lpn.ndX (k i) 2))/\V (Lpn.ndX (k i) 3))/\V (Lpn.ndX (k i) 4))/\V (Lpn.ndX (k i) 5))/\V (Lpn.ndX (k i) 6))/\V (Lpn.ndX (k i) 7))/\V (Lpn.ndX (k i) 8))/\V (Lpn.ndX (k i) 9))/\V (Lpn.ndX (k i) (10:Nat)))/\V (Lpn.ndX (k i) (11:Nat)))/\V (Lpn.ndX (k i) (12:Nat)))/\V (Lpn.ndX (k i) (13:Nat)))/\V (Lpn.ndX (k i) (14:Nat)))/\V (Lpn.ndX (k i) (15:Nat)))/\V (Lpn.ndX (k i) (16:Nat)))/\V (Lpn.ndX (k i) (17:Nat)))/\V (Lpn.ndX (k i) (18:Nat)))/\V (Lpn.ndX (k i) (19:Nat)))/\V (Lpn.ndX (k i) (20:Nat)))/\V (Lpn.ndX (k i) (21:Nat)))/\V (Lpn.ndX (k i) (22:Nat)))/\V (Lpn.ndX (k i) (23:Nat)))/\V (Lpn.ndX (k i) (24:Nat)))/\V (Lpn.ndX (k i) (25:Nat)))/\V (Lpn.ndX (k i) (26:Nat)))/\V (Lpn.ndX (k i) (27:Nat)))/\V (Lpn.ndX (k i) (28:Nat)))/\V (Lpn.ndX (k i) (29:Nat)))/\V (Lpn.ndX (k i) (30:Nat)))/\V (Lpn.ndX (k i) (31:Nat)))/\V (Lpn.ndX (k i) (32:Nat)))/\V (Lpn.ndX (k i) (33:Nat)))/\V (Lpn.ndX (k i) (34:Nat)))/\V (Lpn.ndX (k i) (35:Nat)))/\V (Lpn.ndX (k i) (36:Nat)))/\True/\True)/\(A (z34.toNat=ns)/\∀ i:Nat,i<ns->True/\A (false=false))/\True)/\A (Lpc.CvOK (d+z16) z20))/\True/\(((A z39/\∀ i:Nat,i<ns->True/\A (z20.fin i=z20.fin i))/\A (true=true)/\True)/\A (ns<=(4294967296:Nat)))/\True/\K (!decide (z21<=Lpd.bX z20.fin ns z9)) (T2 ((True/\True)/\(A z39/\∀ i:Nat,i<ns->(((((((((True/\A z4/\A (st i z9=z0.nx i z9))/\A z4/\A (st i z16=z0.nx i z16))/\A z4/\A (st i z23=z0.nx i z23))/\A z4/\A (st i z24=z0.nx i z24))/\A z4/\A (st i z25=z0.nx i z25))/\A z4/\A (st i z26=z0.nx i z26))/\A z4/\A (st i z27=z0.nx i z27))/\A z4/\A (st i z28=z0.nx i z28))/\A z4/\A (st i z29=z0.nx i z29)))/\True)) (T2 (A (z21<=z34/\z34<=z34/\(↑z32:Int)*z34<=(140737488355328:Int)/\z34<=z45)/\True/\(T6 (K (!x.iso) (T2 (True/\∃ g:Unit,A ((naC z0).pre g)/\True/\z41/\z12/\z8/\z38/\(A (z34.toNat=ns)/\∀ i:Nat,let z15:=(z9<=i/\i<z9+ns.min z34.toNat); i<ns->(((((((((True/\A z4/\A ((bif decide z15 then st (i-z9) z9 else z21)=z0.i0 i z9))/\A z4/\A ((bif decide z15 then st (i-z9) z16 else z21)=z0.i0 i z16))/\A z4/\A ((bif decide z15 then st (i-z9) z23 else z21)=z0.i0 i z23))/\A z4/\A ((bif decide z15 then st (i-z9) z24 else z21)=z0.i0 i z24))/\A z4/\A ((bif decide z15 then st (i-z9) z25 else z21)=z0.i0 i z25))/\A z4/\A ((bif decide z15 then st (i-z9) z26 else z21)=z0.i0 i z26))/\A z4/\A ((bif decide z15 then st (i-z9) z27 else z21)=z0.i0 i z27))/\A z4/\A ((bif decide z15 then st (i-z9) z28 else z21)=z0.i0 i z28))/\A z4/\A ((bif decide z15 then st (i-z9) z29 else z21)=z0.i0 i z29)))/\True)) (∃ g:Unit,A ((naC z0).pre g)/\True/\z41/\z12/\z8/\z38/\(A (z34.toNat=ns)/\∀ i:Nat,i<ns->(((((((((True/\A z4/\A (z21=z0.i0 i z9))/\A z4/\A (z21=z0.i0 i z16))/\A z4/\A (z21=z0.i0 i z23))/\A z4/\A (z21=z0.i0 i z24))/\A z4/\A (z21=z0.i0 i z25))/\A z4/\A (z21=z0.i0 i z26))/\A z4/\A (z21=z0.i0 i z27))/\A z4/\A (z21=z0.i0 i z28))/\A z4/\A (z21=z0.i0 i z29)))/\True)))/\∀ g:Unit,(naC z0).pre g->T2 (True/\((True/\(z8/\z1/\True/\True)/\(A z39/\∀ i:Nat,i<ns->(((((((((True/\q4 (z0.i0 i z9))/\q4 (z0.i0 i z16))/\q4 (z0.i0 i z23))/\q4 (z0.i0 i z24))/\q4 (z0.i0 i z25))/\q4 (z0.i0 i z26))/\q4 (z0.i0 i z27))/\q4 (z0.i0 i z28))/\q4 (z0.i0 i z29)))/\True)/\A (PtOK d z13))/\T2 (True/\(∃ g:Nat,A ((naI z0).pre g)/\True/\(z1/\T5 (z31/\(A z14/\A (z21=(↑g:Int)))/\True))/\(A z39/\∀ i:Nat,i<ns->(((((((((True/\A z4/\A (st i z9=z0.at g i z9))/\A z4/\A (st i z16=z0.at g i z16))/\A z4/\A (st i z23=z0.at g i z23))/\A z4/\A (st i z24=z0.at g i z24))/\A z4/\A (st i z25=z0.at g i z25))/\A z4/\A (st i z26=z0.at g i z26))/\A z4/\A (st i z27=z0.at g i z27))/\A z4/\A (st i z28=z0.at g i z28))/\A z4/\A (st i z29=z0.at g i z29)))/\z8/\z18/\(A z39/\∀ i:Nat,i<ns->(((((((((True/\A z4/\A (z13.pt z36.n i z9=z0.inn i z9))/\A z4/\A (z13.pt z36.n i z16=z0.inn i z16))/\A z4/\A (z13.pt z36.n i z23=z0.inn i z23))/\A z4/\A (z13.pt z36.n i z24=z0.inn i z24))/\A z4/\A (z13.pt z36.n i z25=z0.inn i z25))/\A z4/\A (z13.pt z36.n i z26=z0.inn i z26))/\A z4/\A (z13.pt z36.n i z27=z0.inn i z27))/\A z4/\A (z13.pt z36.n i z28=z0.inn i z28))/\A z4/\A (z13.pt z36.n i z29=z0.inn i z29)))/\True)/\∀ g:Nat,let z11:=(↑g:Int);let z42:=(z0.inn z11.toNat z46=z0.inn z11.toNat z46);let z37:=(fun (j:Nat)=>z0.at g z11.toNat (z9+j));let z35:=(z11.toNat<ns);let z33:=(z0.inn z11.toNat z46);let z40:=(q4 (ab2 z33 x.alpha));let z19:=((-9223372036854775808:Int)<=z11+(1:Int)/\z11+(1:Int)<=z45);let z17:=(z21<=z11/\z11<z34);let z10:=(Lbt.MixG.mk z37 (fun (j:Nat)=>z0.inn z11.toNat (z9+j)) x.alpha);let z6:=(((((((((True/\q4 (z0.at g z11.toNat z46))/\q4 (z0.at g z11.toNat (z9+z16)))/\q4 (z0.at g z11.toNat (z9+z23)))/\q4 (z0.at g z11.toNat (z9+z24)))/\q4 (z0.at g z11.toNat (z9+z25)))/\q4 (z0.at g z11.toNat (z9+z26)))/\q4 (z0.at g z11.toNat (z9+z27)))/\q4 (z0.at g z11.toNat (z9+z28)))/\q4 (z0.at g z11.toNat (z9+z29)));let z5:=(Cmp.PaintG.mk z37 (fun (j:Nat)=>z0.inn z11.toNat (z9+z16+(z9+j))) (ab2 z33 x.alpha) (Blend.aa6 x.blend.toNat) false);let z3:=(Cmp.PaintG.mk z37 (fun (j:Nat)=>Sx.intOf (Sx.ak0 [Go.Value.int IntKind.u8 z21,Go.Value.int IntKind.u8 z21,Go.Value.int IntKind.u8 z21,Go.Value.int IntKind.u8 z21,Go.Value.int IntKind.u8 z21,Go.Value.int IntKind.u8 z21,Go.Value.int IntKind.u8 z21,Go.Value.int IntKind.u8 z21] (z9+j))) (ab2 z33 x.alpha) (Blend.aa6 x.blend.toNat) false); (naI z0).pre g->True/\K (decide (z11<z34)) (True/\A z17/\A z35/\T2 (T2 (K (!z0.cv z11.toNat) (A z19/\True/\∃ (g':Nat),A ((naI z0).pre g')/\True/\((z1/\T5 (z31/\(A z14/\A (z11+(1:Int)=(↑g':Int)))/\True))/\(A z39/\∀ i:Nat,i<ns->(((((((((True/\A z4/\A (z0.at g i z9=z0.at g' i z9))/\A z4/\A (z0.at g i z16=z0.at g' i z16))/\A z4/\A (z0.at g i z23=z0.at g' i z23))/\A z4/\A (z0.at g i z24=z0.at g' i z24))/\A z4/\A (z0.at g i z25=z0.at g' i z25))/\A z4/\A (z0.at g i z26=z0.at g' i z26))/\A z4/\A (z0.at g i z27=z0.at g' i z27))/\A z4/\A (z0.at g i z28=z0.at g' i z28))/\A z4/\A (z0.at g i z29=z0.at g' i z29)))/\z8/\z18/\z7/\True)/\A ((naI z0).meas g'<(naI z0).meas g)) (T6 (K (!x.iso) (T2 (T2 (A z17/\A z35/\T2 (A z17/\A z35/\T5 (((z6/\(((((((((True/\A z4/\A z42)/\q4 (z0.inn z11.toNat (z9+z16)))/\q4 (z0.inn z11.toNat (z9+z23)))/\q4 (z0.inn z11.toNat (z9+z24)))/\q4 (z0.inn z11.toNat (z9+z25)))/\q4 (z0.inn z11.toNat (z9+z26)))/\q4 (z0.inn z11.toNat (z9+z27)))/\q4 (z0.inn z11.toNat (z9+z28)))/\q4 (z0.inn z11.toNat (z9+z29)))/\z49/\True)/\A z10.ok)/\A z17/\A z35/\A z19/\True/\∃ (g':Nat),A ((naI z0).pre g')/\True/\((z1/\T5 (z31/\(A z14/\A (z11+(1:Int)=(↑g':Int)))/\True))/\(A z39/\∀ i:Nat,i<ns->(((((((((True/\A z4/\A ((bif decide (i=z11.toNat/\z9<=z9/\z9<z9+z32) then z10.res (z9-z9) else z0.at g i z9)=z0.at g' i z9))/\A z4/\A ((bif decide (i=z11.toNat/\z9<=z16/\z16<z9+z32) then z10.res (z16-z9) else z0.at g i z16)=z0.at g' i z16))/\A z4/\A ((bif decide (i=z11.toNat/\z9<=z23/\z23<z9+z32) then z10.res (z23-z9) else z0.at g i z23)=z0.at g' i z23))/\A z4/\A ((bif decide (i=z11.toNat/\z9<=z24/\z24<z9+z32) then z10.res (z24-z9) else z0.at g i z24)=z0.at g' i z24))/\A z4/\A ((bif decide (i=z11.toNat/\z9<=z25/\z25<z9+z32) then z10.res (z25-z9) else z0.at g i z25)=z0.at g' i z25))/\A z4/\A ((bif decide (i=z11.toNat/\z9<=z26/\z26<z9+z32) then z10.res (z26-z9) else z0.at g i z26)=z0.at g' i z26))/\A z4/\A ((bif decide (i=z11.toNat/\z9<=z27/\z27<z9+z32) then z10.res (z27-z9) else z0.at g i z27)=z0.at g' i z27))/\A z4/\A ((bif decide (i=z11.toNat/\z9<=z28/\z28<z9+z32) then z10.res (z28-z9) else z0.at g i z28)=z0.at g' i z28))/\A z4/\A ((bif decide (i=z11.toNat/\z9<=z29/\z29<z9+z32) then z10.res (z29-z9) else z0.at g i z29)=z0.at g' i z29)))/\z8/\z18/\z7/\True)/\A ((naI z0).meas g'<(naI z0).meas g)))))) (T2 (A z17/\True/\A z35/\T5 ((((A z4/\A z42)/\z49/\True)/\A ((z21<=z0.inn z11.toNat z46/\z0.inn z11.toNat z46<=(255:Int))/\z21<=x.alpha/\x.alpha<=(255:Int)))/\T2 (A z17/\True/\A z35/\T5 (K (decide (ab2 z33 x.alpha=z21)) (T6 (A z17/\A z35/\T6 (((z6/\((((((((True/\A z4/\A z44)/\A z4/\A z44)/\A z4/\A z44)/\A z4/\A z44)/\A z4/\A z44)/\A z4/\A z44)/\A z4/\A z44)/\A z4/\A z44)/\z40/\z30/\A (false=false)/\True)/\A z3.ok)/\A z17/\A z35/\A z19/\True/\∃ (g':Nat),A ((naI z0).pre g')/\True/\((z1/\T5 (z31/\(A z14/\A (z11+(1:Int)=(↑g':Int)))/\True))/\(A z39/\∀ i:Nat,i<ns->(((((((((True/\A z4/\A ((bif decide (i=z11.toNat/\z9<=z9/\z9<z9+z32) then z3.res (z9-z9) else z0.at g i z9)=z0.at g' i z9))/\A z4/\A ((bif decide (i=z11.toNat/\z9<=z16/\z16<z9+z32) then z3.res (z16-z9) else z0.at g i z16)=z0.at g' i z16))/\A z4/\A ((bif decide (i=z11.toNat/\z9<=z23/\z23<z9+z32) then z3.res (z23-z9) else z0.at g i z23)=z0.at g' i z23))/\A z4/\A ((bif decide (i=z11.toNat/\z9<=z24/\z24<z9+z32) then z3.res (z24-z9) else z0.at g i z24)=z0.at g' i z24))/\A z4/\A ((bif decide (i=z11.toNat/\z9<=z25/\z25<z9+z32) then z3.res (z25-z9) else z0.at g i z25)=z0.at g' i z25))/\A z4/\A ((bif decide (i=z11.toNat/\z9<=z26/\z26<z9+z32) then z3.res (z26-z9) else z0.at g i z26)=z0.at g' i z26))/\A z4/\A ((bif decide (i=z11.toNat/\z9<=z27/\z27<z9+z32) then z3.res (z27-z9) else z0.at g i z27)=z0.at g' i z27))/\A z4/\A ((bif decide (i=z11.toNat/\z9<=z28/\z28<z9+z32) then z3.res (z28-z9) else z0.at g i z28)=z0.at g' i z28))/\A z4/\A ((bif decide (i=z11.toNat/\z9<=z29/\z29<z9+z32) then z3.res (z29-z9) else z0.at g i z29)=z0.at g' i z29)))/\z8/\z18/\z7/\True)/\A ((naI z0).meas g'<(naI z0).meas g)))) (T2 (T2 (A z17/\A z35/\T6 (((z6/\((((((((True/\q4 (z0.inn z11.toNat (z9+z16+z46)))/\q4 (z0.inn z11.toNat (z9+z16+(z9+z16))))/\q4 (z0.inn z11.toNat (z9+z16+(z9+z23))))/\q4 (z0.inn z11.toNat (z9+z16+(z9+z24))))/\q4 (z0.inn z11.toNat (z9+z16+(z9+z25))))/\q4 (z0.inn z11.toNat (z9+z16+(z9+z26))))/\q4 (z0.inn z11.toNat (z9+z16+(z9+z27))))/\q4 (z0.inn z11.toNat (z9+z16+(z9+z28))))/\z40/\z30/\A (false=false)/\True)/\A z5.ok)/\A z17/\A z35/\A z19/\True/\∃ (g':Nat),A ((naI z0).pre g')/\True/\((z1/\T5 (z31/\(A z14/\A (z11+(1:Int)=(↑g':Int)))/\True))/\(A z39/\∀ i:Nat,i<ns->(((((((((True/\A z4/\A ((bif decide (i=z11.toNat/\z9<=z9/\z9<z9+z32) then z5.res (z9-z9) else z0.at g i z9)=z0.at g' i z9))/\A z4/\A ((bif decide (i=z11.toNat/\z9<=z16/\z16<z9+z32) then z5.res (z16-z9) else z0.at g i z16)=z0.at g' i z16))/\A z4/\A ((bif decide (i=z11.toNat/\z9<=z23/\z23<z9+z32) then z5.res (z23-z9) else z0.at g i z23)=z0.at g' i z23))/\A z4/\A ((bif decide (i=z11.toNat/\z9<=z24/\z24<z9+z32) then z5.res (z24-z9) else z0.at g i z24)=z0.at g' i z24))/\A z4/\A ((bif decide (i=z11.toNat/\z9<=z25/\z25<z9+z32) then z5.res (z25-z9) else z0.at g i z25)=z0.at g' i z25))/\A z4/\A ((bif decide (i=z11.toNat/\z9<=z26/\z26<z9+z32) then z5.res (z26-z9) else z0.at g i z26)=z0.at g' i z26))/\A z4/\A ((bif decide (i=z11.toNat/\z9<=z27/\z27<z9+z32) then z5.res (z27-z9) else z0.at g i z27)=z0.at g' i z27))/\A z4/\A ((bif decide (i=z11.toNat/\z9<=z28/\z28<z9+z32) then z5.res (z28-z9) else z0.at g i z28)=z0.at g' i z28))/\A z4/\A ((bif decide (i=z11.toNat/\z9<=z29/\z29<z9+z32) then z5.res (z29-z9) else z0.at g i z29)=z0.at g' i z29)))/\z8/\z18/\z7/\True)/\A ((naI z0).meas g'<(naI z0).meas g))))))))))))))) (T2 ((True/\True)/\(A z39/\∀ i:Nat,i<ns->(((((((((True/\A z4/\A (z0.at g i z9=z0.nx i z9))/\A z4/\A (z0.at g i z16=z0.nx i z16))/\A z4/\A (z0.at g i z23=z0.nx i z23))/\A z4/\A (z0.at g i z24=z0.nx i z24))/\A z4/\A (z0.at g i z25=z0.nx i z25))/\A z4/\A (z0.at g i z26=z0.nx i z26))/\A z4/\A (z0.at g i z27=z0.nx i z27))/\A z4/\A (z0.at g i z28=z0.nx i z28))/\A z4/\A (z0.at g i z29=z0.nx i z29)))/\True))))))))) (by kernel_rfl) ?_
  delta Lsg.qG Lsg.qI Lsg.qM Lsg.qS Lsg.qT
  simp only [aa4,aa8,eq_self,true_and,and_true,implies_true,forall_const,decide_eq_true_eq,decide_eq_false_iff_not,ne_eq,Nat.mul_one,Nat.add_zero,Nat.zero_add]
  have hs:∀ nd j,SVle [] [] (ndX nd j) (ndX nd j)=True:=fun nd j=>eq_true (SVle.refl [] [] (an7 nd j))
  have e:ndOf (lst (itL x++[.int .i64 t,mxS x false,.sl m 1 (fun a _=> .ifc (ndT (k a)) (fun _=> .ref 37 (ndX (k a))))])) = .grp t false x m k:=by rw [<-aj3]; exact aq0 _
  simp only [e,hs,Int.toNat_natCast,and_self,and_true,true_and,implies_true,zf8]
  have hc:(lst (itL x++[.int .i64 t,mxS x false,.sl m 1 (fun a _=> .ifc (ndT (k a)) (fun _=> .ref 37 (ndX (k a))))]))=ndX (.grp t false x m k):=(aj3 _ _ _ _ _).symm
  have hb':=hg.b
  generalize lst (itL x++[.int .i64 t,mxS x false,.sl m 1 (fun a _=> .ifc (ndT (k a)) (fun _=> .ref 37 (ndX (k a))))])=C at *
  have hn1:(ns:Int)=s.x1-s.x0:=hb'.n
  have hn2 : -8192<=s.x0:=hb'.x0
  have hn3:s.x1<=8192:=hb'.x1
  have hn4:0<ns:=hb'.pos
  have hnd:NdOK (d+1) (.grp t false x m k):= .grp hn rfl ha hb hk
  have hcv:CvOK (d+1) ⟨s,C,.grp t false x m k,ns,fun _=>false⟩:=⟨hc,hnd,hn2,hn3,hn1⟩
  have hfin:∀ i,CvG.fin ⟨s,C,.grp t false x m k,ns,fun _=>false⟩ i=PnG.cv ⟨s,C,.grp t false x m k,ns,st,st⟩ i:=fun i=>Bool.false_or _
  refine ⟨by omega,⟨rfl,hcv⟩,by omega,fun hno i hi=>?_,fun hyes=>⟨by omega,⟨fun hx=>⟨(),trivial,fun i _=>hfin i,fun i hi=>?_⟩,fun hx=>⟨(),trivial,fun i _=>hfin i,fun i hi=>?_⟩⟩,fun _ _=>?_⟩⟩
  ·have hno:PnG.nx ⟨s,C,.grp t false x m k,ns,st,st⟩ i=st i:=ns_no (g:=⟨s,C,.grp t false x m k,ns,st,st⟩) rfl ((hfin i).symm.trans (any_cv (n:=ns) (by simpa using hno) hi))
   have h0:∀ j,st i j=PnG.nx ⟨s,C,.grp t false x m k,ns,st,st⟩ i j:=fun j=>(congrFun hno j).symm
   exact all9 h0
  ·have hx:x.iso=false:=by simpa using hx
   have h0:∀ j,(bif decide (0<=i/\i<ns.min ns) then st (i-0) j else 0)=PnG.i0 ⟨s,C,.grp t false x m k,ns,st,st⟩ i j:=fun j=>by
    have hi0:PnG.i0 ⟨s,C,.grp t false x m k,ns,st,st⟩ i=st i:=if_neg (show ¬ x.iso=true by rw [hx]; exact Bool.false_ne_true)
    have hmin:i<Nat.min ns ns:=by rw [show Nat.min ns ns=ns from Nat.min_self ns]; exact hi
    rw [decide_eq_true ⟨Nat.zero_le _,hmin⟩,hi0]
    rfl
   exact all9 h0
  ·have hx:x.iso=true:=by simpa using hx
   have h0:∀ j,(0:Int)=PnG.i0 ⟨s,C,.grp t false x m k,ns,st,st⟩ i j:=fun j=>(congrFun (show PnG.i0 ⟨s,C,.grp t false x m k,ns,st,st⟩ i=fun _=>0 from if_pos hx) j).symm
   exact all9 h0
  have hu:=fun i (hi:i<ns)=>inn_u9 (g:=⟨s,C,.grp t false x m k,ns,st,st⟩) hb' hk hi
  have hbd:BdOK ⟨s,C,.grp t false x m k,ns,PnG.i0 ⟨s,C,.grp t false x m k,ns,st,st⟩,PnG.i0 ⟨s,C,.grp t false x m k,ns,st,st⟩⟩:=⟨hb'.y,hn2,hn3,hn1,hn4,fun i hi=>i0_u9 hb' hi,fun i hi=>i0_u9 hb' hi⟩
  refine ⟨⟨hc,rfl,hn,hk,hbd⟩,⟨0,Nat.zero_le _,rfl,fun i _=>all9 fun j=>(congrFun (if_neg (Nat.not_lt_zero i)) j).symm,fun i _=>all9 fun j=>rfl⟩,fun q hq=>⟨fun hlt=>?_,fun hge i hi=>?_⟩⟩
  ·have hlt:q<ns:=by omega
   have hld:(fun j=>PnG.at ⟨s,C,.grp t false x m k,ns,st,st⟩ q q j)=st q:=ns_here q
   have hbq:isU9 (st q):=hb'.bs q hlt
   have hiq:=hu q hlt
   have hmm:ns-(q+1)<ns-q:=by omega
   simp only [hld]
   refine ⟨by omega,hlt,fun hm=>⟨by omega,q+1,hlt,⟨by simp,fun i _=>all9 fun j=>congrFun (ns_skip (g:=⟨s,C,.grp t false x m k,ns,st,st⟩) rfl (by simpa using hm) i) j⟩,hmm⟩,fun hm=>⟨fun hx=>?_,fun hx=>?_⟩⟩
   ·have hm:PnG.cv ⟨s,C,.grp t false x m k,ns,st,st⟩ q=true:=by simpa using hm
    have hx:x.iso=false:=by simpa using hx
    have hV:(MixG.mk (st q) (PnG.inn ⟨s,C,.grp t false x m k,ns,st,st⟩ q) x.alpha).res=PnG.nx ⟨s,C,.grp t false x m k,ns,st,st⟩ q:=(ns_mix (g:=⟨s,C,.grp t false x m k,ns,st,st⟩) rfl hm hx).symm
    have st9:=fun i=>aA1 hV i
    exact ⟨by omega,hlt,by omega,hlt,⟨⟨hbq,hiq⟩,ha⟩,by omega,hlt,by omega,q+1,hlt,⟨by simp,fun i hi=>⟨⟨⟨⟨⟨⟨⟨⟨st9 i 0,st9 i 1⟩,st9 i 2⟩,st9 i 3⟩,st9 i 4⟩,st9 i 5⟩,st9 i 6⟩,st9 i 7⟩,st9 i 8⟩⟩,hmm⟩
   ·have hm:PnG.cv ⟨s,C,.grp t false x m k,ns,st,st⟩ q=true:=by simpa using hm
    have hx:x.iso=true:=by simpa using hx
    have hV:isoC (st q) (PnG.inn ⟨s,C,.grp t false x m k,ns,st,st⟩ q) x=PnG.nx ⟨s,C,.grp t false x m k,ns,st,st⟩ q:=(ns_iso (g:=⟨s,C,.grp t false x m k,ns,st,st⟩) rfl hm hx).symm
    have hok:=a56 hbq hiq ha hb
    unfold isoC at hV
    refine ⟨by omega,hlt,⟨hiq 0,ha⟩,by omega,hlt,fun hz=>?_,fun hz=>?_⟩
    ·rw [if_pos hz] at hV hok
     have st9:=fun i=>aA1 hV i
     exact ⟨by omega,hlt,hok,by omega,hlt,by omega,q+1,hlt,⟨by simp,fun i hi=>⟨⟨⟨⟨⟨⟨⟨⟨st9 i 0,st9 i 1⟩,st9 i 2⟩,st9 i 3⟩,st9 i 4⟩,st9 i 5⟩,st9 i 6⟩,st9 i 7⟩,st9 i 8⟩⟩,hmm⟩
    ·rw [if_neg hz] at hV hok
     have st9:=fun i=>aA1 hV i
     exact ⟨by omega,hlt,hok,by omega,hlt,by omega,q+1,hlt,⟨by simp,fun i hi=>⟨⟨⟨⟨⟨⟨⟨⟨st9 i 0,st9 i 1⟩,st9 i 2⟩,st9 i 3⟩,st9 i 4⟩,st9 i 5⟩,st9 i 6⟩,st9 i 7⟩,st9 i 8⟩⟩,hmm⟩
  ·have hq:q<=ns:=hq
   have h0:∀ j,PnG.at ⟨s,C,.grp t false x m k,ns,st,st⟩ q i j=PnG.nx ⟨s,C,.grp t false x m k,ns,st,st⟩ i j:=fun j=>congrFun (if_pos (by omega)) j
   exact all9 h0
theorem ok_nb0:aa2 Tryz.prog (spNb 0):=by
 refine ad2 (specs:=[]) (aa9 trivial) (eqs:=[]) (fun _ _ h=>(List.not_mem_nil h).elim) Aff.mixed Tryz.func66 rfl (by kernel_rfl) (fun _ _=>by kernel_rfl) (fun g=>A0) true (fun g=>Nat.le_of_ble_eq_true (by kernel_rfl)) ?_
 rintro ⟨s,c,nd,ns,st,bs⟩ hg
 cases hg.k with
 | fill h hv=>exact absurd (show TPf=TPg from hg.isg) (by decide)
set_option maxHeartbeats 1000000 in
theorem ok_nb {d:Nat}(hp:aa2 Tryz.prog (spPt d)):aa2 Tryz.prog (spNb (d+1)):=by
 refine ad2 (specs:=[spCv (d+1),lend spConB,spPt d,aw4,aF8,aF7]) (aa9 (⟨ok_cv (d+1),lend_ok ok_conB,hp,aw9,aG8,aD7,trivial⟩)) (eqs:=[]) (fun _ _ h=>(List.not_mem_nil h).elim) Aff.mixed Tryz.func66 rfl (by kernel_rfl) (fun _ _=>by kernel_rfl) (fun g=>(⟨[(7,.cut (nbC g)),(9,.inv (nbI g))],[]⟩:Ann)) true (fun g=>Nat.le_of_ble_eq_true (by kernel_rfl)) ?_
 rintro ⟨s,c,nd,ns,st,bs⟩ hg
 have hc:c=ndX nd:=hg.c
 cases hg.k with
 | fill h hv=>exact absurd (show TPf=TPg from hg.isg) (by decide)
 | grp hn hm ha hb hk=>
  rename_i t mx x m k
  subst hm
  rw [aj3] at hc
  subst hc
  refine ab5 (B:=let T2:=fun p:Prop=>True/\True/\p;let T5:=fun p:Prop=>True/\True/\True/\True/\True/\p;let T6:=fun p:Prop=>True/\True/\True/\True/\True/\True/\p;let V:=fun p:Sx.SV=>Sx.SVle [] [] p p;let J:=IntKind.i64;let K:=Sx.Br;let A:=Sx.Ask;let z50:=(86:Go.FuncId);let z49:=(112:Go.FuncId);let z46:=(9223372036854775807:Int);let z44:=(Blend.aa6 x.blend.toNat=Blend.aa6 x.blend.toNat);let z38:=(ns=ns);let z35:=(↑ns:Int);let z34:=(9:Nat);let z31:=(A (z50=z50)/\T2 (A (z49=z49)/\T2 (A z44/\True)));let z30:=(8:Nat);let z29:=(7:Nat);let z28:=(6:Nat);let z27:=(5:Nat);let z26:=(4:Nat);let z25:=(3:Nat);let z24:=(2:Nat);let z22:=(0:Int);let z45:=(z22=z22);let z17:=(J=J);let q17:=fun p:Int=>A z17/\A (p=p);let z32:=(q17 z35);let z23:=(((Lsg.qT True x x)/\q17 t)/\A (z50=z50)/\T2 (A (z49=z49)/\T2 (A z44/\True)));let z16:=(1:Nat);let z10:=(0:Nat);let z58:=(z10+z29);let z57:=(z10+z28);let z56:=(z10+z27);let z55:=(z10+z26);let z54:=(z10+z25);let z53:=(z10+z24);let z52:=(z10+z16);let z40:=(z10+z10);let z9:=(((True/\q17 s.y)/\q17 s.x0)/\q17 s.x1);let z4:=(IntKind.u8=IntKind.u8);let q4:=fun p:Int=>A z4/\A (p=p);let z51:=(q4 x.alpha);let z13:=(A z38/\∀ i:Nat,i<ns->(((((((((True/\q4 (st i z10))/\q4 (st i z16))/\q4 (st i z24))/\q4 (st i z25))/\q4 (st i z26))/\q4 (st i z27))/\q4 (st i z28))/\q4 (st i z29))/\q4 (st i z30)));let z3:=(A z38/\∀ i:Nat,i<ns->(((((((((True/\q4 (bs i z10))/\q4 (bs i z16))/\q4 (bs i z24))/\q4 (bs i z25))/\q4 (bs i z26))/\q4 (bs i z27))/\q4 (bs i z28))/\q4 (bs i z29))/\q4 (bs i z30)));let z2:=(Sx.lst (Lsg.itL x++[Sx.SV.int J t,Lpn.mxS x false,Sx.SV.sl m z16 fun (a x:Nat)=>Sx.SV.ifc (Lpn.ndT (k a)) fun (x:Nat)=>Sx.SV.ref (37:Nat) (Lpn.ndX (k a))]));let z37:=(Lpn.ndOf z2);let z21:=(Lpc.CvG.mk s z2 z37 ns fun (i:Nat)=>false);let z1:=(z23/\A (m=m)/\∀ i:Nat,i<m->True/\A (Lpn.ndT (k i)=Lpn.ndT (k i))/\((((((((((((((((((((((((((((((((((((True/\V (Lpn.ndX (k i) 0))/\V (Lpn.ndX (k i) 1))/\V (Lpn.ndX (k i) 2))/\V (Lpn.ndX (k i) 3))/\V (Lpn.ndX (k i) 4))/\V (Lpn.ndX (k i) 5))/\V (Lpn.ndX (k i) 6))/\V (Lpn.ndX (k i) 7))/\V (Lpn.ndX (k i) 8))/\V (Lpn.ndX (k i) 9))/\V (Lpn.ndX (k i) (10:Nat)))/\V (Lpn.ndX (k i) (11:Nat)))/\V (Lpn.ndX (k i) (12:Nat)))/\V (Lpn.ndX (k i) (13:Nat)))/\V (Lpn.ndX (k i) (14:Nat)))/\V (Lpn.ndX (k i) (15:Nat)))/\V (Lpn.ndX (k i) (16:Nat)))/\V (Lpn.ndX (k i) (17:Nat)))/\V (Lpn.ndX (k i) (18:Nat)))/\V (Lpn.ndX (k i) (19:Nat)))/\V (Lpn.ndX (k i) (20:Nat)))/\V (Lpn.ndX (k i) (21:Nat)))/\V (Lpn.ndX (k i) (22:Nat)))/\V (Lpn.ndX (k i) (23:Nat)))/\V (Lpn.ndX (k i) (24:Nat)))/\V (Lpn.ndX (k i) (25:Nat)))/\V (Lpn.ndX (k i) (26:Nat)))/\V (Lpn.ndX (k i) (27:Nat)))/\V (Lpn.ndX (k i) (28:Nat)))/\V (Lpn.ndX (k i) (29:Nat)))/\V (Lpn.ndX (k i) (30:Nat)))/\V (Lpn.ndX (k i) (31:Nat)))/\V (Lpn.ndX (k i) (32:Nat)))/\V (Lpn.ndX (k i) (33:Nat)))/\V (Lpn.ndX (k i) (34:Nat)))/\V (Lpn.ndX (k i) (35:Nat)))/\V (Lpn.ndX (k i) (36:Nat)));let z43:=(z1/\T2 (A (z10=z10)/\T2 (True)));let z0:=(PnG.mk s z2 (Lpn.Nd.grp t false x m k) ns st bs);let z41:=(A z38/\∀ i:Nat,i<ns->True/\A (z21.fin i=z0.cv i));let z19:=(A z38/\∀ i:Nat,i<ns->True/\A (z0.cv i=z0.cv i));let z14:=(PnG.mk s z2 z37 ns z0.i0 z0.i0);let z8:=(A z38/\∀ i:Nat,i<ns->(((((((((True/\q4 (z0.inn i z10))/\q4 (z0.inn i z16))/\q4 (z0.inn i z24))/\q4 (z0.inn i z25))/\q4 (z0.inn i z26))/\q4 (z0.inn i z27))/\q4 (z0.inn i z28))/\q4 (z0.inn i z29))/\q4 (z0.inn i z30)));T2 (True/\A (z22<=z35/\z35<=z35/\(↑z16:Int)*z35<=(140737488355328:Int)/\z35<=z46)/\T5 (((True/\(z9/\(A ((73:Nat)=Lpn.ndT z37)/\z23/\A (m=m)/\∀ i:Nat,i<m->True/\A (Lpn.ndT (k i)=Lpn.ndT (k i))/\((((((((((((((((((((((((((((((((((((True/\V (Lpn.ndX (k i) 0))/\V (Lpn.ndX (k i) 1))/\V (Lpn.ndX (k i) 2))/\V (Lpn.ndX (k i) 3))/\V (Lpn.ndX (k i) 4))/\V (Lpn.ndX (k i) 5))/\V (Lpn.ndX (k i) 6))/\V (Lpn.ndX (k i) 7))/\V (Lpn.ndX (k i) 8))/\V (Lpn.ndX (k i) 9))/\V (Lpn.ndX (k i) (10:Nat)))/\V (Lpn.ndX (k i) (11:Nat)))/\V (Lpn.ndX (k i) (12:Nat)))/\V (Lpn.ndX (k i) (13:Nat)))/\V (Lpn.ndX (k i) (14:Nat)))/\V (Lpn.ndX (k i) (15:Nat)))/\V (Lpn.ndX (k i) (16:Nat)))/\V (Lpn.ndX (k i) (17:Nat)))/\V (Lpn.ndX (k i) (18:Nat)))/\V (Lpn.ndX (k i) (19:Nat)))/\V (Lpn.ndX (k i) (20:Nat)))/\V (Lpn.ndX (k i) (21:Nat)))/\V (Lpn.ndX (k i) (22:Nat)))/\V (Lpn.ndX (k i) (23:Nat)))/\V (Lpn.ndX (k i) (24:Nat)))/\V (Lpn.ndX (k i) (25:Nat)))/\V (Lpn.ndX (k i) (26:Nat)))/\V (Lpn.ndX (k i) (27:Nat)))/\V (Lpn.ndX (k i) (28:Nat)))/\V (Lpn.ndX (k i) (29:Nat)))/\V (Lpn.ndX (k i) (30:Nat)))/\V (Lpn.ndX (k i) (31:Nat)))/\V (Lpn.ndX (k i) (32:Nat)))/\V (Lpn.ndX (k i) (33:Nat)))/\V (Lpn.ndX (k i) (34:Nat)))/\V (Lpn.ndX (k i) (35:Nat)))/\V (Lpn.ndX (k i) (36:Nat)))/\True/\True)/\(A (z35.toNat=ns)/\∀ i:Nat,i<ns->True/\A (false=false))/\True)/\A (Lpc.CvOK (d+z16) z21))/\True/\(((A z38/\∀ i:Nat,i<ns->True/\A (z21.fin i=z21.fin i))/\A (true=true)/\True)/\A (ns<=(4294967296:Nat)))/\True/\K (!decide (z22<=Lpd.bX z21.fin ns z10)) (T2 ((True/\True)/\(A z38/\∀ i:Nat,i<ns->(((((((((True/\A z4/\A (st i z10=z0.nx i z10))/\A z4/\A (st i z16=z0.nx i z16))/\A z4/\A (st i z24=z0.nx i z24))/\A z4/\A (st i z25=z0.nx i z25))/\A z4/\A (st i z26=z0.nx i z26))/\A z4/\A (st i z27=z0.nx i z27))/\A z4/\A (st i z28=z0.nx i z28))/\A z4/\A (st i z29=z0.nx i z29))/\A z4/\A (st i z30=z0.nx i z30)))/\z3/\True)) (T2 (A (z22<=z35/\z35<=z35/\(↑z34:Int)*z35<=(140737488355328:Int)/\z35<=z46)/\True/\(T6 (K (!x.iso) (T2 (True/\∃ g:Unit,A ((nbC z0).pre g)/\True/\z43/\z13/\z3/\z9/\z41/\(A (z35.toNat=ns)/\∀ i:Nat,let z48:=(i-z10);let z15:=(z10<=i/\i<z10+ns.min z35.toNat); i<ns->(((((((((True/\A z4/\A ((bif decide z15 then bs z48 z10 else z22)=z0.i0 i z10))/\A z4/\A ((bif decide z15 then bs z48 z16 else z22)=z0.i0 i z16))/\A z4/\A ((bif decide z15 then bs z48 z24 else z22)=z0.i0 i z24))/\A z4/\A ((bif decide z15 then bs z48 z25 else z22)=z0.i0 i z25))/\A z4/\A ((bif decide z15 then bs z48 z26 else z22)=z0.i0 i z26))/\A z4/\A ((bif decide z15 then bs z48 z27 else z22)=z0.i0 i z27))/\A z4/\A ((bif decide z15 then bs z48 z28 else z22)=z0.i0 i z28))/\A z4/\A ((bif decide z15 then bs z48 z29 else z22)=z0.i0 i z29))/\A z4/\A ((bif decide z15 then bs z48 z30 else z22)=z0.i0 i z30)))/\True)) (∃ g:Unit,A ((nbC z0).pre g)/\True/\z43/\z13/\z3/\z9/\z41/\(A (z35.toNat=ns)/\∀ i:Nat,i<ns->(((((((((True/\A z4/\A (z22=z0.i0 i z10))/\A z4/\A (z22=z0.i0 i z16))/\A z4/\A (z22=z0.i0 i z24))/\A z4/\A (z22=z0.i0 i z25))/\A z4/\A (z22=z0.i0 i z26))/\A z4/\A (z22=z0.i0 i z27))/\A z4/\A (z22=z0.i0 i z28))/\A z4/\A (z22=z0.i0 i z29))/\A z4/\A (z22=z0.i0 i z30)))/\True)))/\∀ g:Unit,(nbC z0).pre g->T2 (True/\((True/\(z9/\z1/\True/\True)/\(A z38/\∀ i:Nat,i<ns->(((((((((True/\q4 (z0.i0 i z10))/\q4 (z0.i0 i z16))/\q4 (z0.i0 i z24))/\q4 (z0.i0 i z25))/\q4 (z0.i0 i z26))/\q4 (z0.i0 i z27))/\q4 (z0.i0 i z28))/\q4 (z0.i0 i z29))/\q4 (z0.i0 i z30)))/\True)/\A (PtOK d z14))/\T2 (True/\(∃ g:Nat,A ((nbI z0).pre g)/\True/\(z1/\T5 (z32/\(A z17/\A (z22=(↑g:Int)))/\True))/\(A z38/\∀ i:Nat,i<ns->(((((((((True/\A z4/\A (st i z10=z0.at g i z10))/\A z4/\A (st i z16=z0.at g i z16))/\A z4/\A (st i z24=z0.at g i z24))/\A z4/\A (st i z25=z0.at g i z25))/\A z4/\A (st i z26=z0.at g i z26))/\A z4/\A (st i z27=z0.at g i z27))/\A z4/\A (st i z28=z0.at g i z28))/\A z4/\A (st i z29=z0.at g i z29))/\A z4/\A (st i z30=z0.at g i z30)))/\z3/\z9/\z19/\(A z38/\∀ i:Nat,i<ns->(((((((((True/\A z4/\A (z14.pt z37.n i z10=z0.inn i z10))/\A z4/\A (z14.pt z37.n i z16=z0.inn i z16))/\A z4/\A (z14.pt z37.n i z24=z0.inn i z24))/\A z4/\A (z14.pt z37.n i z25=z0.inn i z25))/\A z4/\A (z14.pt z37.n i z26=z0.inn i z26))/\A z4/\A (z14.pt z37.n i z27=z0.inn i z27))/\A z4/\A (z14.pt z37.n i z28=z0.inn i z28))/\A z4/\A (z14.pt z37.n i z29=z0.inn i z29))/\A z4/\A (z14.pt z37.n i z30=z0.inn i z30)))/\True)/\∀ g:Nat,let z12:=(↑g:Int);let z47:=(z0.inn z12.toNat z40=z0.inn z12.toNat z40);let z39:=(fun (j:Nat)=>bs z12.toNat (z10+j));let z36:=(z12.toNat<ns);let z33:=(z0.inn z12.toNat z40);let z42:=(q4 (ab2 z33 x.alpha));let z20:=((-9223372036854775808:Int)<=z12+(1:Int)/\z12+(1:Int)<=z46);let z18:=(z22<=z12/\z12<z35);let z11:=(Lbt.MixG.mk z39 (fun (j:Nat)=>z0.inn z12.toNat (z10+j)) x.alpha);let z7:=(((((((((True/\q4 (bs z12.toNat z40))/\q4 (bs z12.toNat z52))/\q4 (bs z12.toNat z53))/\q4 (bs z12.toNat z54))/\q4 (bs z12.toNat z55))/\q4 (bs z12.toNat z56))/\q4 (bs z12.toNat z57))/\q4 (bs z12.toNat z58))/\q4 (bs z12.toNat (z10+z30)));let z6:=(Cmp.PaintG.mk z39 (fun (j:Nat)=>z0.inn z12.toNat (z10+z16+(z10+j))) (ab2 z33 x.alpha) (Blend.aa6 x.blend.toNat) false);let z5:=(Cmp.PaintG.mk z39 (fun (j:Nat)=>Sx.intOf (Sx.ak0 [Go.Value.int IntKind.u8 z22,Go.Value.int IntKind.u8 z22,Go.Value.int IntKind.u8 z22,Go.Value.int IntKind.u8 z22,Go.Value.int IntKind.u8 z22,Go.Value.int IntKind.u8 z22,Go.Value.int IntKind.u8 z22,Go.Value.int IntKind.u8 z22] (z10+j))) (ab2 z33 x.alpha) (Blend.aa6 x.blend.toNat) false); (nbI z0).pre g->True/\K (decide (z12<z35)) (True/\A z18/\A z36/\T2 (T2 (K (!z0.cv z12.toNat) (A z20/\True/\∃ (g':Nat),A ((nbI z0).pre g')/\True/\((z1/\T5 (z32/\(A z17/\A (z12+(1:Int)=(↑g':Int)))/\True))/\(A z38/\∀ i:Nat,i<ns->(((((((((True/\A z4/\A (z0.at g i z10=z0.at g' i z10))/\A z4/\A (z0.at g i z16=z0.at g' i z16))/\A z4/\A (z0.at g i z24=z0.at g' i z24))/\A z4/\A (z0.at g i z25=z0.at g' i z25))/\A z4/\A (z0.at g i z26=z0.at g' i z26))/\A z4/\A (z0.at g i z27=z0.at g' i z27))/\A z4/\A (z0.at g i z28=z0.at g' i z28))/\A z4/\A (z0.at g i z29=z0.at g' i z29))/\A z4/\A (z0.at g i z30=z0.at g' i z30)))/\z3/\z9/\z19/\z8/\True)/\A ((nbI z0).meas g'<(nbI z0).meas g)) (T6 (K (!x.iso) (T2 (T2 (A z18/\A z36/\T2 (A z18/\A z36/\T5 (((z7/\(((((((((True/\A z4/\A z47)/\q4 (z0.inn z12.toNat z52))/\q4 (z0.inn z12.toNat z53))/\q4 (z0.inn z12.toNat z54))/\q4 (z0.inn z12.toNat z55))/\q4 (z0.inn z12.toNat z56))/\q4 (z0.inn z12.toNat z57))/\q4 (z0.inn z12.toNat z58))/\q4 (z0.inn z12.toNat (z10+z30)))/\z51/\True)/\A z11.ok)/\A z18/\A z36/\A z20/\True/\∃ (g':Nat),A ((nbI z0).pre g')/\True/\((z1/\T5 (z32/\(A z17/\A (z12+(1:Int)=(↑g':Int)))/\True))/\(A z38/\∀ i:Nat,i<ns->(((((((((True/\A z4/\A ((bif decide (i=z12.toNat/\z10<=z10/\z10<z10+z34) then z11.res (z10-z10) else z0.at g i z10)=z0.at g' i z10))/\A z4/\A ((bif decide (i=z12.toNat/\z10<=z16/\z16<z10+z34) then z11.res (z16-z10) else z0.at g i z16)=z0.at g' i z16))/\A z4/\A ((bif decide (i=z12.toNat/\z10<=z24/\z24<z10+z34) then z11.res (z24-z10) else z0.at g i z24)=z0.at g' i z24))/\A z4/\A ((bif decide (i=z12.toNat/\z10<=z25/\z25<z10+z34) then z11.res (z25-z10) else z0.at g i z25)=z0.at g' i z25))/\A z4/\A ((bif decide (i=z12.toNat/\z10<=z26/\z26<z10+z34) then z11.res (z26-z10) else z0.at g i z26)=z0.at g' i z26))/\A z4/\A ((bif decide (i=z12.toNat/\z10<=z27/\z27<z10+z34) then z11.res (z27-z10) else z0.at g i z27)=z0.at g' i z27))/\A z4/\A ((bif decide (i=z12.toNat/\z10<=z28/\z28<z10+z34) then z11.res (z28-z10) else z0.at g i z28)=z0.at g' i z28))/\A z4/\A ((bif decide (i=z12.toNat/\z10<=z29/\z29<z10+z34) then z11.res (z29-z10) else z0.at g i z29)=z0.at g' i z29))/\A z4/\A ((bif decide (i=z12.toNat/\z10<=z30/\z30<z10+z34) then z11.res (z30-z10) else z0.at g i z30)=z0.at g' i z30)))/\z3/\z9/\z19/\z8/\True)/\A ((nbI z0).meas g'<(nbI z0).meas g)))))) (T2 (A z18/\True/\A z36/\T5 ((((A z4/\A z47)/\z51/\True)/\A ((z22<=z0.inn z12.toNat z40/\z0.inn z12.toNat z40<=(255:Int))/\z22<=x.alpha/\x.alpha<=(255:Int)))/\T2 (A z18/\True/\A z36/\T5 (K (decide (ab2 z33 x.alpha=z22)) (T6 (A z18/\A z36/\T6 (((z7/\((((((((True/\A z4/\A z45)/\A z4/\A z45)/\A z4/\A z45)/\A z4/\A z45)/\A z4/\A z45)/\A z4/\A z45)/\A z4/\A z45)/\A z4/\A z45)/\z42/\z31/\A (false=false)/\True)/\A z5.ok)/\A z18/\A z36/\A z20/\True/\∃ (g':Nat),A ((nbI z0).pre g')/\True/\((z1/\T5 (z32/\(A z17/\A (z12+(1:Int)=(↑g':Int)))/\True))/\(A z38/\∀ i:Nat,i<ns->(((((((((True/\A z4/\A ((bif decide (i=z12.toNat/\z10<=z10/\z10<z10+z34) then z5.res (z10-z10) else z0.at g i z10)=z0.at g' i z10))/\A z4/\A ((bif decide (i=z12.toNat/\z10<=z16/\z16<z10+z34) then z5.res (z16-z10) else z0.at g i z16)=z0.at g' i z16))/\A z4/\A ((bif decide (i=z12.toNat/\z10<=z24/\z24<z10+z34) then z5.res (z24-z10) else z0.at g i z24)=z0.at g' i z24))/\A z4/\A ((bif decide (i=z12.toNat/\z10<=z25/\z25<z10+z34) then z5.res (z25-z10) else z0.at g i z25)=z0.at g' i z25))/\A z4/\A ((bif decide (i=z12.toNat/\z10<=z26/\z26<z10+z34) then z5.res (z26-z10) else z0.at g i z26)=z0.at g' i z26))/\A z4/\A ((bif decide (i=z12.toNat/\z10<=z27/\z27<z10+z34) then z5.res (z27-z10) else z0.at g i z27)=z0.at g' i z27))/\A z4/\A ((bif decide (i=z12.toNat/\z10<=z28/\z28<z10+z34) then z5.res (z28-z10) else z0.at g i z28)=z0.at g' i z28))/\A z4/\A ((bif decide (i=z12.toNat/\z10<=z29/\z29<z10+z34) then z5.res (z29-z10) else z0.at g i z29)=z0.at g' i z29))/\A z4/\A ((bif decide (i=z12.toNat/\z10<=z30/\z30<z10+z34) then z5.res (z30-z10) else z0.at g i z30)=z0.at g' i z30)))/\z3/\z9/\z19/\z8/\True)/\A ((nbI z0).meas g'<(nbI z0).meas g)))) (T2 (T2 (A z18/\A z36/\T6 (((z7/\((((((((True/\q4 (z0.inn z12.toNat (z10+z16+z40)))/\q4 (z0.inn z12.toNat (z10+z16+z52)))/\q4 (z0.inn z12.toNat (z10+z16+z53)))/\q4 (z0.inn z12.toNat (z10+z16+z54)))/\q4 (z0.inn z12.toNat (z10+z16+z55)))/\q4 (z0.inn z12.toNat (z10+z16+z56)))/\q4 (z0.inn z12.toNat (z10+z16+z57)))/\q4 (z0.inn z12.toNat (z10+z16+z58)))/\z42/\z31/\A (false=false)/\True)/\A z6.ok)/\A z18/\A z36/\A z20/\True/\∃ (g':Nat),A ((nbI z0).pre g')/\True/\((z1/\T5 (z32/\(A z17/\A (z12+(1:Int)=(↑g':Int)))/\True))/\(A z38/\∀ i:Nat,i<ns->(((((((((True/\A z4/\A ((bif decide (i=z12.toNat/\z10<=z10/\z10<z10+z34) then z6.res (z10-z10) else z0.at g i z10)=z0.at g' i z10))/\A z4/\A ((bif decide (i=z12.toNat/\z10<=z16/\z16<z10+z34) then z6.res (z16-z10) else z0.at g i z16)=z0.at g' i z16))/\A z4/\A ((bif decide (i=z12.toNat/\z10<=z24/\z24<z10+z34) then z6.res (z24-z10) else z0.at g i z24)=z0.at g' i z24))/\A z4/\A ((bif decide (i=z12.toNat/\z10<=z25/\z25<z10+z34) then z6.res (z25-z10) else z0.at g i z25)=z0.at g' i z25))/\A z4/\A ((bif decide (i=z12.toNat/\z10<=z26/\z26<z10+z34) then z6.res (z26-z10) else z0.at g i z26)=z0.at g' i z26))/\A z4/\A ((bif decide (i=z12.toNat/\z10<=z27/\z27<z10+z34) then z6.res (z27-z10) else z0.at g i z27)=z0.at g' i z27))/\A z4/\A ((bif decide (i=z12.toNat/\z10<=z28/\z28<z10+z34) then z6.res (z28-z10) else z0.at g i z28)=z0.at g' i z28))/\A z4/\A ((bif decide (i=z12.toNat/\z10<=z29/\z29<z10+z34) then z6.res (z29-z10) else z0.at g i z29)=z0.at g' i z29))/\A z4/\A ((bif decide (i=z12.toNat/\z10<=z30/\z30<z10+z34) then z6.res (z30-z10) else z0.at g i z30)=z0.at g' i z30)))/\z3/\z9/\z19/\z8/\True)/\A ((nbI z0).meas g'<(nbI z0).meas g))))))))))))))) (T2 ((True/\True)/\(A z38/\∀ i:Nat,i<ns->(((((((((True/\A z4/\A (z0.at g i z10=z0.nx i z10))/\A z4/\A (z0.at g i z16=z0.nx i z16))/\A z4/\A (z0.at g i z24=z0.nx i z24))/\A z4/\A (z0.at g i z25=z0.nx i z25))/\A z4/\A (z0.at g i z26=z0.nx i z26))/\A z4/\A (z0.at g i z27=z0.nx i z27))/\A z4/\A (z0.at g i z28=z0.nx i z28))/\A z4/\A (z0.at g i z29=z0.nx i z29))/\A z4/\A (z0.at g i z30=z0.nx i z30)))/\z3/\True))))))))) (by kernel_rfl) ?_
  delta Lsg.qG Lsg.qI Lsg.qM Lsg.qS Lsg.qT
  simp only [aa4,aa8,eq_self,true_and,and_true,implies_true,forall_const,decide_eq_true_eq,decide_eq_false_iff_not,ne_eq,Nat.mul_one,Nat.add_zero,Nat.zero_add]
  have hs:∀ nd j,SVle [] [] (ndX nd j) (ndX nd j)=True:=fun nd j=>eq_true (SVle.refl [] [] (an7 nd j))
  have e:ndOf (lst (itL x++[.int .i64 t,mxS x false,.sl m 1 (fun a _=> .ifc (ndT (k a)) (fun _=> .ref 37 (ndX (k a))))])) = .grp t false x m k:=by rw [<-aj3]; exact aq0 _
  simp only [e,hs,Int.toNat_natCast,and_self,and_true,true_and,implies_true,zf8]
  have hc:(lst (itL x++[.int .i64 t,mxS x false,.sl m 1 (fun a _=> .ifc (ndT (k a)) (fun _=> .ref 37 (ndX (k a))))]))=ndX (.grp t false x m k):=(aj3 _ _ _ _ _).symm
  have hb':=hg.b
  generalize lst (itL x++[.int .i64 t,mxS x false,.sl m 1 (fun a _=> .ifc (ndT (k a)) (fun _=> .ref 37 (ndX (k a))))])=C at *
  have hn1:(ns:Int)=s.x1-s.x0:=hb'.n
  have hn2 : -8192<=s.x0:=hb'.x0
  have hn3:s.x1<=8192:=hb'.x1
  have hn4:0<ns:=hb'.pos
  have hnd:NdOK (d+1) (.grp t false x m k):= .grp hn rfl ha hb hk
  have hcv:CvOK (d+1) ⟨s,C,.grp t false x m k,ns,fun _=>false⟩:=⟨hc,hnd,hn2,hn3,hn1⟩
  have hfin:∀ i,CvG.fin ⟨s,C,.grp t false x m k,ns,fun _=>false⟩ i=PnG.cv ⟨s,C,.grp t false x m k,ns,st,bs⟩ i:=fun i=>Bool.false_or _
  refine ⟨by omega,⟨rfl,hcv⟩,by omega,fun hno i hi=>?_,fun hyes=>⟨by omega,⟨fun hx=>⟨(),trivial,fun i _=>hfin i,fun i hi=>?_⟩,fun hx=>⟨(),trivial,fun i _=>hfin i,fun i hi=>?_⟩⟩,fun _ _=>?_⟩⟩
  ·have hno:PnG.nx ⟨s,C,.grp t false x m k,ns,st,bs⟩ i=st i:=ns_no (g:=⟨s,C,.grp t false x m k,ns,st,bs⟩) rfl ((hfin i).symm.trans (any_cv (n:=ns) (by simpa using hno) hi))
   have h0:∀ j,st i j=PnG.nx ⟨s,C,.grp t false x m k,ns,st,bs⟩ i j:=fun j=>(congrFun hno j).symm
   exact all9 h0
  ·have hx:x.iso=false:=by simpa using hx
   have h0:∀ j,(bif decide (0<=i/\i<ns.min ns) then bs (i-0) j else 0)=PnG.i0 ⟨s,C,.grp t false x m k,ns,st,bs⟩ i j:=fun j=>by
    have hi0:PnG.i0 ⟨s,C,.grp t false x m k,ns,st,bs⟩ i=bs i:=if_neg (show ¬ x.iso=true by rw [hx]; exact Bool.false_ne_true)
    have hmin:i<Nat.min ns ns:=by rw [show Nat.min ns ns=ns from Nat.min_self ns]; exact hi
    rw [decide_eq_true ⟨Nat.zero_le _,hmin⟩,hi0]
    rfl
   exact all9 h0
  ·have hx:x.iso=true:=by simpa using hx
   have h0:∀ j,(0:Int)=PnG.i0 ⟨s,C,.grp t false x m k,ns,st,bs⟩ i j:=fun j=>(congrFun (show PnG.i0 ⟨s,C,.grp t false x m k,ns,st,bs⟩ i=fun _=>0 from if_pos hx) j).symm
   exact all9 h0
  have hu:=fun i (hi:i<ns)=>inn_u9 (g:=⟨s,C,.grp t false x m k,ns,st,bs⟩) hb' hk hi
  have hbd:BdOK ⟨s,C,.grp t false x m k,ns,PnG.i0 ⟨s,C,.grp t false x m k,ns,st,bs⟩,PnG.i0 ⟨s,C,.grp t false x m k,ns,st,bs⟩⟩:=⟨hb'.y,hn2,hn3,hn1,hn4,fun i hi=>i0_u9 hb' hi,fun i hi=>i0_u9 hb' hi⟩
  refine ⟨⟨hc,rfl,hn,hk,hbd⟩,⟨0,Nat.zero_le _,rfl,fun i _=>all9 fun j=>(congrFun (if_neg (Nat.not_lt_zero i)) j).symm,fun i _=>all9 fun j=>rfl⟩,fun q hq=>⟨fun hlt=>?_,fun hge i hi=>?_⟩⟩
  ·have hlt:q<ns:=by omega
   have hld:(fun j=>bs q j)=bs q:=rfl
   have hbq:isU9 (bs q):=hb'.bs q hlt
   have hiq:=hu q hlt
   have hmm:ns-(q+1)<ns-q:=by omega
   simp only [hld]
   refine ⟨by omega,hlt,fun hm=>⟨by omega,q+1,hlt,⟨by simp,fun i _=>all9 fun j=>congrFun (ns_skip (g:=⟨s,C,.grp t false x m k,ns,st,bs⟩) rfl (by simpa using hm) i) j⟩,hmm⟩,fun hm=>⟨fun hx=>?_,fun hx=>?_⟩⟩
   ·have hm:PnG.cv ⟨s,C,.grp t false x m k,ns,st,bs⟩ q=true:=by simpa using hm
    have hx:x.iso=false:=by simpa using hx
    have hV:(MixG.mk (bs q) (PnG.inn ⟨s,C,.grp t false x m k,ns,st,bs⟩ q) x.alpha).res=PnG.nx ⟨s,C,.grp t false x m k,ns,st,bs⟩ q:=(ns_mix (g:=⟨s,C,.grp t false x m k,ns,st,bs⟩) rfl hm hx).symm
    have st9:=fun i=>aA1 hV i
    exact ⟨by omega,hlt,by omega,hlt,⟨⟨hbq,hiq⟩,ha⟩,by omega,hlt,by omega,q+1,hlt,⟨by simp,fun i hi=>⟨⟨⟨⟨⟨⟨⟨⟨st9 i 0,st9 i 1⟩,st9 i 2⟩,st9 i 3⟩,st9 i 4⟩,st9 i 5⟩,st9 i 6⟩,st9 i 7⟩,st9 i 8⟩⟩,hmm⟩
   ·have hm:PnG.cv ⟨s,C,.grp t false x m k,ns,st,bs⟩ q=true:=by simpa using hm
    have hx:x.iso=true:=by simpa using hx
    have hV:isoC (bs q) (PnG.inn ⟨s,C,.grp t false x m k,ns,st,bs⟩ q) x=PnG.nx ⟨s,C,.grp t false x m k,ns,st,bs⟩ q:=(ns_iso (g:=⟨s,C,.grp t false x m k,ns,st,bs⟩) rfl hm hx).symm
    have hok:=a56 hbq hiq ha hb
    unfold isoC at hV
    refine ⟨by omega,hlt,⟨hiq 0,ha⟩,by omega,hlt,fun hz=>?_,fun hz=>?_⟩
    ·rw [if_pos hz] at hV hok
     have st9:=fun i=>aA1 hV i
     exact ⟨by omega,hlt,hok,by omega,hlt,by omega,q+1,hlt,⟨by simp,fun i hi=>⟨⟨⟨⟨⟨⟨⟨⟨st9 i 0,st9 i 1⟩,st9 i 2⟩,st9 i 3⟩,st9 i 4⟩,st9 i 5⟩,st9 i 6⟩,st9 i 7⟩,st9 i 8⟩⟩,hmm⟩
    ·rw [if_neg hz] at hV hok
     have st9:=fun i=>aA1 hV i
     exact ⟨by omega,hlt,hok,by omega,hlt,by omega,q+1,hlt,⟨by simp,fun i hi=>⟨⟨⟨⟨⟨⟨⟨⟨st9 i 0,st9 i 1⟩,st9 i 2⟩,st9 i 3⟩,st9 i 4⟩,st9 i 5⟩,st9 i 6⟩,st9 i 7⟩,st9 i 8⟩⟩,hmm⟩
  ·have hq:q<=ns:=hq
   have h0:∀ j,PnG.at ⟨s,C,.grp t false x m k,ns,st,bs⟩ q i j=PnG.nx ⟨s,C,.grp t false x m k,ns,st,bs⟩ i j:=fun j=>congrFun (if_pos (by omega)) j
   exact all9 h0
end Go.Proofs.YthappngbapbkfaaGreat.Lpe
set_option linter.unusedSimpArgs false
set_option linter.unusedVariables false
namespace Go.Proofs.YthappngbapbkfaaGreat.Lpf
open Go.RowKit Sx Num Aff Afi Img Imh Imp Imq Rga Blend Ble Lsg Lta Lrd Lri Luc Lck Lgr Lcs Lst Lch Lcl Lgp Lsc Cmp Lpm Lpa Lpr Lbt Lpn Lpc Lpd Lpe
set_option maxRecDepth 100000
noncomputable def ptT (g:PnG) (i:Nat):Tmps:=[(3,.own 1 0),(5,.own 2 0),(6,.own 3 0),(22,kidS g.nd.n g.nd.k),(23,.int .i64 g.nd.n),(24,.int .i64 i)]
def ptO (g:PnG) (kn:Bool) (i:Nat):List SO:=match kn with
 | false=>[stR g.ns (g.pt i),.cells 3 (lst (stL g.s)) TRp,.cells 1 (lst [.osl 0 0]) TSs,.cells 1 (lst [.osl 0 0]) TSs]
 | true=>[stR g.ns (g.pt i),.cells 3 (lst (stL g.s)) TRp,.cells 1 (lst [.osl 0 0]) TSs,.cells 1 (lst [.osl 4 0]) TSs,stR g.ns g.st]
noncomputable def ptI (g:PnG):Inv:=⟨Nat,fun i=>i<=g.nd.n,fun i=>⟨ptT g i,ptO g g.nd.x.knock i⟩,fun i=>g.nd.n-i⟩
structure FmG where
 t:Nat
 x:It
noncomputable def mbI (d:Nat) (g:PnG) (i:Nat):Inv:=⟨Nd,fun nd=>g.nd.k i=nd/\NdOK d nd,fun nd=>⟨(28,.ifc (ndT nd) (fun _=> .ref 37 (ndX nd)))::ptT g i,ptO g g.nd.x.knock i⟩,fun _=>0⟩
noncomputable def mbF (g:PnG) (i:Nat):Inv:=⟨FmG,fun m=>g.nd.k i = .fill m.t m.x/\FillOK m.x/\Vr m.x.nr m.x.runs,fun m=>⟨(28,.ifc TPf (fun _=> .ref 37 (fcS m.t m.x (srcX m.x.src))))::ptT g i,ptO g g.nd.x.knock i⟩,fun _=>0⟩
noncomputable def mbJ (d:Nat) (g:PnG) (i:Nat):Inv:=⟨Nd,fun nd=>(g.nd.k i=nd/\NdOK d nd)/\ndT nd=TPg,fun nd=>⟨(28,.ifc TPg (fun _=> .ref 37 (ndX nd)))::ptT g i,ptO g g.nd.x.knock i⟩,fun _=>0⟩
theorem hand_mb (d:Nat) (g:PnG) (i:Nat):ak6 49 1 (mbI d g i) [mbF g i,mbJ d g i]:=by
 rintro nd ⟨h1,h2⟩ w0 X0 a w _ h
 have h1:g.nd.k i=nd:=h1
 have h2:NdOK d nd:=h2
 have h:StR w0 X0 49 ⟨(28,.ifc (ndT nd) (fun _=> .ref 37 (ndX nd)))::ptT g i,ptO g g.nd.x.knock i⟩ a w:=h
 cases h2 with
 | @fill _ t x hf hv=>
  rw [aD8] at h
  exact ⟨mbF g i,List.mem_cons_self,⟨t,x⟩,⟨h1,hf,hv⟩,h⟩
 | grp hn hm ha hb hk=>
  exact ⟨mbJ _ g i,List.mem_cons_of_mem _ List.mem_cons_self,_,⟨⟨h1,.grp hn hm ha hb hk⟩,rfl⟩,h⟩
noncomputable def spPk (d:Nat) (kn:Bool):FSpec:=ad5 41 [.arg 2] (γ:=PnG)
 (fun l o=>match l with | [.agg _ s,r,_]=>some ⟨stD s,aw7 r,ndOf (aw7 r),aG3 (o.getD 0 .dead),stFD (o.getD 0 .dead),stFD (o.getD 0 .dead)⟩ | _=>none)
 (fun g=>[stS g.s,.ref 37 g.c,.osl 0 0]) (fun g=>[stR g.ns g.st]) (fun g=>PtOK d g/\g.nd.x.knock=kn) (fun _=> .tup 0 (lst [])) (fun g=>[stR g.ns (g.pt g.nd.n)])
set_option maxHeartbeats 1000000 in
theorem ok_pk0 {d:Nat}(ha:aa2 Tryz.prog (spNa d)):aa2 Tryz.prog (spPk d false):=by
 refine ad2 (specs:=[spRa,spNa d]) (aa9 (⟨ok_Ra,ha,trivial⟩)) (eqs:=[]) (fun _ _ h=>(List.not_mem_nil h).elim) Aff.mixed Tryz.func41 rfl (by kernel_rfl) (fun _ _=>by kernel_rfl) (fun g=>(⟨[(5,.nest (ptI g) (fun i=>[(5000008,.hand (mbI d g i) [mbF g i,mbJ d g i])]))],[]⟩:Ann)) true (fun g=>Nat.le_of_ble_eq_true (by kernel_rfl)) ?_
 rintro ⟨s,c,nd,ns,st,bs⟩ ⟨hg,hkn⟩
 have hc:c=ndX nd:=hg.c
 cases nd with
 | fill t x=>exact absurd (show TPf=TPg from hg.isg) (by decide)
 | grp t mx x m k=>
  rw [aj3] at hc
  subst hc
  obtain ⟨kind,nr,runs,src,al,bl,ov,iso,kn⟩:=x
  have hkn:kn=false:=hkn
  subst hkn
  refine ab5 (B:=let V:=fun p:Sx.SV=>Sx.SVle [] [] p p;let K:=IntKind.i64;let A:=Sx.Ask;let z25:=(35:Nat);let z23:=(8:Nat);let z22:=(7:Nat);let z21:=(6:Nat);let z20:=(5:Nat);let z19:=(4:Nat);let z18:=(3:Nat);let z17:=(2:Nat);let z16:=(1:Nat);let z15:=(0:Nat);let z14:=(Lsg.It.mk kind nr runs src al bl ov iso false);let z13:=(True/\True);let z10:=(z15=z15);let z9:=(K=K);let q9:=fun p:Int=>A z9/\A (p=p);let z5:=(IntKind.u8=IntKind.u8);let q5:=fun p:Int=>A z5/\A (p=p);let z4:=(((True/\q9 s.y)/\q9 s.x0)/\q9 s.x1);let z1:=(Lpn.Nd.grp t mx z14 m k);let z27:=(↑z1.n:Int);let z12:=(q9 z27);let z2:=(A (z1.n=z1.n)/\∀ i:Nat,i<z1.n->True/\A (Lpn.ndT (z1.k i)=Lpn.ndT (z1.k i))/\((((((((((((((((((((((((((((((((((((True/\V (Lpn.ndX (z1.k i) 0))/\V (Lpn.ndX (z1.k i) 1))/\V (Lpn.ndX (z1.k i) 2))/\V (Lpn.ndX (z1.k i) 3))/\V (Lpn.ndX (z1.k i) 4))/\V (Lpn.ndX (z1.k i) 5))/\V (Lpn.ndX (z1.k i) 6))/\V (Lpn.ndX (z1.k i) 7))/\V (Lpn.ndX (z1.k i) 8))/\V (Lpn.ndX (z1.k i) (9:Nat)))/\V (Lpn.ndX (z1.k i) (10:Nat)))/\V (Lpn.ndX (z1.k i) (11:Nat)))/\V (Lpn.ndX (z1.k i) (12:Nat)))/\V (Lpn.ndX (z1.k i) (13:Nat)))/\V (Lpn.ndX (z1.k i) (14:Nat)))/\V (Lpn.ndX (z1.k i) (15:Nat)))/\V (Lpn.ndX (z1.k i) (16:Nat)))/\V (Lpn.ndX (z1.k i) (17:Nat)))/\V (Lpn.ndX (z1.k i) (18:Nat)))/\V (Lpn.ndX (z1.k i) (19:Nat)))/\V (Lpn.ndX (z1.k i) (20:Nat)))/\V (Lpn.ndX (z1.k i) (21:Nat)))/\V (Lpn.ndX (z1.k i) (22:Nat)))/\V (Lpn.ndX (z1.k i) (23:Nat)))/\V (Lpn.ndX (z1.k i) (24:Nat)))/\V (Lpn.ndX (z1.k i) (25:Nat)))/\V (Lpn.ndX (z1.k i) (26:Nat)))/\V (Lpn.ndX (z1.k i) (27:Nat)))/\V (Lpn.ndX (z1.k i) (28:Nat)))/\V (Lpn.ndX (z1.k i) (29:Nat)))/\V (Lpn.ndX (z1.k i) (30:Nat)))/\V (Lpn.ndX (z1.k i) (31:Nat)))/\V (Lpn.ndX (z1.k i) (32:Nat)))/\V (Lpn.ndX (z1.k i) (33:Nat)))/\V (Lpn.ndX (z1.k i) (34:Nat)))/\V (Lpn.ndX (z1.k i) 35))/\V (Lpn.ndX (z1.k i) (36:Nat)));let z0:=(Lpe.PnG.mk s (Sx.lst (Lsg.itL z14++[Sx.SV.int K t,Lpn.mxS z14 mx,Sx.SV.sl m z16 fun (a x:Nat)=>Sx.SV.ifc (Lpn.ndT (k a)) fun (x:Nat)=>Sx.SV.ref (37:Nat) (Lpn.ndX (k a))])) z1 ns st bs);True/\True/\True/\True/\True/\True/\True/\True/\True/\True/\True/\True/\True/\True/\True/\True/\(∃ g:Nat,A ((ptI z0).pre g)/\True/\(A z10/\A z10/\A z10/\(A (m=z1.n)/\∀ i:Nat,i<z1.n->True/\A (Lpn.ndT (k i)=Lpn.ndT (z1.k i))/\((((((((((((((((((((((((((((((((((((True/\Sx.SVle [] [] (Lpn.ndX (k i) z15) (Lpn.ndX (z1.k i) z15))/\Sx.SVle [] [] (Lpn.ndX (k i) z16) (Lpn.ndX (z1.k i) z16))/\Sx.SVle [] [] (Lpn.ndX (k i) z17) (Lpn.ndX (z1.k i) z17))/\Sx.SVle [] [] (Lpn.ndX (k i) z18) (Lpn.ndX (z1.k i) z18))/\Sx.SVle [] [] (Lpn.ndX (k i) z19) (Lpn.ndX (z1.k i) z19))/\Sx.SVle [] [] (Lpn.ndX (k i) z20) (Lpn.ndX (z1.k i) z20))/\Sx.SVle [] [] (Lpn.ndX (k i) z21) (Lpn.ndX (z1.k i) z21))/\Sx.SVle [] [] (Lpn.ndX (k i) z22) (Lpn.ndX (z1.k i) z22))/\Sx.SVle [] [] (Lpn.ndX (k i) z23) (Lpn.ndX (z1.k i) z23))/\Sx.SVle [] [] (Lpn.ndX (k i) (9:Nat)) (Lpn.ndX (z1.k i) (9:Nat)))/\Sx.SVle [] [] (Lpn.ndX (k i) (10:Nat)) (Lpn.ndX (z1.k i) (10:Nat)))/\Sx.SVle [] [] (Lpn.ndX (k i) (11:Nat)) (Lpn.ndX (z1.k i) (11:Nat)))/\Sx.SVle [] [] (Lpn.ndX (k i) (12:Nat)) (Lpn.ndX (z1.k i) (12:Nat)))/\Sx.SVle [] [] (Lpn.ndX (k i) (13:Nat)) (Lpn.ndX (z1.k i) (13:Nat)))/\Sx.SVle [] [] (Lpn.ndX (k i) (14:Nat)) (Lpn.ndX (z1.k i) (14:Nat)))/\Sx.SVle [] [] (Lpn.ndX (k i) (15:Nat)) (Lpn.ndX (z1.k i) (15:Nat)))/\Sx.SVle [] [] (Lpn.ndX (k i) (16:Nat)) (Lpn.ndX (z1.k i) (16:Nat)))/\Sx.SVle [] [] (Lpn.ndX (k i) (17:Nat)) (Lpn.ndX (z1.k i) (17:Nat)))/\Sx.SVle [] [] (Lpn.ndX (k i) (18:Nat)) (Lpn.ndX (z1.k i) (18:Nat)))/\Sx.SVle [] [] (Lpn.ndX (k i) (19:Nat)) (Lpn.ndX (z1.k i) (19:Nat)))/\Sx.SVle [] [] (Lpn.ndX (k i) (20:Nat)) (Lpn.ndX (z1.k i) (20:Nat)))/\Sx.SVle [] [] (Lpn.ndX (k i) (21:Nat)) (Lpn.ndX (z1.k i) (21:Nat)))/\Sx.SVle [] [] (Lpn.ndX (k i) (22:Nat)) (Lpn.ndX (z1.k i) (22:Nat)))/\Sx.SVle [] [] (Lpn.ndX (k i) (23:Nat)) (Lpn.ndX (z1.k i) (23:Nat)))/\Sx.SVle [] [] (Lpn.ndX (k i) (24:Nat)) (Lpn.ndX (z1.k i) (24:Nat)))/\Sx.SVle [] [] (Lpn.ndX (k i) (25:Nat)) (Lpn.ndX (z1.k i) (25:Nat)))/\Sx.SVle [] [] (Lpn.ndX (k i) (26:Nat)) (Lpn.ndX (z1.k i) (26:Nat)))/\Sx.SVle [] [] (Lpn.ndX (k i) (27:Nat)) (Lpn.ndX (z1.k i) (27:Nat)))/\Sx.SVle [] [] (Lpn.ndX (k i) (28:Nat)) (Lpn.ndX (z1.k i) (28:Nat)))/\Sx.SVle [] [] (Lpn.ndX (k i) (29:Nat)) (Lpn.ndX (z1.k i) (29:Nat)))/\Sx.SVle [] [] (Lpn.ndX (k i) (30:Nat)) (Lpn.ndX (z1.k i) (30:Nat)))/\Sx.SVle [] [] (Lpn.ndX (k i) (31:Nat)) (Lpn.ndX (z1.k i) (31:Nat)))/\Sx.SVle [] [] (Lpn.ndX (k i) (32:Nat)) (Lpn.ndX (z1.k i) (32:Nat)))/\Sx.SVle [] [] (Lpn.ndX (k i) (33:Nat)) (Lpn.ndX (z1.k i) (33:Nat)))/\Sx.SVle [] [] (Lpn.ndX (k i) (34:Nat)) (Lpn.ndX (z1.k i) (34:Nat)))/\Sx.SVle [] [] (Lpn.ndX (k i) z25) (Lpn.ndX (z1.k i) z25))/\Sx.SVle [] [] (Lpn.ndX (k i) (36:Nat)) (Lpn.ndX (z1.k i) (36:Nat)))/\(A z9/\A ((↑m:Int)=z27))/\(A z9/\A ((0:Int)=(↑g:Int)))/\True)/\(A (ns=ns)/\∀ i:Nat,i<ns->(((((((((True/\A z5/\A (st i z15=z0.pt g i z15))/\A z5/\A (st i z16=z0.pt g i z16))/\A z5/\A (st i z17=z0.pt g i z17))/\A z5/\A (st i z18=z0.pt g i z18))/\A z5/\A (st i z19=z0.pt g i z19))/\A z5/\A (st i z20=z0.pt g i z20))/\A z5/\A (st i z21=z0.pt g i z21))/\A z5/\A (st i z22=z0.pt g i z22))/\A z5/\A (st i z23=z0.pt g i z23)))/\z4/\z13/\z13/\True)/\∀ g:Nat,let z24:=(↑g:Int);let z11:=((-9223372036854775808:Int)<=z24+(1:Int)/\z24+(1:Int)<=(9223372036854775807:Int));let z6:=(z1.k z24.toNat);let z3:=(A (ns=ns)/\∀ i:Nat,i<ns->(((((((((True/\q5 (z0.pt g i z15))/\q5 (z0.pt g i z16))/\q5 (z0.pt g i z17))/\q5 (z0.pt g i z18))/\q5 (z0.pt g i z19))/\q5 (z0.pt g i z20))/\q5 (z0.pt g i z21))/\q5 (z0.pt g i z22))/\q5 (z0.pt g i z23))); (ptI z0).pre g->True/\Sx.Br (decide (z24<z27)) (A ((0:Int)<=z24/\z24<z27)/\True/\True/\True/\Sx.ak6 (nat_lit 49) (nat_lit 1) (mbI d z0 g) [mbF z0 g,mbJ d z0 g]/\(∃ g_1:Lpn.Nd,A ((mbI d z0 g).pre g_1)/\True/\((A (Lpn.ndT z6=Lpn.ndT g_1)/\((((((((((((((((((((((((((((((((((((True/\Sx.SVle [] [] (Lpn.ndX z6 z15) (Lpn.ndX g_1 z15))/\Sx.SVle [] [] (Lpn.ndX z6 z16) (Lpn.ndX g_1 z16))/\Sx.SVle [] [] (Lpn.ndX z6 z17) (Lpn.ndX g_1 z17))/\Sx.SVle [] [] (Lpn.ndX z6 z18) (Lpn.ndX g_1 z18))/\Sx.SVle [] [] (Lpn.ndX z6 z19) (Lpn.ndX g_1 z19))/\Sx.SVle [] [] (Lpn.ndX z6 z20) (Lpn.ndX g_1 z20))/\Sx.SVle [] [] (Lpn.ndX z6 z21) (Lpn.ndX g_1 z21))/\Sx.SVle [] [] (Lpn.ndX z6 z22) (Lpn.ndX g_1 z22))/\Sx.SVle [] [] (Lpn.ndX z6 z23) (Lpn.ndX g_1 z23))/\Sx.SVle [] [] (Lpn.ndX z6 (9:Nat)) (Lpn.ndX g_1 (9:Nat)))/\Sx.SVle [] [] (Lpn.ndX z6 (10:Nat)) (Lpn.ndX g_1 (10:Nat)))/\Sx.SVle [] [] (Lpn.ndX z6 (11:Nat)) (Lpn.ndX g_1 (11:Nat)))/\Sx.SVle [] [] (Lpn.ndX z6 (12:Nat)) (Lpn.ndX g_1 (12:Nat)))/\Sx.SVle [] [] (Lpn.ndX z6 (13:Nat)) (Lpn.ndX g_1 (13:Nat)))/\Sx.SVle [] [] (Lpn.ndX z6 (14:Nat)) (Lpn.ndX g_1 (14:Nat)))/\Sx.SVle [] [] (Lpn.ndX z6 (15:Nat)) (Lpn.ndX g_1 (15:Nat)))/\Sx.SVle [] [] (Lpn.ndX z6 (16:Nat)) (Lpn.ndX g_1 (16:Nat)))/\Sx.SVle [] [] (Lpn.ndX z6 (17:Nat)) (Lpn.ndX g_1 (17:Nat)))/\Sx.SVle [] [] (Lpn.ndX z6 (18:Nat)) (Lpn.ndX g_1 (18:Nat)))/\Sx.SVle [] [] (Lpn.ndX z6 (19:Nat)) (Lpn.ndX g_1 (19:Nat)))/\Sx.SVle [] [] (Lpn.ndX z6 (20:Nat)) (Lpn.ndX g_1 (20:Nat)))/\Sx.SVle [] [] (Lpn.ndX z6 (21:Nat)) (Lpn.ndX g_1 (21:Nat)))/\Sx.SVle [] [] (Lpn.ndX z6 (22:Nat)) (Lpn.ndX g_1 (22:Nat)))/\Sx.SVle [] [] (Lpn.ndX z6 (23:Nat)) (Lpn.ndX g_1 (23:Nat)))/\Sx.SVle [] [] (Lpn.ndX z6 (24:Nat)) (Lpn.ndX g_1 (24:Nat)))/\Sx.SVle [] [] (Lpn.ndX z6 (25:Nat)) (Lpn.ndX g_1 (25:Nat)))/\Sx.SVle [] [] (Lpn.ndX z6 (26:Nat)) (Lpn.ndX g_1 (26:Nat)))/\Sx.SVle [] [] (Lpn.ndX z6 (27:Nat)) (Lpn.ndX g_1 (27:Nat)))/\Sx.SVle [] [] (Lpn.ndX z6 (28:Nat)) (Lpn.ndX g_1 (28:Nat)))/\Sx.SVle [] [] (Lpn.ndX z6 (29:Nat)) (Lpn.ndX g_1 (29:Nat)))/\Sx.SVle [] [] (Lpn.ndX z6 (30:Nat)) (Lpn.ndX g_1 (30:Nat)))/\Sx.SVle [] [] (Lpn.ndX z6 (31:Nat)) (Lpn.ndX g_1 (31:Nat)))/\Sx.SVle [] [] (Lpn.ndX z6 (32:Nat)) (Lpn.ndX g_1 (32:Nat)))/\Sx.SVle [] [] (Lpn.ndX z6 (33:Nat)) (Lpn.ndX g_1 (33:Nat)))/\Sx.SVle [] [] (Lpn.ndX z6 (34:Nat)) (Lpn.ndX g_1 (34:Nat)))/\Sx.SVle [] [] (Lpn.ndX z6 z25) (Lpn.ndX g_1 z25))/\Sx.SVle [] [] (Lpn.ndX z6 (36:Nat)) (Lpn.ndX g_1 (36:Nat)))/\A z10/\A z10/\A z10/\z2/\z12/\(q9 z24)/\True)/\z3/\z4/\z13/\z13/\True)/\(∀ h:FmG,let z8:=(Lpr.RcG.mk (↑h.t:Int).toNat h.x s ns (z0.pt g) (z0.pt g)); (mbF z0 g).pre h->True/\True/\True/\True/\True/\True/\True/\True/\True/\True/\True/\True/\((True/\(z4/\(A (h.x.nr=h.x.nr)/\∀ i:Nat,let z26:=(h.x.runs i); i<h.x.nr->(((True/\q9 z26.y)/\q9 z26.x0)/\q9 z26.x1))/\(A ((63:Nat)=(63:Go.FuncId))/\(((True/\A z10)/\A z10)/\A z10)/\A z10)/\True)/\(True/\(((Lsg.qT True h.x h.x)/\A z9/\A ((↑h.t:Int)=(↑(↑h.t:Int).toNat:Int)))/\Sx.SVle [] [] (Lpa.fcS h.t h.x (Lpa.srcX h.x.src) z25) (Lpa.fcS (↑h.t:Int).toNat h.x (Lpa.srcX h.x.src) z25))/\A ((86:Go.FuncId)=(86:Go.FuncId))/\True/\True/\A ((112:Go.FuncId)=(112:Go.FuncId))/\True/\True/\A (Blend.aa6 h.x.blend.toNat=Blend.aa6 h.x.blend.toNat)/\True)/\z4/\z13/\z13/\z3/\True)/\A (Lpr.RcOK z8/\z0.pt g=z0.pt g))/\A z11/\True/\∃ (g':Nat),A ((ptI z0).pre g')/\True/\((A z10/\A z10/\A z10/\z2/\z12/\(A z9/\A (z24+(1:Int)=(↑g':Int)))/\True)/\(A (ns=ns)/\∀ i:Nat,i<ns->(((((((((True/\A z5/\A (z8.at h.x.nr i z15=z0.pt g' i z15))/\A z5/\A (z8.at h.x.nr i z16=z0.pt g' i z16))/\A z5/\A (z8.at h.x.nr i z17=z0.pt g' i z17))/\A z5/\A (z8.at h.x.nr i z18=z0.pt g' i z18))/\A z5/\A (z8.at h.x.nr i z19=z0.pt g' i z19))/\A z5/\A (z8.at h.x.nr i z20=z0.pt g' i z20))/\A z5/\A (z8.at h.x.nr i z21=z0.pt g' i z21))/\A z5/\A (z8.at h.x.nr i z22=z0.pt g' i z22))/\A z5/\A (z8.at h.x.nr i z23=z0.pt g' i z23)))/\z4/\z13/\z13/\True)/\A ((ptI z0).meas g'<(ptI z0).meas g))/\(∀ h:Lpn.Nd,let z7:=(Lpe.PnG.mk s (Lpn.ndX h) (Lpn.ndOf (Lpn.ndX h)) ns (z0.pt g) (z0.pt g)); (mbJ d z0 g).pre h->True/\True/\True/\True/\True/\True/\True/\True/\True/\True/\True/\((True/\(z4/\(Lsg.qV True (Lpn.ndX h) (Lpn.ndX h))/\True/\True/\True)/\z3/\True)/\A (Lpe.NsOK d z7/\z0.pt g=z0.pt g))/\A z11/\True/\∃ (g':Nat),A ((ptI z0).pre g')/\True/\((A z10/\A z10/\A z10/\z2/\z12/\(A z9/\A (z24+(1:Int)=(↑g':Int)))/\True)/\(A (ns=ns)/\∀ i:Nat,i<ns->(((((((((True/\A z5/\A (z7.nx i z15=z0.pt g' i z15))/\A z5/\A (z7.nx i z16=z0.pt g' i z16))/\A z5/\A (z7.nx i z17=z0.pt g' i z17))/\A z5/\A (z7.nx i z18=z0.pt g' i z18))/\A z5/\A (z7.nx i z19=z0.pt g' i z19))/\A z5/\A (z7.nx i z20=z0.pt g' i z20))/\A z5/\A (z7.nx i z21=z0.pt g' i z21))/\A z5/\A (z7.nx i z22=z0.pt g' i z22))/\A z5/\A (z7.nx i z23=z0.pt g' i z23)))/\z4/\z13/\z13/\True)/\A ((ptI z0).meas g'<(ptI z0).meas g))/\True) (True/\True/\z13/\(A (ns=ns)/\∀ i:Nat,i<ns->(((((((((True/\A z5/\A (z0.pt g i z15=z0.pt z1.n i z15))/\A z5/\A (z0.pt g i z16=z0.pt z1.n i z16))/\A z5/\A (z0.pt g i z17=z0.pt z1.n i z17))/\A z5/\A (z0.pt g i z18=z0.pt z1.n i z18))/\A z5/\A (z0.pt g i z19=z0.pt z1.n i z19))/\A z5/\A (z0.pt g i z20=z0.pt z1.n i z20))/\A z5/\A (z0.pt g i z21=z0.pt z1.n i z21))/\A z5/\A (z0.pt g i z22=z0.pt z1.n i z22))/\A z5/\A (z0.pt g i z23=z0.pt z1.n i z23)))/\True)) (by kernel_rfl) ?_
  delta Lsg.qG Lsg.qI Lsg.qM Lsg.qS Lsg.qT Lsg.qV
  simp only [aa4,aa8,eq_self,true_and,and_true,implies_true,forall_const,decide_eq_true_eq,decide_eq_false_iff_not,ne_eq,Nat.mul_one,Nat.add_zero,Nat.zero_add]
  have hs:∀ nd j,SVle [] [] (ndX nd j) (ndX nd j)=True:=fun nd j=>eq_true (SVle.refl [] [] (an7 nd j))
  have hs2:∀ (t:Nat) (x:It),SVle [] [] (fcS t x (srcX x.src) 35) (fcS t x (srcX x.src) 35)=True:=fun t x=>eq_true (SVle.refl [] [] (aw3 x.src))
  simp only [Nd.n,Nd.k,aq0,hs,hs2,Int.toNat_natCast,and_self,and_true,true_and,implies_true]
  generalize lst (itL _++_)=C at *
  generalize hX:It.mk kind nr runs src al bl ov iso false=X at *
  have hkn:X.knock=false:=by rw [<-hX]
  have hb':=hg.b
  have hn1:(ns:Int)=s.x1-s.x0:=hb'.n
  have hn2 : -8192<=s.x0:=hb'.x0
  have hn3:s.x1<=8192:=hb'.x1
  have hn4:0<ns:=hb'.pos
  have hm:m<=4294967296:=hg.n
  have hk:∀ a,a<m->NdOK d (k a):=hg.k
  have hst:∀ i,i<ns->isU9 (st i):=hb'.st
  have hpu:∀ q,q<=m->∀ i,i<ns->isU9 (PnG.pt ⟨s,C,.grp t mx X m k,ns,st,bs⟩ q i):=fun q hq i hi=>a16 hk (bd_xy hb' hi) (hst i hi) hq
  have hpt:∀ q i,PnG.pt ⟨s,C,.grp t mx X m k,ns,st,bs⟩ (q+1) i=(k q).pnt (s.x0+i) s.y ((PnG.pt ⟨s,C,.grp t mx X m k,ns,st,bs⟩ q) i) (PnG.pt ⟨s,C,.grp t mx X m k,ns,st,bs⟩ q i):=fun q i=>by
   have h1:PnG.pt ⟨s,C,.grp t mx X m k,ns,st,bs⟩ (q+1) i=(k q).pnt (s.x0+i) s.y (if X.knock=true then st i else PnG.pt ⟨s,C,.grp t mx X m k,ns,st,bs⟩ q i) (PnG.pt ⟨s,C,.grp t mx X m k,ns,st,bs⟩ q i):=rfl
   rw [h1,hkn]
   rfl
  refine ⟨⟨0,Nat.zero_le _,rfl,fun i _=>all9 fun j=>rfl⟩,fun q hq=>?_⟩
  have hq:q<=m:=hq
  refine ⟨fun hlt=>?_,fun hge i hi=>?_⟩
  ·have hlt:q<m:=by omega
   have hu:=hpu q hq
   have hbu:∀ i,i<ns->isU9 ((PnG.pt ⟨s,C,.grp t mx X m k,ns,st,bs⟩ q) i):=hu
   have hmm:m-(q+1)<m-q:=by omega
   refine ⟨by omega,hand_mb _ _ _,⟨k q,⟨rfl,hk q hlt⟩,rfl,by simp only [hs,and_self]⟩,fun h hh=>?_,fun h hh=>?_⟩
   ·obtain ⟨x,hx⟩:∃ x,x=h.x:=⟨_,rfl⟩
    have h1:k q = .fill h.t h.x:=hh.1
    have hf:FillOK h.x:=hh.2.1
    have hv:Vr h.x.nr h.x.runs:=hh.2.2
    have e:∀ i,RcG.at ⟨h.t,h.x,s,ns,PnG.pt ⟨s,C,.grp t mx X m k,ns,st,bs⟩ q,(PnG.pt ⟨s,C,.grp t mx X m k,ns,st,bs⟩ q)⟩ h.x.nr i=PnG.pt ⟨s,C,.grp t mx X m k,ns,st,bs⟩ (q+1) i:=fun i=>by
     rw [hpt q i,h1]
     rfl
    have hrc:RcOK ⟨h.t,h.x,s,ns,PnG.pt ⟨s,C,.grp t mx X m k,ns,st,bs⟩ q,(PnG.pt ⟨s,C,.grp t mx X m k,ns,st,bs⟩ q)⟩:=⟨hf,hv,hb'.y,hn2,hn3,hn1,hu,hbu⟩
    exact ⟨hrc,by omega,q+1,hlt,⟨by simp,fun i hi=>all9 fun j=>congrFun (e i) j⟩,hmm⟩
   ·have h1:k q=h:=hh.1.1
    have h2:NdOK d h:=hh.1.2
    have h3:ndT h=TPg:=hh.2
    have e:∀ i,PnG.nx ⟨s,ndX h,h,ns,PnG.pt ⟨s,C,.grp t mx X m k,ns,st,bs⟩ q,(PnG.pt ⟨s,C,.grp t mx X m k,ns,st,bs⟩ q)⟩ i=PnG.pt ⟨s,C,.grp t mx X m k,ns,st,bs⟩ (q+1) i:=fun i=>by
     rw [hpt q i,h1]
     rfl
    have hno:NsOK d ⟨s,ndX h,h,ns,PnG.pt ⟨s,C,.grp t mx X m k,ns,st,bs⟩ q,(PnG.pt ⟨s,C,.grp t mx X m k,ns,st,bs⟩ q)⟩:=⟨rfl,h3,h2,hb'.y,hn2,hn3,hn1,hn4,hu,hbu⟩
    exact ⟨hno,by omega,q+1,hlt,⟨by simp,fun i hi=>all9 fun j=>congrFun (e i) j⟩,hmm⟩
  ·have h0:∀ j,PnG.pt ⟨s,C,.grp t mx X m k,ns,st,bs⟩ q i j=PnG.pt ⟨s,C,.grp t mx X m k,ns,st,bs⟩ m i j:=fun j=>by
    have:q=m:=by omega
    rw [this]
   exact all9 h0
set_option maxHeartbeats 1000000 in
theorem ok_pk1 {d:Nat}(hb:aa2 Tryz.prog (spNb d)):aa2 Tryz.prog (spPk d true):=by
 refine ad2 (specs:=[spClS,spRb,spNb d]) (aa9 (⟨ok_clS,ok_Rb,hb,trivial⟩)) (eqs:=[]) (fun _ _ h=>(List.not_mem_nil h).elim) Aff.mixed Tryz.func41 rfl (by kernel_rfl) (fun _ _=>by kernel_rfl) (fun g=>(⟨[(5,.nest (ptI g) (fun i=>[(5000008,.hand (mbI d g i) [mbF g i,mbJ d g i])]))],[]⟩:Ann)) true (fun g=>Nat.le_of_ble_eq_true (by kernel_rfl)) ?_
 rintro ⟨s,c,nd,ns,st,bs⟩ ⟨hg,hkn⟩
 have hc:c=ndX nd:=hg.c
 cases nd with
 | fill t x=>exact absurd (show TPf=TPg from hg.isg) (by decide)
 | grp t mx x m k=>
  rw [aj3] at hc
  subst hc
  obtain ⟨kind,nr,runs,src,al,bl,ov,iso,kn⟩:=x
  have hkn:kn=true:=hkn
  subst hkn
  refine ab5 (B:=let T11:=fun p:Prop=>True/\True/\True/\True/\True/\True/\True/\True/\True/\True/\True/\p;let V:=fun p:Sx.SV=>Sx.SVle [] [] p p;let K:=IntKind.i64;let A:=Sx.Ask;let z26:=(35:Nat);let z24:=(Lsg.It.mk kind nr runs src al bl ov iso true);let z23:=(8:Nat);let z22:=(7:Nat);let z21:=(6:Nat);let z20:=(5:Nat);let z19:=(4:Nat);let z18:=(3:Nat);let z17:=(2:Nat);let z16:=(True/\True);let z15:=(1:Nat);let z13:=(0:Nat);let z11:=(z13=z13);let z10:=(K=K);let q10:=fun p:Int=>A z10/\A (p=p);let z6:=(((True/\q10 s.y)/\q10 s.x0)/\q10 s.x1);let z5:=(IntKind.u8=IntKind.u8);let q5:=fun p:Int=>A z5/\A (p=p);let z3:=(A (ns=ns)/\∀ i:Nat,i<ns->(((((((((True/\q5 (st i z13))/\q5 (st i z15))/\q5 (st i z17))/\q5 (st i z18))/\q5 (st i z19))/\q5 (st i z20))/\q5 (st i z21))/\q5 (st i z22))/\q5 (st i z23)));let z1:=(Lpn.Nd.grp t mx z24 m k);let z28:=(↑z1.n:Int);let z14:=(q10 z28);let z2:=(A (z1.n=z1.n)/\∀ i:Nat,i<z1.n->True/\A (Lpn.ndT (z1.k i)=Lpn.ndT (z1.k i))/\((((((((((((((((((((((((((((((((((((True/\V (Lpn.ndX (z1.k i) 0))/\V (Lpn.ndX (z1.k i) 1))/\V (Lpn.ndX (z1.k i) 2))/\V (Lpn.ndX (z1.k i) 3))/\V (Lpn.ndX (z1.k i) 4))/\V (Lpn.ndX (z1.k i) 5))/\V (Lpn.ndX (z1.k i) 6))/\V (Lpn.ndX (z1.k i) 7))/\V (Lpn.ndX (z1.k i) 8))/\V (Lpn.ndX (z1.k i) (9:Nat)))/\V (Lpn.ndX (z1.k i) (10:Nat)))/\V (Lpn.ndX (z1.k i) (11:Nat)))/\V (Lpn.ndX (z1.k i) (12:Nat)))/\V (Lpn.ndX (z1.k i) (13:Nat)))/\V (Lpn.ndX (z1.k i) (14:Nat)))/\V (Lpn.ndX (z1.k i) (15:Nat)))/\V (Lpn.ndX (z1.k i) (16:Nat)))/\V (Lpn.ndX (z1.k i) (17:Nat)))/\V (Lpn.ndX (z1.k i) (18:Nat)))/\V (Lpn.ndX (z1.k i) (19:Nat)))/\V (Lpn.ndX (z1.k i) (20:Nat)))/\V (Lpn.ndX (z1.k i) (21:Nat)))/\V (Lpn.ndX (z1.k i) (22:Nat)))/\V (Lpn.ndX (z1.k i) (23:Nat)))/\V (Lpn.ndX (z1.k i) (24:Nat)))/\V (Lpn.ndX (z1.k i) (25:Nat)))/\V (Lpn.ndX (z1.k i) (26:Nat)))/\V (Lpn.ndX (z1.k i) (27:Nat)))/\V (Lpn.ndX (z1.k i) (28:Nat)))/\V (Lpn.ndX (z1.k i) (29:Nat)))/\V (Lpn.ndX (z1.k i) (30:Nat)))/\V (Lpn.ndX (z1.k i) (31:Nat)))/\V (Lpn.ndX (z1.k i) (32:Nat)))/\V (Lpn.ndX (z1.k i) (33:Nat)))/\V (Lpn.ndX (z1.k i) (34:Nat)))/\V (Lpn.ndX (z1.k i) 35))/\V (Lpn.ndX (z1.k i) (36:Nat)));let z0:=(Lpe.PnG.mk s (Sx.lst (Lsg.itL z24++[Sx.SV.int K t,Lpn.mxS z24 mx,Sx.SV.sl m z15 fun (a x:Nat)=>Sx.SV.ifc (Lpn.ndT (k a)) fun (x:Nat)=>Sx.SV.ref (37:Nat) (Lpn.ndX (k a))])) z1 ns st bs);T11 (((z3/\True)/\A (z13<ns/\ns<=(4294967296:Nat)))/\True/\True/\True/\True/\True/\True/\True/\(∃ g:Nat,A ((ptI z0).pre g)/\True/\(A z11/\A z11/\A z11/\(A (m=z1.n)/\∀ i:Nat,i<z1.n->True/\A (Lpn.ndT (k i)=Lpn.ndT (z1.k i))/\((((((((((((((((((((((((((((((((((((True/\Sx.SVle [] [] (Lpn.ndX (k i) z13) (Lpn.ndX (z1.k i) z13))/\Sx.SVle [] [] (Lpn.ndX (k i) z15) (Lpn.ndX (z1.k i) z15))/\Sx.SVle [] [] (Lpn.ndX (k i) z17) (Lpn.ndX (z1.k i) z17))/\Sx.SVle [] [] (Lpn.ndX (k i) z18) (Lpn.ndX (z1.k i) z18))/\Sx.SVle [] [] (Lpn.ndX (k i) z19) (Lpn.ndX (z1.k i) z19))/\Sx.SVle [] [] (Lpn.ndX (k i) z20) (Lpn.ndX (z1.k i) z20))/\Sx.SVle [] [] (Lpn.ndX (k i) z21) (Lpn.ndX (z1.k i) z21))/\Sx.SVle [] [] (Lpn.ndX (k i) z22) (Lpn.ndX (z1.k i) z22))/\Sx.SVle [] [] (Lpn.ndX (k i) z23) (Lpn.ndX (z1.k i) z23))/\Sx.SVle [] [] (Lpn.ndX (k i) (9:Nat)) (Lpn.ndX (z1.k i) (9:Nat)))/\Sx.SVle [] [] (Lpn.ndX (k i) (10:Nat)) (Lpn.ndX (z1.k i) (10:Nat)))/\Sx.SVle [] [] (Lpn.ndX (k i) (11:Nat)) (Lpn.ndX (z1.k i) (11:Nat)))/\Sx.SVle [] [] (Lpn.ndX (k i) (12:Nat)) (Lpn.ndX (z1.k i) (12:Nat)))/\Sx.SVle [] [] (Lpn.ndX (k i) (13:Nat)) (Lpn.ndX (z1.k i) (13:Nat)))/\Sx.SVle [] [] (Lpn.ndX (k i) (14:Nat)) (Lpn.ndX (z1.k i) (14:Nat)))/\Sx.SVle [] [] (Lpn.ndX (k i) (15:Nat)) (Lpn.ndX (z1.k i) (15:Nat)))/\Sx.SVle [] [] (Lpn.ndX (k i) (16:Nat)) (Lpn.ndX (z1.k i) (16:Nat)))/\Sx.SVle [] [] (Lpn.ndX (k i) (17:Nat)) (Lpn.ndX (z1.k i) (17:Nat)))/\Sx.SVle [] [] (Lpn.ndX (k i) (18:Nat)) (Lpn.ndX (z1.k i) (18:Nat)))/\Sx.SVle [] [] (Lpn.ndX (k i) (19:Nat)) (Lpn.ndX (z1.k i) (19:Nat)))/\Sx.SVle [] [] (Lpn.ndX (k i) (20:Nat)) (Lpn.ndX (z1.k i) (20:Nat)))/\Sx.SVle [] [] (Lpn.ndX (k i) (21:Nat)) (Lpn.ndX (z1.k i) (21:Nat)))/\Sx.SVle [] [] (Lpn.ndX (k i) (22:Nat)) (Lpn.ndX (z1.k i) (22:Nat)))/\Sx.SVle [] [] (Lpn.ndX (k i) (23:Nat)) (Lpn.ndX (z1.k i) (23:Nat)))/\Sx.SVle [] [] (Lpn.ndX (k i) (24:Nat)) (Lpn.ndX (z1.k i) (24:Nat)))/\Sx.SVle [] [] (Lpn.ndX (k i) (25:Nat)) (Lpn.ndX (z1.k i) (25:Nat)))/\Sx.SVle [] [] (Lpn.ndX (k i) (26:Nat)) (Lpn.ndX (z1.k i) (26:Nat)))/\Sx.SVle [] [] (Lpn.ndX (k i) (27:Nat)) (Lpn.ndX (z1.k i) (27:Nat)))/\Sx.SVle [] [] (Lpn.ndX (k i) (28:Nat)) (Lpn.ndX (z1.k i) (28:Nat)))/\Sx.SVle [] [] (Lpn.ndX (k i) (29:Nat)) (Lpn.ndX (z1.k i) (29:Nat)))/\Sx.SVle [] [] (Lpn.ndX (k i) (30:Nat)) (Lpn.ndX (z1.k i) (30:Nat)))/\Sx.SVle [] [] (Lpn.ndX (k i) (31:Nat)) (Lpn.ndX (z1.k i) (31:Nat)))/\Sx.SVle [] [] (Lpn.ndX (k i) (32:Nat)) (Lpn.ndX (z1.k i) (32:Nat)))/\Sx.SVle [] [] (Lpn.ndX (k i) (33:Nat)) (Lpn.ndX (z1.k i) (33:Nat)))/\Sx.SVle [] [] (Lpn.ndX (k i) (34:Nat)) (Lpn.ndX (z1.k i) (34:Nat)))/\Sx.SVle [] [] (Lpn.ndX (k i) z26) (Lpn.ndX (z1.k i) z26))/\Sx.SVle [] [] (Lpn.ndX (k i) (36:Nat)) (Lpn.ndX (z1.k i) (36:Nat)))/\(A z10/\A ((↑m:Int)=z28))/\(A z10/\A ((0:Int)=(↑g:Int)))/\True)/\(A (ns=ns)/\∀ i:Nat,i<ns->(((((((((True/\A z5/\A (st i z13=z0.pt g i z13))/\A z5/\A (st i z15=z0.pt g i z15))/\A z5/\A (st i z17=z0.pt g i z17))/\A z5/\A (st i z18=z0.pt g i z18))/\A z5/\A (st i z19=z0.pt g i z19))/\A z5/\A (st i z20=z0.pt g i z20))/\A z5/\A (st i z21=z0.pt g i z21))/\A z5/\A (st i z22=z0.pt g i z22))/\A z5/\A (st i z23=z0.pt g i z23)))/\z6/\z16/\z16/\z3/\True)/\∀ g:Nat,let z25:=(↑g:Int);let z12:=((-9223372036854775808:Int)<=z25+(1:Int)/\z25+(1:Int)<=(9223372036854775807:Int));let z7:=(z1.k z25.toNat);let z4:=(A (ns=ns)/\∀ i:Nat,i<ns->(((((((((True/\q5 (z0.pt g i z13))/\q5 (z0.pt g i z15))/\q5 (z0.pt g i z17))/\q5 (z0.pt g i z18))/\q5 (z0.pt g i z19))/\q5 (z0.pt g i z20))/\q5 (z0.pt g i z21))/\q5 (z0.pt g i z22))/\q5 (z0.pt g i z23))); (ptI z0).pre g->True/\Sx.Br (decide (z25<z28)) (A ((0:Int)<=z25/\z25<z28)/\True/\True/\True/\Sx.ak6 (nat_lit 49) (nat_lit 1) (mbI d z0 g) [mbF z0 g,mbJ d z0 g]/\(∃ g_1:Lpn.Nd,A ((mbI d z0 g).pre g_1)/\True/\((A (Lpn.ndT z7=Lpn.ndT g_1)/\((((((((((((((((((((((((((((((((((((True/\Sx.SVle [] [] (Lpn.ndX z7 z13) (Lpn.ndX g_1 z13))/\Sx.SVle [] [] (Lpn.ndX z7 z15) (Lpn.ndX g_1 z15))/\Sx.SVle [] [] (Lpn.ndX z7 z17) (Lpn.ndX g_1 z17))/\Sx.SVle [] [] (Lpn.ndX z7 z18) (Lpn.ndX g_1 z18))/\Sx.SVle [] [] (Lpn.ndX z7 z19) (Lpn.ndX g_1 z19))/\Sx.SVle [] [] (Lpn.ndX z7 z20) (Lpn.ndX g_1 z20))/\Sx.SVle [] [] (Lpn.ndX z7 z21) (Lpn.ndX g_1 z21))/\Sx.SVle [] [] (Lpn.ndX z7 z22) (Lpn.ndX g_1 z22))/\Sx.SVle [] [] (Lpn.ndX z7 z23) (Lpn.ndX g_1 z23))/\Sx.SVle [] [] (Lpn.ndX z7 (9:Nat)) (Lpn.ndX g_1 (9:Nat)))/\Sx.SVle [] [] (Lpn.ndX z7 (10:Nat)) (Lpn.ndX g_1 (10:Nat)))/\Sx.SVle [] [] (Lpn.ndX z7 (11:Nat)) (Lpn.ndX g_1 (11:Nat)))/\Sx.SVle [] [] (Lpn.ndX z7 (12:Nat)) (Lpn.ndX g_1 (12:Nat)))/\Sx.SVle [] [] (Lpn.ndX z7 (13:Nat)) (Lpn.ndX g_1 (13:Nat)))/\Sx.SVle [] [] (Lpn.ndX z7 (14:Nat)) (Lpn.ndX g_1 (14:Nat)))/\Sx.SVle [] [] (Lpn.ndX z7 (15:Nat)) (Lpn.ndX g_1 (15:Nat)))/\Sx.SVle [] [] (Lpn.ndX z7 (16:Nat)) (Lpn.ndX g_1 (16:Nat)))/\Sx.SVle [] [] (Lpn.ndX z7 (17:Nat)) (Lpn.ndX g_1 (17:Nat)))/\Sx.SVle [] [] (Lpn.ndX z7 (18:Nat)) (Lpn.ndX g_1 (18:Nat)))/\Sx.SVle [] [] (Lpn.ndX z7 (19:Nat)) (Lpn.ndX g_1 (19:Nat)))/\Sx.SVle [] [] (Lpn.ndX z7 (20:Nat)) (Lpn.ndX g_1 (20:Nat)))/\Sx.SVle [] [] (Lpn.ndX z7 (21:Nat)) (Lpn.ndX g_1 (21:Nat)))/\Sx.SVle [] [] (Lpn.ndX z7 (22:Nat)) (Lpn.ndX g_1 (22:Nat)))/\Sx.SVle [] [] (Lpn.ndX z7 (23:Nat)) (Lpn.ndX g_1 (23:Nat)))/\Sx.SVle [] [] (Lpn.ndX z7 (24:Nat)) (Lpn.ndX g_1 (24:Nat)))/\Sx.SVle [] [] (Lpn.ndX z7 (25:Nat)) (Lpn.ndX g_1 (25:Nat)))/\Sx.SVle [] [] (Lpn.ndX z7 (26:Nat)) (Lpn.ndX g_1 (26:Nat)))/\Sx.SVle [] [] (Lpn.ndX z7 (27:Nat)) (Lpn.ndX g_1 (27:Nat)))/\Sx.SVle [] [] (Lpn.ndX z7 (28:Nat)) (Lpn.ndX g_1 (28:Nat)))/\Sx.SVle [] [] (Lpn.ndX z7 (29:Nat)) (Lpn.ndX g_1 (29:Nat)))/\Sx.SVle [] [] (Lpn.ndX z7 (30:Nat)) (Lpn.ndX g_1 (30:Nat)))/\Sx.SVle [] [] (Lpn.ndX z7 (31:Nat)) (Lpn.ndX g_1 (31:Nat)))/\Sx.SVle [] [] (Lpn.ndX z7 (32:Nat)) (Lpn.ndX g_1 (32:Nat)))/\Sx.SVle [] [] (Lpn.ndX z7 (33:Nat)) (Lpn.ndX g_1 (33:Nat)))/\Sx.SVle [] [] (Lpn.ndX z7 (34:Nat)) (Lpn.ndX g_1 (34:Nat)))/\Sx.SVle [] [] (Lpn.ndX z7 z26) (Lpn.ndX g_1 z26))/\Sx.SVle [] [] (Lpn.ndX z7 (36:Nat)) (Lpn.ndX g_1 (36:Nat)))/\A z11/\A z11/\A z11/\z2/\z14/\(q10 z25)/\True)/\z4/\z6/\z16/\z16/\z3/\True)/\(∀ h:FmG,let z9:=(Lpr.RcG.mk (↑h.t:Int).toNat h.x s ns (z0.pt g) st); (mbF z0 g).pre h->T11 (True/\((True/\(z6/\(A (h.x.nr=h.x.nr)/\∀ i:Nat,let z27:=(h.x.runs i); i<h.x.nr->(((True/\q10 z27.y)/\q10 z27.x0)/\q10 z27.x1))/\(A ((63:Nat)=(63:Go.FuncId))/\(((True/\A z11)/\A z11)/\A z11)/\A z11)/\True)/\(True/\(((Lsg.qT True h.x h.x)/\A z10/\A ((↑h.t:Int)=(↑(↑h.t:Int).toNat:Int)))/\Sx.SVle [] [] (Lpa.fcS h.t h.x (Lpa.srcX h.x.src) z26) (Lpa.fcS (↑h.t:Int).toNat h.x (Lpa.srcX h.x.src) z26))/\A ((86:Go.FuncId)=(86:Go.FuncId))/\True/\True/\A ((112:Go.FuncId)=(112:Go.FuncId))/\True/\True/\A (Blend.aa6 h.x.blend.toNat=Blend.aa6 h.x.blend.toNat)/\True)/\z6/\z16/\z16/\z4/\z3/\True)/\A (Lpr.RcOK z9))/\A z12/\True/\∃ (g':Nat),A ((ptI z0).pre g')/\True/\((A z11/\A z11/\A z11/\z2/\z14/\(A z10/\A (z25+(1:Int)=(↑g':Int)))/\True)/\(A (ns=ns)/\∀ i:Nat,i<ns->(((((((((True/\A z5/\A (z9.at h.x.nr i z13=z0.pt g' i z13))/\A z5/\A (z9.at h.x.nr i z15=z0.pt g' i z15))/\A z5/\A (z9.at h.x.nr i z17=z0.pt g' i z17))/\A z5/\A (z9.at h.x.nr i z18=z0.pt g' i z18))/\A z5/\A (z9.at h.x.nr i z19=z0.pt g' i z19))/\A z5/\A (z9.at h.x.nr i z20=z0.pt g' i z20))/\A z5/\A (z9.at h.x.nr i z21=z0.pt g' i z21))/\A z5/\A (z9.at h.x.nr i z22=z0.pt g' i z22))/\A z5/\A (z9.at h.x.nr i z23=z0.pt g' i z23)))/\z6/\z16/\z16/\z3/\True)/\A ((ptI z0).meas g'<(ptI z0).meas g)))/\(∀ h:Lpn.Nd,let z8:=(Lpe.PnG.mk s (Lpn.ndX h) (Lpn.ndOf (Lpn.ndX h)) ns (z0.pt g) st); (mbJ d z0 g).pre h->T11 (((True/\(z6/\(Lsg.qV True (Lpn.ndX h) (Lpn.ndX h))/\True/\True/\True)/\z4/\z3/\True)/\A (Lpe.NsOK d z8))/\A z12/\True/\∃ (g':Nat),A ((ptI z0).pre g')/\True/\((A z11/\A z11/\A z11/\z2/\z14/\(A z10/\A (z25+(1:Int)=(↑g':Int)))/\True)/\(A (ns=ns)/\∀ i:Nat,i<ns->(((((((((True/\A z5/\A (z8.nx i z13=z0.pt g' i z13))/\A z5/\A (z8.nx i z15=z0.pt g' i z15))/\A z5/\A (z8.nx i z17=z0.pt g' i z17))/\A z5/\A (z8.nx i z18=z0.pt g' i z18))/\A z5/\A (z8.nx i z19=z0.pt g' i z19))/\A z5/\A (z8.nx i z20=z0.pt g' i z20))/\A z5/\A (z8.nx i z21=z0.pt g' i z21))/\A z5/\A (z8.nx i z22=z0.pt g' i z22))/\A z5/\A (z8.nx i z23=z0.pt g' i z23)))/\z6/\z16/\z16/\z3/\True)/\A ((ptI z0).meas g'<(ptI z0).meas g)))/\True) (True/\True/\z16/\(A (ns=ns)/\∀ i:Nat,i<ns->(((((((((True/\A z5/\A (z0.pt g i z13=z0.pt z1.n i z13))/\A z5/\A (z0.pt g i z15=z0.pt z1.n i z15))/\A z5/\A (z0.pt g i z17=z0.pt z1.n i z17))/\A z5/\A (z0.pt g i z18=z0.pt z1.n i z18))/\A z5/\A (z0.pt g i z19=z0.pt z1.n i z19))/\A z5/\A (z0.pt g i z20=z0.pt z1.n i z20))/\A z5/\A (z0.pt g i z21=z0.pt z1.n i z21))/\A z5/\A (z0.pt g i z22=z0.pt z1.n i z22))/\A z5/\A (z0.pt g i z23=z0.pt z1.n i z23)))/\True))) (by kernel_rfl) ?_
  delta Lsg.qG Lsg.qI Lsg.qM Lsg.qS Lsg.qT Lsg.qV
  simp only [aa4,aa8,eq_self,true_and,and_true,implies_true,forall_const,decide_eq_true_eq,decide_eq_false_iff_not,ne_eq,Nat.mul_one,Nat.add_zero,Nat.zero_add]
  have hs:∀ nd j,SVle [] [] (ndX nd j) (ndX nd j)=True:=fun nd j=>eq_true (SVle.refl [] [] (an7 nd j))
  have hs2:∀ (t:Nat) (x:It),SVle [] [] (fcS t x (srcX x.src) 35) (fcS t x (srcX x.src) 35)=True:=fun t x=>eq_true (SVle.refl [] [] (aw3 x.src))
  simp only [Nd.n,Nd.k,aq0,hs,hs2,Int.toNat_natCast,and_self,and_true,true_and,implies_true]
  generalize lst (itL _++_)=C at *
  generalize hX:It.mk kind nr runs src al bl ov iso true=X at *
  have hkn:X.knock=true:=by rw [<-hX]
  have hb':=hg.b
  have hn1:(ns:Int)=s.x1-s.x0:=hb'.n
  have hn2 : -8192<=s.x0:=hb'.x0
  have hn3:s.x1<=8192:=hb'.x1
  have hn4:0<ns:=hb'.pos
  have hm:m<=4294967296:=hg.n
  have hk:∀ a,a<m->NdOK d (k a):=hg.k
  have hst:∀ i,i<ns->isU9 (st i):=hb'.st
  have hpu:∀ q,q<=m->∀ i,i<ns->isU9 (PnG.pt ⟨s,C,.grp t mx X m k,ns,st,bs⟩ q i):=fun q hq i hi=>a16 hk (bd_xy hb' hi) (hst i hi) hq
  have hpt:∀ q i,PnG.pt ⟨s,C,.grp t mx X m k,ns,st,bs⟩ (q+1) i=(k q).pnt (s.x0+i) s.y (st i) (PnG.pt ⟨s,C,.grp t mx X m k,ns,st,bs⟩ q i):=fun q i=>by
   have h1:PnG.pt ⟨s,C,.grp t mx X m k,ns,st,bs⟩ (q+1) i=(k q).pnt (s.x0+i) s.y (if X.knock=true then st i else PnG.pt ⟨s,C,.grp t mx X m k,ns,st,bs⟩ q i) (PnG.pt ⟨s,C,.grp t mx X m k,ns,st,bs⟩ q i):=rfl
   rw [h1,hkn]
   rfl
  refine ⟨⟨by omega,by omega⟩,⟨0,Nat.zero_le _,rfl,fun i _=>all9 fun j=>rfl⟩,fun q hq=>?_⟩
  have hq:q<=m:=hq
  refine ⟨fun hlt=>?_,fun hge i hi=>?_⟩
  ·have hlt:q<m:=by omega
   have hu:=hpu q hq
   have hbu:∀ i,i<ns->isU9 (st i):=hst
   have hmm:m-(q+1)<m-q:=by omega
   refine ⟨by omega,hand_mb _ _ _,⟨k q,⟨rfl,hk q hlt⟩,rfl,by simp only [hs,and_self]⟩,fun h hh=>?_,fun h hh=>?_⟩
   ·obtain ⟨x,hx⟩:∃ x,x=h.x:=⟨_,rfl⟩
    have h1:k q = .fill h.t h.x:=hh.1
    have hf:FillOK h.x:=hh.2.1
    have hv:Vr h.x.nr h.x.runs:=hh.2.2
    have e:∀ i,RcG.at ⟨h.t,h.x,s,ns,PnG.pt ⟨s,C,.grp t mx X m k,ns,st,bs⟩ q,st⟩ h.x.nr i=PnG.pt ⟨s,C,.grp t mx X m k,ns,st,bs⟩ (q+1) i:=fun i=>by
     rw [hpt q i,h1]
     rfl
    have hrc:RcOK ⟨h.t,h.x,s,ns,PnG.pt ⟨s,C,.grp t mx X m k,ns,st,bs⟩ q,st⟩:=⟨hf,hv,hb'.y,hn2,hn3,hn1,hu,hbu⟩
    exact ⟨hrc,by omega,q+1,hlt,⟨by simp,fun i hi=>all9 fun j=>congrFun (e i) j⟩,hmm⟩
   ·have h1:k q=h:=hh.1.1
    have h2:NdOK d h:=hh.1.2
    have h3:ndT h=TPg:=hh.2
    have e:∀ i,PnG.nx ⟨s,ndX h,h,ns,PnG.pt ⟨s,C,.grp t mx X m k,ns,st,bs⟩ q,st⟩ i=PnG.pt ⟨s,C,.grp t mx X m k,ns,st,bs⟩ (q+1) i:=fun i=>by
     rw [hpt q i,h1]
     rfl
    have hno:NsOK d ⟨s,ndX h,h,ns,PnG.pt ⟨s,C,.grp t mx X m k,ns,st,bs⟩ q,st⟩:=⟨rfl,h3,h2,hb'.y,hn2,hn3,hn1,hn4,hu,hbu⟩
    exact ⟨hno,by omega,q+1,hlt,⟨by simp,fun i hi=>all9 fun j=>congrFun (e i) j⟩,hmm⟩
  ·have h0:∀ j,PnG.pt ⟨s,C,.grp t mx X m k,ns,st,bs⟩ q i j=PnG.pt ⟨s,C,.grp t mx X m k,ns,st,bs⟩ m i j:=fun j=>by
    have:q=m:=by omega
    rw [this]
   exact all9 h0
theorem ok_pt {d:Nat}(ha:aa2 Tryz.prog (spNa d)) (hb:aa2 Tryz.prog (spNb d)):aa2 Tryz.prog (spPt d):=
 specM_case (ok_pk0 ha) (ok_pk1 hb) fun g hg=>(Bool.eq_false_or_eq_true g.nd.x.knock).elim (fun h=> .inr ⟨hg,h⟩) (fun h=> .inl ⟨hg,h⟩)
theorem ok_all:∀ d,aa2 Tryz.prog (spNa d)/\aa2 Tryz.prog (spNb d)
 | 0=>⟨ok_na0,ok_nb0⟩
 | d+1=>by
  have h:=ok_all d
  have hp:=ok_pt h.1 h.2
  exact ⟨ok_na hp,ok_nb hp⟩
theorem ok_paintG (d:Nat):aa2 Tryz.prog (spPt d):=ok_pt (ok_all d).1 (ok_all d).2
end Go.Proofs.YthappngbapbkfaaGreat.Lpf
set_option linter.unusedSimpArgs false
set_option linter.unusedVariables false
namespace Go.Proofs.YthappngbapbkfaaGreat.Lrw
open Go.RowKit Sx Num Aff Afi Img Imh Imp Imq Rga Blend Ble Lsg Lta Lrd Lri Luc Lck Lgr Lcs Lst Lch Lcl Lgp Lsc Cmp Lpm Lpa Lpr Lbt Lpn Lpc Lpd Lpe Lpf
set_option maxRecDepth 100000
structure RoG where
 c:Nat->SV
 nd:Nd
 k:Nat
 y:Int
 x0:Int
 ns:Nat
structure RoOK (d:Nat) (g:RoG):Prop where
 c:g.c=ndX g.nd
 isg:ndT g.nd=TPg
 n:g.nd.n<=4294967296
 kid:∀ a,a<g.nd.n->NdOK d (g.nd.k a)
 k1:1<=g.k
 k8:g.k<=8
 y : -8192<=g.y/\g.y<8192
 x0 : -8192<=g.x0
 x1:g.x0+g.ns<=8192
 pos:0<g.ns
def ah0 (nd:Nd) (x y:Int):Cl:=pntK nd.k nd.x.knock x y ae6 nd.n
def ak4 (nd:Nd) (k:Nat) (x y:Int) (j:Nat):Int:=if j<k then ah0 nd x y (1+j) else 0
def roA (q i:Nat):Cl:=fun j=>if i<q then ae6 j else 0
def roO (g:RoG):SO:= .cells 2 (lst [.ref 37 g.c,.int .i64 g.k]) 75
def roI (g:RoG):Inv:=⟨Nat,fun i=>i<=g.ns,fun i=>⟨[(1,.int .i64 g.y),(2,.int .i64 g.x0),(3,.int .i64 (g.x0+g.ns)),(4,.own 0 0),(9,.osl 1 0),(19,.int .i64 g.ns),(20,.int .i64 i)],[roO g,stR g.ns (roA i)]⟩,fun i=>g.ns-i⟩
def roV (g:RoG) (q i j:Nat):Int:=if i<q then ak4 g.nd g.k (g.x0+i) g.y j else 0
def roJ (g:RoG):Inv:=⟨Nat,fun i=>i<=g.ns,fun i=>⟨[(4,.own 0 0),(11,.osl 2 0),(39,.osl 1 0),(40,.int .i64 g.ns),(41,.int .i64 i)],[roO g,stR g.ns (fun i=>ah0 g.nd (g.x0+i) g.y),.row 0 g.ns 8 (fun a j=> .int .u8 (roV g i a j)) 28]⟩,fun i=>g.ns-i⟩
theorem all8 {p:Nat->Prop}(h:∀ j,p j):((((((p 0/\p 1)/\p 2)/\p 3)/\p 4)/\p 5)/\p 6)/\p 7:=⟨⟨⟨⟨⟨⟨⟨h 0,h 1⟩,h 2⟩,h 3⟩,h 4⟩,h 5⟩,h 6⟩,h 7⟩
theorem roA_step (q i j:Nat):(bif decide (i=q/\0<=j/\j<9) then ae6 (j-0) else roA q i j)=bif decide (j<9) then roA (q+1) i j else roA q i j:=by
 by_cases hj:j<9
 ·rw [decide_eq_true hj,cond_true]
  by_cases hi:i=q
  ·rw [decide_eq_true ⟨hi,Nat.zero_le _,hj⟩,cond_true]
   unfold roA
   rw [if_pos (by omega)]
   rfl
  ·rw [decide_eq_false (fun h=>hi h.1),cond_false]
   unfold roA
   by_cases hc:i<q
   ·rw [if_pos hc,if_pos (by omega)]
   ·rw [if_neg hc,if_neg (by omega)]
 ·rw [decide_eq_false hj,decide_eq_false (fun h=>hj h.2.2),cond_false,cond_false]
theorem roV_step {g:RoG}(hk:g.k<=8) (q i j:Nat) (hj:j<8):(bif decide (q*8<=i*8+j/\i*8+j<q*8+g.k.min g.k) then ah0 g.nd (g.x0+q) g.y (1+(i*8+j-q*8)) else roV g q i j)=roV g (q+1) i j:=by
 have hm:g.k.min g.k=g.k:=Nat.min_self g.k
 rw [hm]
 unfold roV
 by_cases hi:i=q
 ·subst hi
  rw [if_neg (Nat.lt_irrefl i),if_pos (Nat.lt_succ_self i),show i*8+j-i*8=j by omega]
  unfold ak4
  by_cases hc:j<g.k
  ·rw [decide_eq_true (by omega),cond_true,if_pos hc]
  ·rw [decide_eq_false (by omega),cond_false,if_neg hc]
 ·rw [decide_eq_false (by omega),cond_false]
  by_cases hc:i<q
  ·rw [if_pos hc,if_pos (by omega)]
  ·rw [if_neg hc,if_neg (by omega)]
noncomputable def spRow (d:Nat):FSpec:=aa5 23 (γ:=RoG) (fun | [.agg _ p,.int _ y,.int _ x0,.int _ x1]=>some ⟨aw7 (p 0),ndOf (aw7 (p 0)),(Sx.intOf (p 1)).toNat,y,x0,(x1-x0).toNat⟩ | _=>none)
 (fun g=>[.agg 2 (lst [.ref 37 g.c,.int .i64 g.k]),.int .i64 g.y,.int .i64 g.x0,.int .i64 (g.x0+g.ns)]) (RoOK d) (fun g=> .sl g.ns 8 (fun i j=> .int .u8 (ak4 g.nd g.k (g.x0+i) g.y j)))
theorem ok_row (d:Nat):aa2 Tryz.prog (spRow d):=by
 refine aa1 (specs:=[Cmp.a08,spPt d]) (aa9 (⟨Cmp.ok_paper,ok_paintG d,trivial⟩)) (eqs:=[]) (fun _ _ h=>(List.not_mem_nil h).elim) Aff.mixed Tryz.func23 rfl (by kernel_rfl) (fun _ _=>by kernel_rfl) (fun g=>(⟨[(3,.inv (roI g)),(10,.inv (roJ g))],[(12,[.tmp 13])]⟩:Ann)) (fun g=>Nat.le_of_ble_eq_true (by kernel_rfl)) ?_
 rintro ⟨c,nd,k,y,x0,ns⟩ hg
 have hc:c=ndX nd:=hg.c
 cases nd with
 | fill t x=>exact absurd (show TPf=TPg from hg.isg) (by decide)
 | grp t mx x m kd=>
  rw [aj3] at hc
  subst hc
  refine ab5 (B:=let T4:=fun p:Prop=>True/\True/\True/\True/\p;let V:=fun p:Sx.SV=>Sx.SVle [] [] p p;let K:=IntKind.i64;let A:=Sx.Ask;let z31:=(-9223372036854775808:Int);let z29:=(9:Nat);let z26:=(9223372036854775807:Int);let z22:=(7:Nat);let z21:=(6:Nat);let z20:=(5:Nat);let z19:=(4:Nat);let z18:=(3:Nat);let z17:=(2:Nat);let z16:=(0:Int);let z15:=(↑k:Int);let z13:=(1:Nat);let z10:=(↑ns:Int);let z8:=(8:Nat);let z7:=(K=K);let q7:=fun p:Int=>A z7/\A (p=p);let z32:=(q7 (x0+z10));let z30:=(q7 z10);let z6:=(0:Nat);let z5:=(Lpn.Nd.grp t mx x m kd);let z3:=(IntKind.u8=IntKind.u8);let q3:=fun p:Int=>A z3/\A (p=p);let z0:=(Lsg.itL x++[Sx.SV.int K t,Lpn.mxS x mx,Sx.SV.sl m z13 fun (a x:Nat)=>Sx.SV.ifc (Lpn.ndT (kd a)) fun (x:Nat)=>Sx.SV.ref (37:Nat) (Lpn.ndX (kd a))]);let z24:=(((Lsg.qT True x x)/\q7 t)/\V (Sx.lst z0 (35:Nat)));let z12:=(Lpn.ndOf (Sx.lst z0));let z2:=(RoG.mk (Sx.lst z0) z5 k y x0 ns);let z1:=((True/\z24/\A (m=m)/\∀ i:Nat,i<m->True/\A (Lpn.ndT (kd i)=Lpn.ndT (kd i))/\((((((((((((((((((((((((((((((((((((True/\V (Lpn.ndX (kd i) 0))/\V (Lpn.ndX (kd i) 1))/\V (Lpn.ndX (kd i) 2))/\V (Lpn.ndX (kd i) 3))/\V (Lpn.ndX (kd i) 4))/\V (Lpn.ndX (kd i) 5))/\V (Lpn.ndX (kd i) 6))/\V (Lpn.ndX (kd i) 7))/\V (Lpn.ndX (kd i) 8))/\V (Lpn.ndX (kd i) 9))/\V (Lpn.ndX (kd i) (10:Nat)))/\V (Lpn.ndX (kd i) (11:Nat)))/\V (Lpn.ndX (kd i) (12:Nat)))/\V (Lpn.ndX (kd i) (13:Nat)))/\V (Lpn.ndX (kd i) (14:Nat)))/\V (Lpn.ndX (kd i) (15:Nat)))/\V (Lpn.ndX (kd i) (16:Nat)))/\V (Lpn.ndX (kd i) (17:Nat)))/\V (Lpn.ndX (kd i) (18:Nat)))/\V (Lpn.ndX (kd i) (19:Nat)))/\V (Lpn.ndX (kd i) (20:Nat)))/\V (Lpn.ndX (kd i) (21:Nat)))/\V (Lpn.ndX (kd i) (22:Nat)))/\V (Lpn.ndX (kd i) (23:Nat)))/\V (Lpn.ndX (kd i) (24:Nat)))/\V (Lpn.ndX (kd i) (25:Nat)))/\V (Lpn.ndX (kd i) (26:Nat)))/\V (Lpn.ndX (kd i) (27:Nat)))/\V (Lpn.ndX (kd i) (28:Nat)))/\V (Lpn.ndX (kd i) (29:Nat)))/\V (Lpn.ndX (kd i) (30:Nat)))/\V (Lpn.ndX (kd i) (31:Nat)))/\V (Lpn.ndX (kd i) (32:Nat)))/\V (Lpn.ndX (kd i) (33:Nat)))/\V (Lpn.ndX (kd i) (34:Nat)))/\V (Lpn.ndX (kd i) (35:Nat)))/\V (Lpn.ndX (kd i) (36:Nat)))/\q7 z15);T4 (A (z31<=x0+z10-x0/\x0+z10-x0<=z26)/\A (z16<=x0+z10-x0/\x0+z10-x0<=x0+z10-x0/\(↑z29:Int)*(x0+z10-x0)<=(140737488355328:Int)/\x0+z10-x0<=z26)/\T4 ((∃ g:Nat,A ((roI z2).pre g)/\((q7 y)/\(q7 x0)/\z32/\A (z6=z6)/\True/\(A z7/\A ((↑(x0+z10-x0).toNat:Int)=z10))/\(A z7/\A (z16=(↑g:Int)))/\True)/\z1/\(A ((x0+z10-x0).toNat=ns)/\∀ i:Nat,i<ns->(((((((((True/\A z3/\A (z16=roA g i z6))/\A z3/\A (z16=roA g i z13))/\A z3/\A (z16=roA g i z17))/\A z3/\A (z16=roA g i z18))/\A z3/\A (z16=roA g i z19))/\A z3/\A (z16=roA g i z20))/\A z3/\A (z16=roA g i z21))/\A z3/\A (z16=roA g i z22))/\A z3/\A (z16=roA g i z8)))/\True)/\∀ g:Nat,let z28:=(↑g:Int);let z4:=(Lpe.PnG.mk (Lrd.StG.mk y x0 (x0+z10)) (Sx.lst z0) z12 ns (roA g) (roA g)); (roI z2).pre g->True/\Sx.Br (decide (z28<z10)) (T4 ((True/\A True)/\A (z16<=z28/\z28<z10)/\A (z28.toNat<ns)/\A (z31<=z28+(1:Int)/\z28+(1:Int)<=z26)/\True/\∃ (g':Nat),A ((roI z2).pre g')/\(((q7 y)/\(q7 x0)/\z32/\A (z6=z6)/\True/\z30/\(A z7/\A (z28+(1:Int)=(↑g':Int)))/\True)/\z1/\(A (ns=ns)/\∀ i:Nat,i<ns->(((((((((True/\A z3/\A ((bif decide (i=z28.toNat/\z6<=z6/\z6<z6+z29) then Cmp.ae6 (z6-z6) else roA g i z6)=roA g' i z6))/\A z3/\A ((bif decide (i=z28.toNat/\z6<=z13/\z13<z6+z29) then Cmp.ae6 (z13-z6) else roA g i z13)=roA g' i z13))/\A z3/\A ((bif decide (i=z28.toNat/\z6<=z17/\z17<z6+z29) then Cmp.ae6 (z17-z6) else roA g i z17)=roA g' i z17))/\A z3/\A ((bif decide (i=z28.toNat/\z6<=z18/\z18<z6+z29) then Cmp.ae6 (z18-z6) else roA g i z18)=roA g' i z18))/\A z3/\A ((bif decide (i=z28.toNat/\z6<=z19/\z19<z6+z29) then Cmp.ae6 (z19-z6) else roA g i z19)=roA g' i z19))/\A z3/\A ((bif decide (i=z28.toNat/\z6<=z20/\z20<z6+z29) then Cmp.ae6 (z20-z6) else roA g i z20)=roA g' i z20))/\A z3/\A ((bif decide (i=z28.toNat/\z6<=z21/\z21<z6+z29) then Cmp.ae6 (z21-z6) else roA g i z21)=roA g' i z21))/\A z3/\A ((bif decide (i=z28.toNat/\z6<=z22/\z22<z6+z29) then Cmp.ae6 (z22-z6) else roA g i z22)=roA g' i z22))/\A z3/\A ((bif decide (i=z28.toNat/\z6<=z8/\z8<z6+z29) then Cmp.ae6 (z8-z6) else roA g i z8)=roA g' i z8)))/\True)/\A ((roI z2).meas g'<(roI z2).meas g))) (T4 (True/\True/\True/\((True/\((((True/\q7 y)/\q7 x0)/\q7 (x0+z10))/\(z24/\A (m=m)/\∀ i:Nat,i<m->True/\A (Lpn.ndT (kd i)=Lpn.ndT (kd i))/\((((((((((((((((((((((((((((((((((((True/\V (Lpn.ndX (kd i) 0))/\V (Lpn.ndX (kd i) 1))/\V (Lpn.ndX (kd i) 2))/\V (Lpn.ndX (kd i) 3))/\V (Lpn.ndX (kd i) 4))/\V (Lpn.ndX (kd i) 5))/\V (Lpn.ndX (kd i) 6))/\V (Lpn.ndX (kd i) 7))/\V (Lpn.ndX (kd i) 8))/\V (Lpn.ndX (kd i) 9))/\V (Lpn.ndX (kd i) (10:Nat)))/\V (Lpn.ndX (kd i) (11:Nat)))/\V (Lpn.ndX (kd i) (12:Nat)))/\V (Lpn.ndX (kd i) (13:Nat)))/\V (Lpn.ndX (kd i) (14:Nat)))/\V (Lpn.ndX (kd i) (15:Nat)))/\V (Lpn.ndX (kd i) (16:Nat)))/\V (Lpn.ndX (kd i) (17:Nat)))/\V (Lpn.ndX (kd i) (18:Nat)))/\V (Lpn.ndX (kd i) (19:Nat)))/\V (Lpn.ndX (kd i) (20:Nat)))/\V (Lpn.ndX (kd i) (21:Nat)))/\V (Lpn.ndX (kd i) (22:Nat)))/\V (Lpn.ndX (kd i) (23:Nat)))/\V (Lpn.ndX (kd i) (24:Nat)))/\V (Lpn.ndX (kd i) (25:Nat)))/\V (Lpn.ndX (kd i) (26:Nat)))/\V (Lpn.ndX (kd i) (27:Nat)))/\V (Lpn.ndX (kd i) (28:Nat)))/\V (Lpn.ndX (kd i) (29:Nat)))/\V (Lpn.ndX (kd i) (30:Nat)))/\V (Lpn.ndX (kd i) (31:Nat)))/\V (Lpn.ndX (kd i) (32:Nat)))/\V (Lpn.ndX (kd i) (33:Nat)))/\V (Lpn.ndX (kd i) (34:Nat)))/\V (Lpn.ndX (kd i) (35:Nat)))/\V (Lpn.ndX (kd i) (36:Nat)))/\True/\True)/\(A (ns=ns)/\∀ i:Nat,i<ns->(((((((((True/\q3 (roA g i z6))/\q3 (roA g i z13))/\q3 (roA g i z17))/\q3 (roA g i z18))/\q3 (roA g i z19))/\q3 (roA g i z20))/\q3 (roA g i z21))/\q3 (roA g i z22))/\q3 (roA g i z8)))/\True)/\A (Lpe.PtOK d z4))/\True/\True/\A (z16<=z10/\z10<=z10/\(↑z8:Int)*z10<=(140737488355328:Int)/\z10<=z26)/\T4 ((∃ g_1:Nat,A ((roJ z2).pre g_1)/\(A (z6=z6)/\True/\True/\z30/\(A z7/\A (z16=(↑g_1:Int)))/\True)/\z1/\(A (ns=ns)/\∀ i:Nat,let z25:=(x0+(↑i:Int)); i<ns->(((((((((True/\A z3/\A (z4.pt z12.n i z6=ah0 z5 z25 y z6))/\A z3/\A (z4.pt z12.n i z13=ah0 z5 z25 y z13))/\A z3/\A (z4.pt z12.n i z17=ah0 z5 z25 y z17))/\A z3/\A (z4.pt z12.n i z18=ah0 z5 z25 y z18))/\A z3/\A (z4.pt z12.n i z19=ah0 z5 z25 y z19))/\A z3/\A (z4.pt z12.n i z20=ah0 z5 z25 y z20))/\A z3/\A (z4.pt z12.n i z21=ah0 z5 z25 y z21))/\A z3/\A (z4.pt z12.n i z22=ah0 z5 z25 y z22))/\A z3/\A (z4.pt z12.n i z8=ah0 z5 z25 y z8)))/\(A (z10.toNat=ns)/\∀ i:Nat,i<ns->((((((((True/\A z3/\A (z16=roV z2 g_1 i z6))/\A z3/\A (z16=roV z2 g_1 i z13))/\A z3/\A (z16=roV z2 g_1 i z17))/\A z3/\A (z16=roV z2 g_1 i z18))/\A z3/\A (z16=roV z2 g_1 i z19))/\A z3/\A (z16=roV z2 g_1 i z20))/\A z3/\A (z16=roV z2 g_1 i z21))/\A z3/\A (z16=roV z2 g_1 i z22)))/\True)/\∀ g:Nat,let z9:=(↑g:Int);let z23:=(z9.toNat*z8+z6);let z14:=(x0+(↑z9.toNat:Int)); (roJ z2).pre g->True/\Sx.Br (decide (z9<z10)) (True/\A (z16<=z9/\z9<z10)/\A (z9.toNat<ns)/\T4 (True/\A (z16<=z9/\z9<z10)/\True/\True/\A (z16<=z15/\z15<=(↑z8:Int))/\True/\True/\True/\A (z16<=z15/\z15<=(↑z8:Int))/\A (z9.toNat*z8+z6+z15.toNat<=ns*z8)/\A (z31<=z9+(1:Int)/\z9+(1:Int)<=z26)/\True/\∃ (g':Nat),A ((roJ z2).pre g')/\((A (z6=z6)/\True/\True/\z30/\(A z7/\A (z9+(1:Int)=(↑g':Int)))/\True)/\z1/\(A (ns=ns)/\∀ i:Nat,let z11:=(x0+(↑i:Int)); i<ns->(((((((((True/\q3 (ah0 z5 z11 y z6))/\q3 (ah0 z5 z11 y z13))/\q3 (ah0 z5 z11 y z17))/\q3 (ah0 z5 z11 y z18))/\q3 (ah0 z5 z11 y z19))/\q3 (ah0 z5 z11 y z20))/\q3 (ah0 z5 z11 y z21))/\q3 (ah0 z5 z11 y z22))/\q3 (ah0 z5 z11 y z8)))/\(A (ns=ns)/\∀ i:Nat,i<ns->((((((((True/\A z3/\A ((bif decide (z9.toNat*z8+z6<=i*z8+z6/\i*z8+z6<z9.toNat*z8+z6+z15.toNat.min z15.toNat) then ah0 z5 z14 y (z6+(z6+(z13+(i*z8+z6-z23)))) else roV z2 g i z6)=roV z2 g' i z6))/\A z3/\A ((bif decide (z9.toNat*z8+z6<=i*z8+z13/\i*z8+z13<z9.toNat*z8+z6+z15.toNat.min z15.toNat) then ah0 z5 z14 y (z6+(z6+(z13+(i*z8+z13-z23)))) else roV z2 g i z13)=roV z2 g' i z13))/\A z3/\A ((bif decide (z9.toNat*z8+z6<=i*z8+z17/\i*z8+z17<z9.toNat*z8+z6+z15.toNat.min z15.toNat) then ah0 z5 z14 y (z6+(z6+(z13+(i*z8+z17-z23)))) else roV z2 g i z17)=roV z2 g' i z17))/\A z3/\A ((bif decide (z9.toNat*z8+z6<=i*z8+z18/\i*z8+z18<z9.toNat*z8+z6+z15.toNat.min z15.toNat) then ah0 z5 z14 y (z6+(z6+(z13+(i*z8+z18-z23)))) else roV z2 g i z18)=roV z2 g' i z18))/\A z3/\A ((bif decide (z9.toNat*z8+z6<=i*z8+z19/\i*z8+z19<z9.toNat*z8+z6+z15.toNat.min z15.toNat) then ah0 z5 z14 y (z6+(z6+(z13+(i*z8+z19-z23)))) else roV z2 g i z19)=roV z2 g' i z19))/\A z3/\A ((bif decide (z9.toNat*z8+z6<=i*z8+z20/\i*z8+z20<z9.toNat*z8+z6+z15.toNat.min z15.toNat) then ah0 z5 z14 y (z6+(z6+(z13+(i*z8+z20-z23)))) else roV z2 g i z20)=roV z2 g' i z20))/\A z3/\A ((bif decide (z9.toNat*z8+z6<=i*z8+z21/\i*z8+z21<z9.toNat*z8+z6+z15.toNat.min z15.toNat) then ah0 z5 z14 y (z6+(z6+(z13+(i*z8+z21-z23)))) else roV z2 g i z21)=roV z2 g' i z21))/\A z3/\A ((bif decide (z9.toNat*z8+z6<=i*z8+z22/\i*z8+z22<z9.toNat*z8+z6+z15.toNat.min z15.toNat) then ah0 z5 z14 y (z6+(z6+(z13+(i*z8+z22-z23)))) else roV z2 g i z22)=roV z2 g' i z22)))/\True)/\A ((roJ z2).meas g'<(roJ z2).meas g))) (True/\True/\True/\A (ns=ns)/\∀ i:Nat,let z27:=(x0+(↑i:Int)); i<ns->((((((((True/\A z3/\A (roV z2 g i z6=ak4 z5 k z27 y z6))/\A z3/\A (roV z2 g i z13=ak4 z5 k z27 y z13))/\A z3/\A (roV z2 g i z17=ak4 z5 k z27 y z17))/\A z3/\A (roV z2 g i z18=ak4 z5 k z27 y z18))/\A z3/\A (roV z2 g i z19=ak4 z5 k z27 y z19))/\A z3/\A (roV z2 g i z20=ak4 z5 k z27 y z20))/\A z3/\A (roV z2 g i z21=ak4 z5 k z27 y z21))/\A z3/\A (roV z2 g i z22=ak4 z5 k z27 y z22))))))))) (by kernel_rfl) ?_
  delta Lsg.qG Lsg.qI Lsg.qM Lsg.qS Lsg.qT
  simp only [aa4,aa8,eq_self,true_and,and_true,implies_true,forall_const,decide_eq_true_eq,decide_eq_false_iff_not,ne_eq,Nat.mul_one,Nat.add_zero,Nat.zero_add]
  have hs:∀ nd j,SVle [] [] (ndX nd j) (ndX nd j)=True:=fun nd j=>eq_true (SVle.refl [] [] (an7 nd j))
  have e:ndOf (lst (itL x++[.int .i64 t,mxS x mx,.sl m 1 (fun a _=> .ifc (ndT (kd a)) (fun _=> .ref 37 (ndX (kd a))))])) = .grp t mx x m kd:=by rw [<-aj3]; exact aq0 _
  simp only [e,hs,Int.toNat_natCast,and_self,and_true,true_and,implies_true]
  have hc:(lst (itL x++[.int .i64 t,mxS x mx,.sl m 1 (fun a _=> .ifc (ndT (kd a)) (fun _=> .ref 37 (ndX (kd a))))]))=ndX (.grp t mx x m kd):=(aj3 _ _ _ _ _).symm
  generalize lst (itL x++_)=C at *
  have hC:SVle [] [] (C 35) (C 35):=by rw [hc]; exact SVle.refl [] [] (an7 _ 35)
  have hy : -8192<=y/\y<8192:=hg.y
  have h0 : -8192<=x0:=hg.x0
  have h1:x0+ns<=8192:=hg.x1
  have hp:0<ns:=hg.pos
  have hk1:1<=k:=hg.k1
  have hk8:k<=8:=hg.k8
  have hm:m<=4294967296:=hg.n
  have hA:∀ q i,isU9 (roA q i):=fun q i j=>by
   unfold roA ae6
   split
   ·split<;>omega
   ·omega
  refine ⟨by omega,by omega,⟨0,Nat.zero_le _,⟨by omega,rfl⟩,hC,by omega,fun i _=>?_⟩,fun q hq=>⟨fun hlt=>?_,fun hge=>?_⟩⟩
  ·have hz:∀ j,(0:Int)=roA 0 i j:=fun j=>(if_neg (Nat.not_lt_zero i)).symm
   exact all9 hz
  ·have hlt:q<ns:=by omega
   have st:=roA_step q
   exact ⟨by omega,hlt,by omega,q+1,hlt,⟨by simp,hC,fun i _=>⟨⟨⟨⟨⟨⟨⟨⟨st i 0,st i 1⟩,st i 2⟩,st i 3⟩,st i 4⟩,st i 5⟩,st i 6⟩,st i 7⟩,st i 8⟩⟩,(show ns-(q+1)<ns-q by omega)⟩
  ·have hq:q<=ns:=hq
   have hb:BdOK ⟨⟨y,x0,x0+ns⟩,C,.grp t mx x m kd,ns,roA q,roA q⟩:=⟨hy,h0,h1,by show (ns:Int)=x0+ns-x0; omega,hp,fun i _=>hA q i,fun i _=>hA q i⟩
   have hfin:∀ i,i<ns->PnG.pt ⟨⟨y,x0,x0+ns⟩,C,.grp t mx x m kd,ns,roA q,roA q⟩ m i=ah0 (.grp t mx x m kd) (x0+i) y:=fun i hi=>by
    have:roA q i=ae6:=funext fun j=>if_pos (by omega)
    show pntK kd x.knock (x0+i) y (roA q i) m=pntK kd x.knock (x0+i) y ae6 m
    rw [this]
   refine ⟨⟨hC,hc,rfl,hm,hg.kid,hb⟩,by omega,⟨0,Nat.zero_le _,rfl,hC,fun i hi=>all9 fun j=>congrFun (hfin i hi) j,fun i _=>?_⟩,fun r hr=>⟨fun hlt=>?_,fun hge i hi=>?_⟩⟩
   ·have hz:∀ j,(0:Int)=roV ⟨C,.grp t mx x m kd,k,y,x0,ns⟩ 0 i j:=fun j=>(if_neg (Nat.not_lt_zero i)).symm
    exact all8 hz
   ·have hlt:r<ns:=by omega
    have st:=fun i j h=>roV_step (g:=⟨C,.grp t mx x m kd,k,y,x0,ns⟩) hk8 r i j h
    exact ⟨by omega,hlt,by omega,by omega,by omega,by omega,by omega,r+1,hlt,⟨by simp,hC,fun i _=>⟨⟨⟨⟨⟨⟨⟨st i 0 (by decide),st i 1 (by decide)⟩,st i 2 (by decide)⟩,st i 3 (by decide)⟩,st i 4 (by decide)⟩,st i 5 (by decide)⟩,st i 6 (by decide)⟩,st i 7 (by decide)⟩⟩,(show ns-(r+1)<ns-r by omega)⟩
   ·have hz:∀ j,roV ⟨C,.grp t mx x m kd,k,y,x0,ns⟩ r i j=ak4 (.grp t mx x m kd) k (x0+i) y j:=fun j=>if_pos (by omega)
    exact all8 hz
end Go.Proofs.YthappngbapbkfaaGreat.Lrw
set_option linter.unusedSimpArgs false
set_option linter.unusedVariables false
namespace Go.Proofs.YthappngbapbkfaaGreat.Lto
open Go.RowKit Sx Num Aff Afi Img Imh Imp Imq Rga Blend Ble Lsg Lta Lrd Lri Luc Lck Lgr Lcs Lst Lch Lcl Lgp Lsc Cmp Lpm Lpa Lpr Lbt Lpn Lpc Lpd Lpe Lpf Lrw
theorem spec_res {P:Program}{f:FuncId}{γ:Type}{dec:List SV->Option γ}{args:γ->List SV}{pre:γ->Prop}{res res':γ->SV}(h:aa2 P (aa5 f dec args pre res)) (hp:∀ g,pre g->ac3 6 (res g)=true) (hl:∀ g,pre g->SVle [] [] (res g) (res' g)):aa2 P (aa5 f dec args pre res'):=by
 refine ⟨h.1,fun _ _ _ _ _ _ _ hr=>hr,fun l H nm y hrun hask w0 X0 E w hrep hf vals ha=>?_⟩
 simp only [aa5] at hrun
 split at hrun
 case h_2=>cases hrun
 rename_i hpu
 split at hrun
 case h_2=>cases hrun
 rename_i g hdec
 cases hrun
 obtain ⟨hle,⟨hpre⟩⟩:=hask
 refine (h.2.2 l H nm ⟨aa5.leArgs l (args g)/\Sx.Ask (pre g),res g,.keep⟩ (by simp only [aa5,hpu,hdec]) ⟨hle,⟨hpre⟩⟩ w0 X0 E w hrep hf vals ha).mono ?_
 rintro e w' ⟨v,rfl,E',a1,a2,a3,a4,a5,a6⟩
 exact ⟨v,rfl,E',a1,a2,a3,a4,up (a15 (fun _ hb=>hb) (hl g hpre) (ad8 6 _ _ (hp g hpre) a5)),a6⟩
def ndG (L:LsG) (B:Bld):Nat->Nat->Nd
 | 0,_=> .grp 0 true zIt 0 (fun _=> .fill 0 zIt)
 | f+1,g=> .grp (if g=0 then -1 else (B.it g:Nat)) (decide (g=0)) (if g=0 then zIt else L.it (B.it g)) (B.m g) fun a=>match B.kid g a with
  | none=> .fill (B.leaf g a) (L.it (B.leaf g a))
  | some k=>ndG L B f k
theorem ndG_T (L:LsG) (B:Bld) (f g:Nat):ndT (ndG L B f g)=TPg:=by cases f<;>rfl
theorem lst_lt {l:List SV}{j:Nat}(h:l.length<=j):lst l j = .any:=by
 show l.getD j .any = .any
 rw [List.getD_eq_getElem?_getD,List.getElem?_eq_none h]; rfl
theorem ndG_le {L:LsG}{B:Bld}{i:Nat}(hb:BldOK B i):∀ f g,g<B.n->B.n<=g+f->SVle [] [] (.ref 37 (grpC L B f g)) (.ref 37 (ndX (ndG L B f g))):=by
 intro f
 induction f with
 | zero=>intro g h1 h2; omega
 | succ f ih=>
  intro g hg hf
  have e:ndX (ndG L B (f+1) g)=lst (itL (if g=0 then zIt else L.it (B.it g))++[.int .i64 (if g=0 then -1 else (B.it g:Nat)),mxS (if g=0 then zIt else L.it (B.it g)) (decide (g=0)),.sl (B.m g) 1 (fun a _=> .ifc (ndT (match B.kid g a with
   | none=> .fill (B.leaf g a) (L.it (B.leaf g a))
   | some k=>ndG L B f k)) (fun _=> .ref 37 (ndX (match B.kid g a with
   | none=> .fill (B.leaf g a) (L.it (B.leaf g a))
   | some k=>ndG L B f k))))]):=aj3 _ _ _ _ _
  show (if 37<=37 then allN 37 fun j=>SVle [] [] (grpC L B (f+1) g j) (ndX (ndG L B (f+1) g) j) else False)
  rw [if_pos (Nat.le_refl 37),e]
  refine aq8 (fun j=>?_) 37
  by_cases hj:j=36
  ·subst hj
   show (if 1=1 then Sx.Ask (B.m g=B.m g)/\∀ a,a<B.m g->allN 1 fun j=>SVle [] [] (.ifc ((B.kid g a).elim TPf fun _=>TPg) (fun _=> .ref 37 ((B.kid g a).elim (lfC L B g a) (grpC L B f)))) _ else False)
   rw [if_pos rfl]
   refine ⟨⟨rfl⟩,fun a ha=>⟨trivial,?_⟩⟩
   cases hk:B.kid g a with
   | none=>
    refine ⟨⟨rfl⟩,?_⟩
    show SVle [] [] (.ref 37 (lfC L B g a)) (.ref 37 (ndX (.fill (B.leaf g a) (L.it (B.leaf g a)))))
    have e2:lfC L B g a=ndX (.fill (B.leaf g a) (L.it (B.leaf g a))):=by
     rw [aD8,ar6]; rfl
    rw [e2]
    exact SVle.refl [] [] (fun j=>an7 _ j)
   | some k=>
    have hkid:=hb.kid g a k hg ha hk
    exact ⟨⟨(ndG_T L B f k).symm⟩,ih k hkid.2 (by omega)⟩
  ·by_cases hl:37<=j
   ·rw [lst_lt (by simpa [itL,srcL,inkL,imgL] using hl)]
    unfold SVle
    exact True.intro
   ·have h1:grpC L B (f+1) g j=hdF L B g j:=by
     show (bif Nat.beq j 36 then _ else hdF L B g j)=_
     have:Nat.beq j 36=false:=by
      cases h:Nat.beq j 36 with
      | false=>rfl
      | true=>exact absurd (Nat.eq_of_beq_eq_true h) hj
     rw [this]; rfl
    have h2:∀ (l:List SV) (s:SV),l.length=36->lst (l++[s]) j=lst l j:=fun l s h=>a38 (by omega)
    have h3:hdF L B g j=lst (itL (if g=0 then zIt else L.it (B.it g))++[.int .i64 (if g=0 then -1 else (B.it g:Nat)),mxS (if g=0 then zIt else L.it (B.it g)) (decide (g=0))]) j:=by
     unfold hdF
     by_cases hg0:g=0
     ·rw [if_pos hg0,if_pos hg0,if_pos hg0,decide_eq_true hg0]; rfl
     ·rw [if_neg hg0,if_neg hg0,if_neg hg0,decide_eq_false hg0]; rfl
    have h4:=h2 (itL (if g=0 then zIt else L.it (B.it g))++[.int .i64 (if g=0 then -1 else (B.it g:Nat)),mxS (if g=0 then zIt else L.it (B.it g)) (decide (g=0))]) (.sl (B.m g) 1 (fun a _=> .ifc (ndT (match B.kid g a with
   | none=> .fill (B.leaf g a) (L.it (B.leaf g a))
   | some k=>ndG L B f k)) (fun _=> .ref 37 (ndX (match B.kid g a with
   | none=> .fill (B.leaf g a) (L.it (B.leaf g a))
   | some k=>ndG L B f k))))) (by simp [itL,srcL,inkL,imgL])
    rw [List.append_assoc] at h4
    have h5:=h4.trans h3.symm
    have h6:SVle [] [] (hdF L B g j) (hdF L B g j):=SVle.refl [] [] (hdF_own L B g j)
    rw [h1]
    exact h5▸h6
structure LsU8 (L:LsG):Prop where
 alpha:∀ i,i<L.n->0<=(L.it i).alpha/\(L.it i).alpha<=255
 ink:∀ i,i<L.n->u8i (L.it i).src.ink
 st:∀ i,i<L.n->∀ j,j<(L.it i).src.ns->u8i ((L.it i).src.st j).ink
 px:∀ i,i<L.n->∀ j,j<(L.it i).src.img.n->an8 ((L.it i).src.img.px j)
 sf:∀ i,i<L.n->∀ j,j<(L.it i).src.img.sn->0<=(L.it i).src.img.sf j/\(L.it i).src.img.sf j<=255
 nr:∀ i,i<L.n->(L.it i).nr<=9223372036854775807
structure ChkOK (L:LsG):Prop where
 w:1<=L.w/\L.w<=256
 h:1<=L.h/\L.h<=256
 ni:1<=L.ni/\L.ni<=8
 n:L.n<=5000
 it:∀ i,i<L.n->itE L i=0
theorem aZ5 {L:LsG}(h:chkL L=0):ChkOK L:=by
 unfold chkL at h
 split at h
 ·omega
 split at h
 ·omega
 split at h
 ·omega
 split at h
 ·omega
 split at h
 ·omega
 rename_i h1 h2 h3 h4 h5
 exact ⟨by omega,by omega,by omega,by omega,fun i hi=>ay0 _ _ (Classical.not_not.1 h5) i (Nat.zero_le _) (by omega)⟩
theorem cs_ok {s:Src}{n:Nat}(h:csE s n=0) (h1:u8i s.ink) (h2:∀ j,j<s.ns->u8i (s.st j).ink) (h3:∀ j,j<s.img.n->an8 (s.img.px j)) (h4:∀ j,j<s.img.sn->0<=s.img.sf j/\s.img.sf j<=255):SrcOK s:=by
 unfold csE at h
 refine ⟨h1,fun k0 k3=>?_,fun k3=>?_⟩
 ·rw [if_neg k0] at h
  split at h
  ·split at h
   ·omega
   ·rename_i h5
    exact ⟨Classical.not_not.1 h5,h2⟩
  ·omega
 ·rw [if_neg (by omega),if_neg (by omega),if_pos k3] at h
  split at h
  ·omega
  ·split at h
   ·omega
   ·rename_i h5
    exact ⟨Classical.not_not.1 h5,h3,h4⟩
structure ItOK (L:LsG) (i:Nat):Prop where
 kind:(L.it i).kind=0\/(L.it i).kind=1\/(L.it i).kind=2
 blend:0<=(L.it i).blend/\(L.it i).blend<=11
 close:(L.it i).kind=2->opI L i≠0
 opn:(L.it i).kind=1->opI L i<16
 fill:(L.it i).kind=0->ai3 ⟨(L.it i).nr,(L.it i).runs⟩=0/\csE (L.it i).src L.ni=0
theorem it_ok {L:LsG}{i:Nat}(h:itE L i=0):ItOK L i:=by
 unfold itE ciE at h
 split at h
 ·omega
 split at h
 ·omega
 split at h
 ·omega
 split at h
 ·omega
 split at h
 ·omega
 rename_i h1 h2 h3 h4 h5
 refine ⟨by omega,by omega,fun hk ho=>h3 ⟨hk,ho⟩,fun hk=>by omega,fun hk=>?_⟩
 rw [if_neg (by omega)] at h
 split at h
 ·rename_i h6; exact absurd h h6
 ·rename_i h6; exact ⟨Classical.not_not.1 h6,h⟩
theorem bld_d {L:LsG}(hc:ChkOK L):∀ i,i<=L.n->0<=opI L i/\((bld L i).d:Int)=opI L i+1
 | 0,_=>by simp [opI,bld]
 | i+1,hi=>by
  have ih:=bld_d hc i (by omega)
  have hit:=it_ok (hc.it i (by omega))
  simp only [opI,bld,aF2]
  rcases hit.kind with hk | hk | hk
  ·rw [if_neg (by omega),if_neg (by omega),if_pos hk]
   exact ih
  ·rw [if_pos hk,if_neg (by omega),if_pos hk]
   show 0<=opI L i+1/\(((bld L i).d+1:Nat):Int)=_
   omega
  ·rw [if_neg (by omega),if_pos hk,if_neg (by omega),if_neg (by omega)]
   have:=hit.close hk
   show 0<=opI L i-1/\(((bld L i).d-1:Nat):Int)=_
   omega
theorem ls_ok {L:LsG}(hc:ChkOK L):LsOK L:=by
 refine ⟨hc.n,fun i hi=>?_,fun i hi=>(it_ok (hc.it i hi)).blend,fun i hi hk=>?_⟩
 ·have:=(it_ok (hc.it i hi)).kind; omega
 ·have h1:=(it_ok (hc.it i hi)).close hk
  have h2:=bld_d hc i (by omega)
  omega
theorem fill_ok {L:LsG}(hc:ChkOK L) (hu:LsU8 L) {i:Nat}(hi:i<L.n) (hk:(L.it i).kind=0):FillOK (L.it i)/\Vr (L.it i).nr (L.it i).runs:=by
 have hit:=it_ok (hc.it i hi)
 have hf:=hit.fill hk
 exact ⟨⟨cs_ok hf.2 (hu.ink i hi) (hu.st i hi) (hu.px i hi) (hu.sf i hi),hu.alpha i hi,hit.blend⟩,vr_of hf.1⟩
def GrpOK (L:LsG) (B:Bld) (i:Nat):Prop:=∀ g,0<g->g<B.n->B.it g<i/\(L.it (B.it g)).kind=1
theorem grp_ok {L:LsG}(h:LsOK L):∀ i,i<=L.n->GrpOK L (bld L i) i
 | 0,_=>fun g h0 hg=>by simp [bld] at hg; omega
 | i+1,hi=>by
  have ih:=grp_ok h i (by omega)
  simp only [bld,aF2]
  split
  ·intro g h0 hg
   have:=ih g h0 hg
   exact ⟨by have:=this.1; show (bld L i).it g<i+1; omega,this.2⟩
  ·split
   ·rename_i hk
    intro g h0 hg
    have hg:g<(bld L i).n+1:=hg
    show (if g=(bld L i).n then i else (bld L i).it g)<i+1/\(L.it (if g=(bld L i).n then i else (bld L i).it g)).kind=1
    by_cases e:g=(bld L i).n
    ·rw [if_pos e]; exact ⟨by omega,hk⟩
    ·rw [if_neg e]
     have:=ih g h0 (by omega)
     exact ⟨by omega,this.2⟩
   ·intro g h0 hg
    have:=ih g h0 hg
    exact ⟨by have:=this.1; show (bld L i).it g<i+1; omega,this.2⟩
theorem ndG_ok {L:LsG}(hc:ChkOK L) (hu:LsU8 L):∀ f g,0<g->g<(bld L L.n).n->(bld L L.n).n<=g+f->NdOK f (ndG L (bld L L.n) f g):=by
 have hl:=ls_ok hc
 have hb:=al1 hl L.n (Nat.le_refl _)
 have hlf:=aR5 hl L.n (Nat.le_refl _)
 have hgr:=grp_ok hl L.n (Nat.le_refl _)
 have hn:=hc.n
 intro f
 induction f with
 | zero=>intro g h0 h1 h2; omega
 | succ f ih=>
  intro g h0 hg hf
  have hgi:=hgr g h0 hg
  have e:ndG L (bld L L.n) (f+1) g = .grp ((bld L L.n).it g:Nat) false (L.it ((bld L L.n).it g)) ((bld L L.n).m g) fun a=>match (bld L L.n).kid g a with
   | none=> .fill ((bld L L.n).leaf g a) (L.it ((bld L L.n).leaf g a))
   | some k=>ndG L (bld L L.n) f k:=by
   show Nd.grp _ _ _ _ _=_
   rw [if_neg (by omega),if_neg (by omega),decide_eq_false (by omega)]
  rw [e]
  refine .grp (by have:=hb.m g hg; omega) rfl (hu.alpha _ hgi.1) (it_ok (hc.it _ hgi.1)).blend fun a ha=>?_
  cases hk:(bld L L.n).kid g a with
  | none=>
   have:=hlf g a hg ha hk
   have:=fill_ok hc hu this.1 this.2
   exact .fill this.1 this.2
  | some k=>
   have:=hb.kid g a k hg ha hk
   exact ih k (by omega) this.2 (by omega)
def ndP (L:LsG):Nd:=ndG L (bld L L.n) (Nat.succ (bld L L.n).n) 0
structure PgOK (d:Nat) (nd:Nd):Prop where
 isg:ndT nd=TPg
 n:nd.n<=4294967296
 kid:∀ a,a<nd.n->NdOK d (nd.k a)
theorem ndP_ok {L:LsG}(hc:ChkOK L) (hu:LsU8 L):PgOK (bld L L.n).n (ndP L):=by
 have hl:=ls_ok hc
 have hb:=al1 hl L.n (Nat.le_refl _)
 have hlf:=aR5 hl L.n (Nat.le_refl _)
 have hn:=hc.n
 refine ⟨rfl,(by show (bld L L.n).m 0<=_; have:=hb.m 0 hb.n1; omega),fun a ha=>?_⟩
 have ha:a<(bld L L.n).m 0:=ha
 show NdOK (bld L L.n).n (match (bld L L.n).kid 0 a with
   | none=> .fill ((bld L L.n).leaf 0 a) (L.it ((bld L L.n).leaf 0 a))
   | some k=>ndG L (bld L L.n) (bld L L.n).n k)
 cases hk:(bld L L.n).kid 0 a with
 | none=>
  have:=hlf 0 a hb.n1 ha hk
  have:=fill_ok hc hu this.1 this.2
  exact .fill this.1 this.2
 | some k=>
  have:=hb.kid 0 a k hb.n1 ha hk
  exact ndG_ok hc hu _ k (by omega) this.2 (by omega)
noncomputable def spTreeN:FSpec:=aa5 39 (γ:=LsG) (fun | [.agg _ g]=>some (lsD g) | _=>none) (fun g=>[lsS g]) LsOK (fun g=> .ref 37 (ndX (ndP g)))
theorem ok_treeN:aa2 Tryz.prog spTreeN:=spec_res ok_tree (fun _ _=>rfl) fun L hL=>ndG_le (al1 hL L.n (Nat.le_refl _)) _ 0 (al1 hL L.n (Nat.le_refl _)).n1 (by omega)
end Go.Proofs.YthappngbapbkfaaGreat.Lto
set_option linter.unusedSimpArgs false
set_option linter.unusedVariables false
namespace Go.Proofs.YthappngbapbkfaaGreat.Lat
open Go.RowKit Sx Num Aff Afi Img Imh Imp Imq Rga Blend Ble Lsg Lta Lrd Lri Luc Lck Lgr Lcs Lst Lch Lcl Lgp Lsc Cmp Lpm Lpa Lpr Lbt Lpn Lpc Lpd Lpe Lpf Lrw Lto
set_option maxRecDepth 100000
theorem spec_ex {P:Program}{f:FuncId}{γ δ:Type}{dec:List SV->Option γ}{args:γ->List SV}{pre:δ->γ->Prop}{res:γ->SV}(d0:δ) (h:∀ d,aa2 P (aa5 f dec args (pre d) res)):aa2 P (aa5 f dec args (fun g=>∃ d,pre d g) res):=by
 refine ⟨(h d0).1,fun _ _ _ _ _ _ _ hr=>hr,fun l H nm y hrun hask w0 X0 E w hrep hf vals ha=>?_⟩
 simp only [aa5] at hrun
 split at hrun
 case h_2=>cases hrun
 rename_i hpu
 split at hrun
 case h_2=>cases hrun
 rename_i g hdec
 cases hrun
 obtain ⟨hle,⟨d,hpre⟩⟩:=hask
 exact (h d).2.2 l H nm ⟨aa5.leArgs l (args g)/\Sx.Ask (pre d g),res g,.keep⟩ (by simp only [aa5,hpu,hdec]) ⟨hle,⟨hpre⟩⟩ w0 X0 E w hrep hf vals ha
noncomputable def spRowA:FSpec:=aa5 23 (γ:=RoG) (fun | [.agg _ p,.int _ y,.int _ x0,.int _ x1]=>some ⟨aw7 (p 0),ndOf (aw7 (p 0)),(Sx.intOf (p 1)).toNat,y,x0,(x1-x0).toNat⟩ | _=>none)
 (fun g=>[.agg 2 (lst [.ref 37 g.c,.int .i64 g.k]),.int .i64 g.y,.int .i64 g.x0,.int .i64 (g.x0+g.ns)]) (fun g=>∃ d,RoOK d g) (fun g=> .sl g.ns 8 (fun i j=> .int .u8 (ak4 g.nd g.k (g.x0+i) g.y j)))
theorem ok_rowA:aa2 Tryz.prog spRowA:=spec_ex 0 ok_row
noncomputable def spOfN:FSpec:=aa5 22 (γ:=LsG) (fun | [.agg _ g]=>some (lsD g) | _=>none) (fun g=>[lsS g]) LsOK (fun g=> .agg 2 (lst [.ref 37 (ndX (ndP g)),.int .i64 g.ni]))
theorem ok_ofN:aa2 Tryz.prog spOfN:=by
 refine aa1 (specs:=[spTreeN]) (aa9 (⟨ok_treeN,trivial⟩)) (eqs:=[]) (fun _ _ h=>(List.not_mem_nil h).elim) Aff.mixed Tryz.func22 rfl (by kernel_rfl) (fun _ _=>by kernel_rfl) (fun g=>A0) (fun g=>Nat.le_of_ble_eq_true (by kernel_rfl)) ?_
 rintro L hL
 refine ab5 (B:=let V:=fun p:Sx.SV=>Sx.SVle [] [] p p;let A:=Sx.Ask;let z1:=(IntKind.i64=IntKind.i64);let q1:=fun p:Int=>A z1/\A (p=p);let z0:=(Lto.ndP L);True/\True/\True/\((((((True/\q1 L.w)/\q1 L.h)/\A (L.ni=L.ni)/\∀ i:Nat,i<L.ni->True/\A (L.nm i=L.nm i))/\A (L.n=L.n)/\∀ i:Nat,i<L.n->(Lsg.qT True (L.it i) (L.it i)))/\True)/\A (Lta.LsOK L))/\True/\True/\True/\True/\True/\(True/\True)/\(True/\((((((((((((((((((((((((((((((((((((True/\V (Lpn.ndX z0 (0:Nat)))/\V (Lpn.ndX z0 (1:Nat)))/\V (Lpn.ndX z0 (2:Nat)))/\V (Lpn.ndX z0 (3:Nat)))/\V (Lpn.ndX z0 (4:Nat)))/\V (Lpn.ndX z0 (5:Nat)))/\V (Lpn.ndX z0 (6:Nat)))/\V (Lpn.ndX z0 (7:Nat)))/\V (Lpn.ndX z0 (8:Nat)))/\V (Lpn.ndX z0 (9:Nat)))/\V (Lpn.ndX z0 (10:Nat)))/\V (Lpn.ndX z0 (11:Nat)))/\V (Lpn.ndX z0 (12:Nat)))/\V (Lpn.ndX z0 (13:Nat)))/\V (Lpn.ndX z0 (14:Nat)))/\V (Lpn.ndX z0 (15:Nat)))/\V (Lpn.ndX z0 (16:Nat)))/\V (Lpn.ndX z0 (17:Nat)))/\V (Lpn.ndX z0 (18:Nat)))/\V (Lpn.ndX z0 (19:Nat)))/\V (Lpn.ndX z0 (20:Nat)))/\V (Lpn.ndX z0 (21:Nat)))/\V (Lpn.ndX z0 (22:Nat)))/\V (Lpn.ndX z0 (23:Nat)))/\V (Lpn.ndX z0 (24:Nat)))/\V (Lpn.ndX z0 (25:Nat)))/\V (Lpn.ndX z0 (26:Nat)))/\V (Lpn.ndX z0 (27:Nat)))/\V (Lpn.ndX z0 (28:Nat)))/\V (Lpn.ndX z0 (29:Nat)))/\V (Lpn.ndX z0 (30:Nat)))/\V (Lpn.ndX z0 (31:Nat)))/\V (Lpn.ndX z0 (32:Nat)))/\V (Lpn.ndX z0 (33:Nat)))/\V (Lpn.ndX z0 (34:Nat)))/\V (Lpn.ndX z0 (35:Nat)))/\V (Lpn.ndX z0 (36:Nat)))/\q1 ((↑L.ni:Int))) (by kernel_rfl) ?_
 delta Lsg.qG Lsg.qI Lsg.qM Lsg.qS Lsg.qT
 simp only [aa4,aa8,eq_self,true_and,and_true,implies_true,forall_const,decide_eq_true_eq,decide_eq_false_iff_not,ne_eq,Nat.mul_one,Nat.add_zero,Nat.zero_add]
 have hs:∀ nd j,SVle [] [] (ndX nd j) (ndX nd j)=True:=fun nd j=>eq_true (SVle.refl [] [] (an7 nd j))
 simp only [hs,and_self,and_true]
 exact hL
structure AtL where
 L:LsG
 x:Int
 y:Int
def AtL.e (g:AtL):Int:=if chkL g.L≠0 then chkL g.L else if g.x<0\/16*g.L.w<=g.x\/g.y<0\/16*g.L.h<=g.y then 3 else 0
def AtL.v (g:AtL) (j:Nat):Int:=if g.e=0 then ak4 (ndP g.L) g.L.ni g.x g.y j else 0
noncomputable def spAtL:FSpec:=aa5 10 (γ:=AtL) (fun | [.agg _ g,.int _ x,.int _ y]=>some ⟨lsD g,x,y⟩ | _=>none) (fun g=>[lsS g.L,.int .i64 g.x,.int .i64 g.y]) (fun g=>LsU8 g.L) (fun g=> .tup 2 (lst [.agg 8 (fun j=> .int .u8 (g.v j)),.int .i64 g.e]))
set_option maxHeartbeats 1000000 in
theorem ok_atL:aa2 Tryz.prog spAtL:=by
 refine aa1 (specs:=[spLchk,spOfN,spRowA]) (aa9 (⟨ok_lchk,ok_ofN,ok_rowA,trivial⟩)) (eqs:=[]) (fun _ _ h=>(List.not_mem_nil h).elim) Aff.mixed Tryz.func10 rfl (by kernel_rfl) (fun _ _=>by kernel_rfl) (fun g=>A0) (fun g=>Nat.le_of_ble_eq_true (by kernel_rfl)) ?_
 rintro ⟨L,x,y⟩ hL
 refine ab5 (B:=let T3:=fun p:Prop=>True/\True/\True/\p;let T4:=fun p:Prop=>True/\True/\True/\True/\p;let V:=fun p:Sx.SV=>Sx.SVle [] [] p p;let K:=Sx.Br;let A:=Sx.Ask;let z13:=(True/\True);let z12:=(9223372036854775807:Int);let z11:=(-9223372036854775808:Int);let z10:=(0:Int);let z9:=(↑L.ni:Int);let z8:=(0:Nat);let z6:=(AtL.mk L x y);let z14:=((3:Int)=z6.e);let z5:=(x+(↑(Int.toNat z10):Int));let z3:=(IntKind.i64=IntKind.i64);let q3:=fun p:Int=>A z3/\A (p=p);let z4:=(((((True/\q3 L.w)/\q3 L.h)/\A (L.ni=L.ni)/\∀ i:Nat,i<L.ni->True/\A (L.nm i=L.nm i))/\A (L.n=L.n)/\∀ i:Nat,i<L.n->(Lsg.qT True (L.it i) (L.it i)))/\True);let z2:=(IntKind.u8=IntKind.u8);let z1:=(Lto.ndP L);let z7:=(Lpn.ndOf (Lpn.ndX z1));let z0:=(True/\(((((((True/\A z2/\A (z10=z6.v z8))/\A z2/\A (z10=z6.v (1:Nat)))/\A z2/\A (z10=z6.v (2:Nat)))/\A z2/\A (z10=z6.v (3:Nat)))/\A z2/\A (z10=z6.v (4:Nat)))/\A z2/\A (z10=z6.v (5:Nat)))/\A z2/\A (z10=z6.v (6:Nat)))/\A z2/\A (z10=z6.v (7:Nat)));T4 ((z4/\A (∀ i:Nat,i<L.n->(L.it i).nr<=(9223372036854775807:Nat)))/\T3 (K (decide (Lcl.chkL L≠z10)) (T4 (z13/\z0/\A z3/\A (Lcl.chkL L=z6.e))) (T3 (K (decide (x<z10)) (T4 (T4 (z13/\z0/\A z3/\A z14))) (T3 (A (z11<=(16:Int)*L.w/\(16:Int)*L.w<=z12)/\T3 (K (decide ((16:Int)*L.w<=x)) (T4 (True/\True/\z13/\z0/\A z3/\A z14)) (T4 (K (decide (y<z10)) (T4 (z13/\z0/\A z3/\A z14)) (T3 (A (z11<=(16:Int)*L.h/\(16:Int)*L.h<=z12)/\True/\True/\K (decide ((16:Int)*L.h<=y)) (T3 (z13/\z0/\A z3/\A z14)) (True/\(z4/\A (Lta.LsOK L))/\T3 (A (z11<=x+(1:Int)/\x+(1:Int)<=z12)/\((((True/\((((((((((((((((((((((((((((((((((((True/\V (Lpn.ndX z1 0))/\V (Lpn.ndX z1 (1:Nat)))/\V (Lpn.ndX z1 (2:Nat)))/\V (Lpn.ndX z1 (3:Nat)))/\V (Lpn.ndX z1 (4:Nat)))/\V (Lpn.ndX z1 (5:Nat)))/\V (Lpn.ndX z1 (6:Nat)))/\V (Lpn.ndX z1 (7:Nat)))/\V (Lpn.ndX z1 (8:Nat)))/\V (Lpn.ndX z1 (9:Nat)))/\V (Lpn.ndX z1 (10:Nat)))/\V (Lpn.ndX z1 (11:Nat)))/\V (Lpn.ndX z1 (12:Nat)))/\V (Lpn.ndX z1 (13:Nat)))/\V (Lpn.ndX z1 (14:Nat)))/\V (Lpn.ndX z1 (15:Nat)))/\V (Lpn.ndX z1 (16:Nat)))/\V (Lpn.ndX z1 (17:Nat)))/\V (Lpn.ndX z1 (18:Nat)))/\V (Lpn.ndX z1 (19:Nat)))/\V (Lpn.ndX z1 (20:Nat)))/\V (Lpn.ndX z1 (21:Nat)))/\V (Lpn.ndX z1 (22:Nat)))/\V (Lpn.ndX z1 (23:Nat)))/\V (Lpn.ndX z1 (24:Nat)))/\V (Lpn.ndX z1 (25:Nat)))/\V (Lpn.ndX z1 (26:Nat)))/\V (Lpn.ndX z1 (27:Nat)))/\V (Lpn.ndX z1 (28:Nat)))/\V (Lpn.ndX z1 (29:Nat)))/\V (Lpn.ndX z1 (30:Nat)))/\V (Lpn.ndX z1 (31:Nat)))/\V (Lpn.ndX z1 (32:Nat)))/\V (Lpn.ndX z1 (33:Nat)))/\V (Lpn.ndX z1 (34:Nat)))/\V (Lpn.ndX z1 (35:Nat)))/\V (Lpn.ndX z1 (36:Nat)))/\A z3/\A (z9=(↑z9.toNat:Int)))/\(q3 y)/\(q3 x)/\(A z3/\A (x+(1:Int)=x+(↑(x+(1:Int)-x).toNat:Int)))/\True)/\A (∃ d:Nat,Lrw.RoOK d (Lrw.RoG.mk (Lpn.ndX z1) z7 z9.toNat y x (x+(1:Int)-x).toNat)))/\A (z10<=z10/\z10<(↑(x+(1:Int)-x).toNat:Int))/\T3 (z13/\(True/\(((((((True/\A z2/\A (Lrw.ak4 z7 z9.toNat z5 y (z8+(z8+z8))=z6.v z8))/\A z2/\A (Lrw.ak4 z7 z9.toNat z5 y (z8+(z8+(1:Nat)))=z6.v (1:Nat)))/\A z2/\A (Lrw.ak4 z7 z9.toNat z5 y (z8+(z8+(2:Nat)))=z6.v (2:Nat)))/\A z2/\A (Lrw.ak4 z7 z9.toNat z5 y (z8+(z8+(3:Nat)))=z6.v (3:Nat)))/\A z2/\A (Lrw.ak4 z7 z9.toNat z5 y (z8+(z8+(4:Nat)))=z6.v (4:Nat)))/\A z2/\A (Lrw.ak4 z7 z9.toNat z5 y (z8+(z8+(5:Nat)))=z6.v (5:Nat)))/\A z2/\A (Lrw.ak4 z7 z9.toNat z5 y (z8+(z8+(6:Nat)))=z6.v (6:Nat)))/\A z2/\A (Lrw.ak4 z7 z9.toNat z5 y (z8+(z8+(7:Nat)))=z6.v (7:Nat)))/\A z3/\A (z10=z6.e)))))))))))))))) (by kernel_rfl) ?_
 delta Lsg.qG Lsg.qI Lsg.qM Lsg.qS Lsg.qT
 simp only [aa4,aa8,eq_self,true_and,and_true,implies_true,forall_const,decide_eq_true_eq,decide_eq_false_iff_not,ne_eq,Nat.mul_one,Nat.add_zero,Nat.zero_add]
 have hs:∀ nd j,SVle [] [] (ndX nd j) (ndX nd j)=True:=fun nd j=>eq_true (SVle.refl [] [] (an7 nd j))
 have e1:(x+1-x).toNat=1:=by omega
 have e2:∀ z:Int,z+((Int.toNat 0:Nat):Int)=z:=fun z=>Int.add_zero z
 have e3:((1:Nat):Int)=1:=rfl
 simp only [hs,aq0,Int.toNat_natCast,e1,e2,e3,and_self,and_true,true_and]
 have bad:∀ v:Int,AtL.e ⟨L,x,y⟩=v->v≠0->(((((((0=AtL.v ⟨L,x,y⟩ 0/\0=AtL.v ⟨L,x,y⟩ 1)/\0=AtL.v ⟨L,x,y⟩ 2)/\0=AtL.v ⟨L,x,y⟩ 3)/\0=AtL.v ⟨L,x,y⟩ 4)/\0=AtL.v ⟨L,x,y⟩ 5)/\0=AtL.v ⟨L,x,y⟩ 6)/\0=AtL.v ⟨L,x,y⟩ 7)/\v=AtL.e ⟨L,x,y⟩:=fun v h hv=>by
  have hz:∀ j,(0:Int)=AtL.v ⟨L,x,y⟩ j:=fun j=>(if_neg (by rw [h]; exact hv)).symm
  exact ⟨all8 hz,h.symm⟩
 have b3:chkL L=0->(x<0\/16*L.w<=x\/y<0\/16*L.h<=y)->AtL.e ⟨L,x,y⟩=3:=fun h h2=>by
  unfold AtL.e; rw [if_neg (fun hc=>hc h),if_pos h2]
 refine ⟨hL.nr,fun h=>bad _ (if_pos h) h,fun h=>?_⟩
 have h0:chkL L=0:=Classical.not_not.1 h
 have hc:=aZ5 h0
 have hw:=hc.w
 have hh:=hc.h
 refine ⟨fun h1=>bad 3 (b3 h0 (.inl h1)) (by decide),fun h1=>⟨by omega,fun h2=>bad 3 (b3 h0 (.inr (.inl h2))) (by decide),fun h2=>⟨fun h3=>bad 3 (b3 h0 (.inr (.inr (.inl h3)))) (by decide),fun h3=>⟨by omega,fun h4=>bad 3 (b3 h0 (.inr (.inr (.inr h4)))) (by decide),fun h4=>?_⟩⟩⟩⟩
 have hg:=ndP_ok hc hL
 have he:AtL.e ⟨L,x,y⟩=0:=by
  unfold AtL.e; rw [if_neg (fun hcc=>hcc h0),if_neg (by simp only; omega)]
 have hv:∀ j,ak4 (ndP L) L.ni x y j=AtL.v ⟨L,x,y⟩ j:=fun j=>(if_pos he).symm
 exact ⟨ls_ok hc,by omega,⟨_,rfl,hg.isg,hg.n,hg.kid,hc.ni.1,hc.ni.2,by simp only; omega,by simp only; omega,by simp only; omega,by simp only; omega⟩,by decide,all8 hv,he.symm⟩
def endR (L:LsG) (o:Int):Nat->Nat->Nat
 | 0,k=>k
 | m+1,k=>if opI L (k+1)=o then k else endR L o m (k+1)
structure EnG where
 L:LsG
 i:Nat
def EnG.r (g:EnG):Nat:=endR g.L (opI g.L g.i) (g.L.n-g.i) g.i
structure EnOK (g:EnG):Prop where
 n:g.L.n<=5000
 ex:∃ k,g.i<=k/\k<g.L.n/\opI g.L (k+1)=opI g.L g.i
structure CoG where
 L:LsG
 i:Int
 x:Int
 y:Int
def CoG.to (g:CoG):Nat:=if (g.L.it g.i.toNat).kind=1 then EnG.r ⟨g.L,g.i.toNat⟩ else g.i.toNat+1
def covI (L:LsG) (x y:Int) (k:Nat):Prop:=(L.it k).kind=0/\(InG.mk (L.it k).nr (L.it k).runs x y).is
instance (L:LsG) (x y:Int) (k:Nat):Decidable (covI L x y k):=inferInstanceAs (Decidable (_/\_))
def CoG.cv (g:CoG) (m:Nat):Prop:=∃ k,k<m/\covI g.L g.x g.y (g.i.toNat+k)
instance (g:CoG) (m:Nat):Decidable (g.cv m):=inferInstanceAs (Decidable (∃ k,k<m/\_))
def CoG.e (g:CoG):Int:=if chkL g.L≠0 then chkL g.L else if g.i<0\/g.L.n<=g.i then 3 else if (g.L.it g.i.toNat).kind=2 then 14 else 0
def CoG.b (g:CoG):Bool:=decide (g.e=0)&&decide (g.cv (g.to-g.i.toNat))
end Go.Proofs.YthappngbapbkfaaGreat.Lat
set_option linter.unusedSimpArgs false
set_option linter.unusedVariables false
namespace Go.Proofs.YthappngbapbkfaaGreat.Lun
open Go.RowKit Sx Num Aff Afi Img Imh Imp Imq Rga Blend Ble Lsg Lta Lrd Lri Luc Lck Lgr Lcs Lst Lch Lcl Lgp Lsc Cmp Lpm Lpa Lpr Lbt Lpn Lpc Lpd Lpe Lpf Lrw Lto Lat
theorem in_iff {n:Nat}{f:Nat->Rn}(h:Vr n f) (x y:Int):covR f n x y<->(InG.mk n f x y).is:=by
 constructor
 ·rintro ⟨j,h1,h2,h3,h4⟩
  refine Classical.byContradiction fun hno=>?_
  exact (h.out hno).out j h1 h2 ⟨h3,h4⟩
 ·rintro ⟨h1,h2,h3,h4⟩
  exact ⟨_,h1,h2,h3,h4⟩
end Go.Proofs.YthappngbapbkfaaGreat.Lun
set_option linter.unusedSimpArgs false
set_option linter.unusedVariables false
namespace Go.Proofs.YthappngbapbkfaaGreat.Ltp
open Go.RowKit Sx Num Aff Afi Img Imh Imp Imq Rga Blend Ble Lsg Lta Lrd Lri Luc Lck Lgr Lcs Lst Lch Lcl Lgp Lsc Cmp Lpm Lpa Lpr Lbt Lpn Lpc Lpd Lpe Lpf Lrw Lto Lat Lun
def snoc (L:LsG) (x:It):LsG:={ L with n:=L.n+1,it:=fun i=>if i=L.n then x else L.it i }
theorem ar8 {L:LsG}{x:It}{i:Nat}(h:i<L.n):(snoc L x).it i=L.it i:=if_neg (by omega)
theorem at3 (L:LsG) (x:It):(snoc L x).it L.n=x:=if_pos rfl
theorem aD6 {L:LsG}{x:It}:∀ i,i<=L.n->opI (snoc L x) i=opI L i
 | 0,_=>rfl
 | i+1,hi=>by
  unfold opI
  rw [ar8 (by omega),aD6 i (by omega)]
theorem bld_snoc {L:LsG}{x:It}:∀ i,i<=L.n->bld (snoc L x) i=bld L i
 | 0,_=>rfl
 | i+1,hi=>by
  unfold bld
  rw [ar8 (by omega),bld_snoc i (by omega)]
theorem a63 {e:Nat->Int}:∀ m k,(∀ j,k<=j->j<k+m->e j=0)->fstE e m k=0
 | 0,_,_=>rfl
 | m+1,k,h=>by
  unfold fstE
  rw [if_pos (h k (Nat.le_refl _) (by omega))]
  exact a63 m (k+1) fun j h1 h2=>h j (by omega) (by omega)
theorem chk_end {L:LsG}(h:chkL L=0):opI L L.n=0:=by
 have h1:=bld_d (aZ5 h) L.n (Nat.le_refl _)
 unfold chkL at h
 repeat' split at h
 all_goals omega
theorem chk_snoc {L:LsG}{x:It}(h:chkL L=0) (hn:L.n<5000) (hk:x.kind=0) (hx:ciE x L.ni 0=0):chkL (snoc L x)=0:=by
 have hc:=aZ5 h
 have h0:=chk_end h
 have e1:fstE (itE (snoc L x)) (L.n+1) 0=0:=a63 _ _ fun j _ hj=>by
  by_cases e:j=L.n
  ·subst e
   unfold itE
   rw [at3,aD6 _ (Nat.le_refl _),h0]
   exact hx
  ·unfold itE
   rw [ar8 (by omega),aD6 _ (by omega)]
   exact hc.it j (by omega)
 have e2:opI (snoc L x) (L.n+1)=0:=by
  show (if ((snoc L x).it L.n).kind=1 then _ else if ((snoc L x).it L.n).kind=2 then _ else opI (snoc L x) L.n)=0
  rw [at3,if_neg (by omega),if_neg (by omega),aD6 _ (Nat.le_refl _),h0]
 have hq:=h
 unfold chkL at hq
 split at hq
 ·omega
 split at hq
 ·omega
 split at hq
 ·omega
 split at hq
 ·omega
 split at hq
 ·omega
 rename_i h1 h2 h3 h4 h5
 unfold chkL
 have c1:¬ ((snoc L x).w<1\/256<(snoc L x).w\/(snoc L x).h<1\/256<(snoc L x).h):=h1
 have c2:¬ ((snoc L x).ni<1\/8<(snoc L x).ni):=h2
 have c3:¬ fstE (nmE (snoc L x)) (snoc L x).ni 0≠0:=h3
 have c4:¬ 5000<(snoc L x).n:=show ¬ 5000<L.n+1 by omega
 have c5:¬ fstE (itE (snoc L x)) (snoc L x).n 0≠0:=fun hc=>hc e1
 have c6:¬ 0<opI (snoc L x) (snoc L x).n:=show ¬ 0<opI (snoc L x) (L.n+1) by omega
 rw [if_neg c1,if_neg c2,if_neg c3,if_neg c4,if_neg c5,if_neg c6]
def Alike (cx cy:Int) (a b:Nd):Prop:=a.cov cx cy=b.cov cx cy/\∀ p q,a.pnt cx cy p q=b.pnt cx cy p q
theorem aH8 {α:Type}{f f':Nat->α->α}{c:α}:∀ m,(∀ a,a<m->f a=f' a)->itN f c m=itN f' c m
 | 0,_=>rfl
 | m+1,h=>by
  show f m (itN f c m)=f' m (itN f' c m)
  rw [aH8 m fun a ha=>h a (by omega),h m (by omega)]
theorem any_congr' {m:Nat}{p q:Nat->Bool}(h:∀ a,a<m->p a=q a):(List.range m).any p=(List.range m).any q:=by
 rw [Bool.eq_iff_iff,List.any_eq_true,List.any_eq_true]
 constructor
 ·rintro ⟨a,h1,h2⟩; exact ⟨a,h1,(h a (by simpa using h1))▸h2⟩
 ·rintro ⟨a,h1,h2⟩; exact ⟨a,h1,(h a (by simpa using h1)).symm▸h2⟩
theorem grp_alike {cx cy:Int}{t t':Int}{mx mx':Bool}{x:It}{n:Nat}{k k':Nat->Nd}(h:∀ a,a<n->Alike cx cy (k a) (k' a)):Alike cx cy (.grp t mx x n k) (.grp t' mx' x n k'):=by
 have e:(List.range n).any (fun a=>(k a).cov cx cy)=(List.range n).any (fun a=>(k' a).cov cx cy):=any_congr' fun a ha=>(h a ha).1
 refine ⟨?_,fun p q=>?_⟩
 ·unfold Nd.cov
  exact e
 ·have ei:∀ (z:Cl) (g:Cl->Cl),itN (fun a st=>(k a).pnt cx cy (g st) st) z n=itN (fun a st=>(k' a).pnt cx cy (g st) st) z n:=fun z g=>aH8 n fun a ha=>funext fun st=>(h a ha).2 _ _
  unfold Nd.pnt
  rw [e,ei _ (fun st=>if x.knock=true then (fun _=>0) else st),ei _ (fun st=>if x.knock=true then p else st)]
theorem cell_snoc {L:LsG}{x:It}(h:chkL L=0) (hk:x.kind=0) (cx cy:Int):ah0 (ndP (snoc L x)) cx cy=if covR x.runs x.nr cx cy then af2 x cx cy (ah0 (ndP L) cx cy) else ah0 (ndP L) cx cy:=by
 have hc:=aZ5 h
 have hl:=ls_ok hc
 have hb:=al1 hl L.n (Nat.le_refl _)
 have hlf:=aR5 hl L.n (Nat.le_refl _)
 have hgr:=grp_ok hl L.n (Nat.le_refl _)
 have hd:=bld_d hc L.n (Nat.le_refl _)
 have h0:=chk_end h
 have hd:(bld L L.n).d=1:=by omega
 have hs:∀ i,i<=L.n->(bld L i).stk 0=0:=by
  intro i
  induction i with
  | zero=>exact fun _=>rfl
  | succ i ih=>
   intro hi
   have ih:=ih (by omega)
   have hbi:=al1 hl i (by omega)
   have:=hbi.d1
   unfold bld aF2
   split
   ·exact ih
   ·split
    ·show (if 0=(bld L i).d then (bld L i).n else (bld L i).stk 0)=0
     rw [if_neg (by omega)]; exact ih
    ·exact ih
 have ht:(bld L L.n).top=0:=by
  unfold Bld.top
  rw [hd]; exact hs _ (Nat.le_refl _)
 have eB:bld (snoc L x) (L.n+1)=(bld L L.n).push none L.n:=by
  show aF2 (bld (snoc L x) L.n) ((snoc L x).it L.n).kind L.n=_
  rw [at3,hk,bld_snoc _ (Nat.le_refl _)]
  exact if_pos rfl
 have al:∀ f g,0<g->g<(bld L L.n).n->(bld L L.n).n<=g+f->Alike cx cy (ndG (snoc L x) ((bld L L.n).push none L.n) f g) (ndG L (bld L L.n) f g):=by
  intro f
  induction f with
  | zero=>intro g h1 h2 h3; omega
  | succ f ih=>
   intro g hg0 hg hf
   have hgi:=hgr g hg0 hg
   have em:((bld L L.n).push none L.n).m g=(bld L L.n).m g:=if_neg (by rw [ht]; omega)
   have ek:∀ a,((bld L L.n).push none L.n).kid g a=(bld L L.n).kid g a:=fun a=>if_neg (by rw [ht]; omega)
   have ef:∀ a,((bld L L.n).push none L.n).leaf g a=(bld L L.n).leaf g a:=fun a=>if_neg (by rw [ht]; omega)
   have ex:(snoc L x).it (((bld L L.n).push none L.n).it g)=L.it ((bld L L.n).it g):=ar8 hgi.1
   unfold ndG
   rw [if_neg (by omega),if_neg (by omega),ex,em,if_neg (by omega),if_neg (by omega)]
   refine grp_alike fun a ha=>?_
   rw [ek,ef]
   cases hkd:(bld L L.n).kid g a with
   | none=>
    have:=hlf g a hg ha hkd
    simp only
    rw [ar8 this.1]
    exact ⟨rfl,fun _ _=>rfl⟩
   | some k=>
    have:=hb.kid g a k hg ha hkd
    exact ih k (by omega) this.2 (by omega)
 have eP:ndP (snoc L x)=ndG (snoc L x) ((bld L L.n).push none L.n) (Nat.succ (bld L L.n).n) 0:=by
  unfold ndP
  show ndG (snoc L x) (bld (snoc L x) (L.n+1)) (Nat.succ (bld (snoc L x) (L.n+1)).n) 0=_
  rw [eB]
  rfl
 rw [eP]
 have em:((bld L L.n).push none L.n).m 0=(bld L L.n).m 0+1:=if_pos ht.symm
 show pntK (fun a=>match ((bld L L.n).push none L.n).kid 0 a with
   | none=> .fill (((bld L L.n).push none L.n).leaf 0 a) ((snoc L x).it (((bld L L.n).push none L.n).leaf 0 a))
   | some k=>ndG (snoc L x) ((bld L L.n).push none L.n) (bld L L.n).n k) false cx cy ae6 (((bld L L.n).push none L.n).m 0)=_
 rw [em,pntK_succ]
 have ep:pntK (fun a=>match ((bld L L.n).push none L.n).kid 0 a with
   | none=> .fill (((bld L L.n).push none L.n).leaf 0 a) ((snoc L x).it (((bld L L.n).push none L.n).leaf 0 a))
   | some k=>ndG (snoc L x) ((bld L L.n).push none L.n) (bld L L.n).n k) false cx cy ae6 ((bld L L.n).m 0)=ah0 (ndP L) cx cy:=by
  show itN _ ae6 ((bld L L.n).m 0)=itN (fun a st=>Nd.pnt cx cy (match (bld L L.n).kid 0 a with
   | none=> .fill ((bld L L.n).leaf 0 a) (L.it ((bld L L.n).leaf 0 a))
   | some k=>ndG L (bld L L.n) (bld L L.n).n k) (if false=true then ae6 else st) st) ae6 ((bld L L.n).m 0)
  refine aH8 _ fun a ha=>funext fun st=>?_
  have ek:((bld L L.n).push none L.n).kid 0 a=(bld L L.n).kid 0 a:=if_neg (by omega)
  have ef:((bld L L.n).push none L.n).leaf 0 a=(bld L L.n).leaf 0 a:=if_neg (by omega)
  show Nd.pnt cx cy (match ((bld L L.n).push none L.n).kid 0 a with
   | none=> .fill (((bld L L.n).push none L.n).leaf 0 a) ((snoc L x).it (((bld L L.n).push none L.n).leaf 0 a))
   | some k=>ndG (snoc L x) ((bld L L.n).push none L.n) (bld L L.n).n k) _ st=_
  rw [ek,ef]
  cases hkd:(bld L L.n).kid 0 a with
  | none=>
   have:=hlf 0 a hb.n1 ha hkd
   simp only
   rw [ar8 this.1]
  | some k=>
   have:=hb.kid 0 a k hb.n1 ha hkd
   exact (al _ k (by omega) this.2 (by omega)).2 _ _
 rw [ep]
 have ek:((bld L L.n).push none L.n).kid 0 ((bld L L.n).m 0)=none:=if_pos ⟨ht.symm,rfl⟩
 have ef:((bld L L.n).push none L.n).leaf 0 ((bld L L.n).m 0)=L.n:=if_pos ⟨ht.symm,rfl⟩
 rw [ek,ef]
 show Nd.pnt cx cy (.fill L.n ((snoc L x).it L.n)) _ _=_
 rw [at3]
 unfold Nd.pnt
 rfl
def opq (nr:Nat) (runs:Nat->Rn) (v:Ink):It:={ zIt with nr:=nr,runs:=runs,src:={ zSrc with ink:=v },alpha:=255 }
theorem nr_ex {p v:Int}(hp:1<=p):nr (p*v) p=v:=by
 have h:=aG9 (p*v) p hp
 generalize nr (p*v) p=r at h
 obtain ⟨h1,h2⟩:=h
 have a1:(r-v)*p<1*p:=by grind
 have a2:(-1)*p<(r-v)*p:=by grind
 have b1:r-v<1:=Int.lt_of_mul_lt_mul_right a1 (by omega)
 have b2 : -1<r-v:=Int.lt_of_mul_lt_mul_right a2 (by omega)
 omega
theorem fill_opq (n:Nat) (f:Nat->Rn) (v:Ink) (cx cy:Int) (b:Cl) (j:Nat):af2 (opq n f v) cx cy b (1+j)=inkF v j:=by
 have eq:It.q (opq n f v) cx cy=255:=by
  show ab2 (if (0:Int)=3 then _ else 255) 255=255
  rw [if_neg (by decide)]
  decide
 have ea:Src.at (opq n f v).src cx cy=v:=if_pos rfl
 unfold af2
 rw [eq,ea,if_neg (by decide)]
 have all:(PaintG.mk b (inkF v) 255 (aa6 0) false).all=65025:=by
  show 255*(b 0+255)-b 0*255=65025
  omega
 show (if (PaintG.mk b (inkF v) 255 (aa6 0) false).all=0 then 0 else if 1+j=0 then _ else (PaintG.mk b (inkF v) 255 (aa6 0) false).new (1+j-1))=_
 rw [all,if_neg (by decide),if_neg (by omega),show 1+j-1=j by omega]
 unfold PaintG.new
 rw [all]
 rw [if_neg (by simp)]
 have em:(PaintG.mk b (inkF v) 255 (aa6 0) false).mix j=inkF v j:=by
  show 255-al0 (aa6 0) _ (255-inkF v j)=_
  unfold al0
  rw [aH7 0 (by omega)]
  show 255-(255-inkF v j)=_
  omega
 rw [em]
 show nr ((255-255)*b 0*b (1+j)+255*((255-b 0)*inkF v j+b 0*inkF v j)) 65025=_
 have e:(255-255)*b 0*b (1+j)+255*((255-b 0)*inkF v j+b 0*inkF v j)=65025*inkF v j:=by grind
 rw [e]
 exact nr_ex (by decide)
theorem rg_of_vld {L:List Rn}(h:vld L):ai3 ⟨L.length,rI L⟩=0:=a63 _ _ fun i _ hi=>by
 have hi:i<L.length:=by simpa using hi
 have e:∀ k (hk:k<L.length),rI L k=L[k]:=fun k hk=>by
  unfold rI
  rw [List.getD_eq_getElem?_getD,List.getElem?_eq_getElem hk]; rfl
 have hok:=h.1 L[i] (List.getElem_mem hi)
 rw [<-e i hi] at hok
 have c2:¬ (rI L i).x1<=(rI L i).x0:=by have:=hok.2; omega
 have c3:¬ (i≠0/\(rI L i).y<=(rI L (i-1)).y/\((rI L i).y<(rI L (i-1)).y\/(rI L i).x0<=(rI L (i-1)).x1)):=fun hc=>by
  obtain ⟨h1,h2,h3⟩:=hc
  have hp:=List.pairwise_iff_getElem.1 h.2 (i-1) i (by omega) hi (by omega)
  rw [<-e i hi,<-e (i-1) (by omega)] at hp
  rcases hp with hp | hp<;>omega
 exact (if_neg (fun hc=>hc hok.1)).trans ((if_neg c2).trans (if_neg c3))
theorem ci_opq {n k:Nat}{f:Nat->Rn}{v:Ink}(hr:ai3 ⟨n,f⟩=0) (hf:ah2 ⟨inkF v,k⟩):ciE (opq n f v) k 0=0:=by
 have c1:¬ ((opq n f v).kind≠0/\(opq n f v).kind≠1/\(opq n f v).kind≠2):=fun hc=>hc.1 rfl
 have c2:¬ ak9 (opq n f v):=fun hc=>by
  unfold ak9 at hc
  rw [if_pos (show (opq n f v).kind=0 from rfl)] at hc
  rcases hc with hc | hc<;>exact Bool.noConfusion hc
 have c3:¬ ((opq n f v).kind=2/\(0:Int)=0):=fun hc=>absurd hc.1 (show ¬ (0:Int)=2 by decide)
 have c4:¬ ((opq n f v).kind=1/\(16:Int)<=0):=fun hc=>absurd hc.2 (by decide)
 have c5:¬ ((opq n f v).blend<0\/12<=(opq n f v).blend\/((opq n f v).kind=1/\(opq n f v).iso=false/\(opq n f v).blend≠0)):=fun hc=>by
  have h1:(opq n f v).blend=0:=rfl
  have h2:(opq n f v).kind=0:=rfl
  omega
 have c6:¬ (opq n f v).kind≠0:=fun hc=>hc rfl
 have c7:¬ ai3 ⟨(opq n f v).nr,(opq n f v).runs⟩≠0:=fun hc=>hc hr
 unfold ciE
 rw [if_neg c1,if_neg c2,if_neg c3,if_neg c4,if_neg c5,if_neg c6,if_neg c7]
 have d1:¬ (¬ isZ (opq n f v).src\/¬ isNI (opq n f v).src.img):=fun hc=>by
  rcases hc with hc | hc
  ·exact hc ⟨⟨rfl,rfl⟩,⟨rfl,rfl⟩,rfl,rfl⟩
  ·exact hc ⟨⟨rfl,rfl⟩,⟨rfl,rfl⟩,⟨rfl,rfl,rfl,rfl,rfl,rfl⟩,rfl,rfl⟩
 unfold csE
 rw [if_pos (show (opq n f v).src.kind=0 from rfl),if_neg d1]
 exact if_pos hf
theorem u8_snoc {T:LsG}{n:Nat}{f:Nat->Rn}{v:Ink}(hu:LsU8 T) (hv:u8i v) (hn:n<=9223372036854775807):LsU8 (snoc T (opq n f v)):=by
 have go:∀ {p:It->Prop},(∀ i,i<T.n->p (T.it i))->p (opq n f v)->∀ i,i<T.n+1->p ((snoc T (opq n f v)).it i):=fun {p} h1 h2 i hi=>by
  by_cases e:i=T.n
  ·subst e; rw [at3]; exact h2
  ·rw [ar8 (by omega)]; exact h1 i (by omega)
 exact ⟨go (p:=fun x=>0<=x.alpha/\x.alpha<=255) hu.alpha ⟨by show (0:Int)<=255; decide,by show (255:Int)<=255; decide⟩,
  go (p:=fun x=>u8i x.src.ink) hu.ink hv,
  go (p:=fun x=>∀ j,j<x.src.ns->u8i (x.src.st j).ink) hu.st (fun j hj=>absurd hj (Nat.not_lt_zero j)),
  go (p:=fun x=>∀ j,j<x.src.img.n->an8 (x.src.img.px j)) hu.px (fun j hj=>absurd hj (Nat.not_lt_zero j)),
  go (p:=fun x=>∀ j,j<x.src.img.sn->0<=x.src.img.sf j/\x.src.img.sf j<=255) hu.sf (fun j hj=>absurd hj (Nat.not_lt_zero j)),
  go (p:=fun x=>x.nr<=9223372036854775807) hu.nr hn⟩
theorem at_snoc {T:LsG}{n:Nat}{f:Nat->Rn}{v:Ink}(h0:chkL T=0) (hn:T.n<5000) (hr:ai3 ⟨n,f⟩=0) (hf:ah2 ⟨inkF v,T.ni⟩) {X Y:Int}(hX:0<=X/\X<=16*T.w-1) (hY:0<=Y/\Y<=16*T.h-1) :
  AtL.e ⟨T,X,Y⟩=0/\AtL.e ⟨snoc T (opq n f v),X,Y⟩=0/\∀ j,j<8->AtL.v ⟨snoc T (opq n f v),X,Y⟩ j=if (InG.mk n f X Y).is then inkF v j else AtL.v ⟨T,X,Y⟩ j:=by
 have hS:=chk_snoc h0 hn rfl (ci_opq hr hf)
 have he:AtL.e ⟨T,X,Y⟩=0:=by
  unfold AtL.e
  rw [if_neg (fun hc=>hc h0),if_neg (by simp only; omega)]
 have hS2:AtL.e ⟨snoc T (opq n f v),X,Y⟩=0:=by
  have c:¬ (X<0\/16*(snoc T (opq n f v)).w<=X\/Y<0\/16*(snoc T (opq n f v)).h<=Y):=by
   show ¬ (X<0\/16*T.w<=X\/Y<0\/16*T.h<=Y)
   omega
  unfold AtL.e
  rw [if_neg (fun hc=>hc hS)]
  exact if_neg c
 refine ⟨he,hS2,fun j hj=>?_⟩
 have e1:AtL.v ⟨snoc T (opq n f v),X,Y⟩ j=ak4 (ndP (snoc T (opq n f v))) T.ni X Y j:=if_pos hS2
 have e2:AtL.v ⟨T,X,Y⟩ j=ak4 (ndP T) T.ni X Y j:=if_pos he
 have hin:=in_iff (vr_of hr) X Y
 rw [e1,e2]
 unfold ak4
 rw [cell_snoc h0 rfl]
 by_cases hc:covR f n X Y
 ·rw [if_pos (show covR (opq n f v).runs (opq n f v).nr X Y from hc),if_pos (hin.1 hc),fill_opq]
  split
  ·rfl
  ·exact (hf j (by simp only; omega) hj).symm
 ·rw [if_neg (show ¬ covR (opq n f v).runs (opq n f v).nr X Y from hc),if_neg (fun h=>hc (hin.2 h))]
end Go.Proofs.YthappngbapbkfaaGreat.Ltp
set_option linter.unusedSimpArgs false
set_option linter.unusedVariables false
namespace Go.Proofs.YthappngbapbkfaaGreat.Rgm
open Rga Rgl
def eY (f:Nat->Rn) (k:Nat):Int:=(f (k / 2)).y
abbrev le2 (y x y' x':Int):Prop:=y<y'\/(y=y'/\x<=x')
abbrev lt2 (y x y' x':Int):Prop:=y<y'\/(y=y'/\x<x')
structure CbG where
 a:Rg
 b:Rg
structure CsG where
 i:Nat
 j:Nat
 from':Rga.Eg
 L:List Rn
structure CbP (g:CbG) (K:Bool->Bool->Bool) (s:CsG):Prop where
 hi:s.i<=2*g.a.n
 hj:s.j<=2*g.b.n
 c1:0<s.i->le2 (eY g.a.f (s.i-1)) (eX g.a.f (s.i-1)) s.from'.y s.from'.x
 c2:0<s.j->le2 (eY g.b.f (s.j-1)) (eX g.b.f (s.j-1)) s.from'.y s.from'.x
 u1:0<s.i+s.j->s.i<2*g.a.n->le2 s.from'.y s.from'.x (eY g.a.f s.i) (eX g.a.f s.i)
 u2:0<s.i+s.j->s.j<2*g.b.n->le2 s.from'.y s.from'.x (eY g.b.f s.j) (eX g.b.f s.j)
 fok:(-8192<=s.from'.y/\s.from'.y<8192)/\ -8192<=s.from'.x/\s.from'.x<=8192
 hL:vld s.L
 hE:0<s.i+s.j->aftE s.L s.from'.y s.from'.x
 h0:s.i+s.j=0->s.L=[]
 hm:0<s.i+s.j->∀ y x,mem s.L y x=(decide (lt2 y x s.from'.y s.from'.x)&&K (mem g.a.L y x) (mem g.b.L y x))
end Go.Proofs.YthappngbapbkfaaGreat.Rgm
set_option linter.unusedSimpArgs false
set_option linter.unusedVariables false
namespace Go.Proofs.YthappngbapbkfaaGreat.Rgb
open Go.RowKit Sx Num Aff Con Rga Rgl Rgm
set_option maxRecDepth 100000
theorem addL (L:List Rn) (r:Rn):AdG.L ⟨L.length,rI L,r⟩=addR L r:=by
 show addR (Rg.L ⟨L.length,rI L⟩) r=addR L r
 rw [Rg.L_of]
end Go.Proofs.YthappngbapbkfaaGreat.Rgb
set_option linter.unusedSimpArgs false
set_option linter.unusedVariables false
namespace Go.Proofs.YthappngbapbkfaaGreat.Rgn
open Rga Rgl Rgm
def sumR (f:Int->Int) (lo:Int):Nat->Int
 | 0=>0
 | n+1=>sumR f lo n+f (lo+n)
def b2i (b:Bool):Int:=if b then 1 else 0
def cnt (χ:Int->Int->Bool):Int:=sumR (fun y=>sumR (fun x=>b2i (χ y x)) (-8192) 16384) (-8192) 16384
def Lf (f:Nat->Rn) (n:Nat):List Rn:=(List.range n).map f
theorem ba2 (f:Nat->Rn) (n:Nat):Lf f (n+1)=Lf f n++[f n]:=by
 unfold Lf
 rw [List.range_succ,List.map_append]
 rfl
theorem Lf_len (f:Nat->Rn) (n:Nat):(Lf f n).length=n:=by simp [Lf]
theorem Lf_get (f:Nat->Rn) {n i:Nat}(h:i<n):rI (Lf f n) i=f i:=Rg.rI (g:=⟨n,f⟩) h
theorem Lf_rI (L:List Rn):Lf (rI L) L.length=L:=Rg.L_of L
theorem add_new {L:List Rn}{r:Rn}(hr:r.x0<r.x1) (h:∀ s,L.getLast?=some s->ltR s r):addR L r=L++[r]:=by
 rcases aN1 L with rfl | ⟨P,s,rfl⟩
 ·rw [add_nil,if_pos hr]; rfl
 ·have hs:=h s (by simp)
  unfold ltR at hs
  rw [add_snoc,if_pos hr,if_neg (by omega)]
theorem Lf_last {f:Nat->Rn}{n:Nat}{s:Rn}(h:(Lf f n).getLast?=some s):0<n/\s=f (n-1):=by
 cases n with
 | zero=>cases h
 | succ n=>
  rw [ba2] at h
  simp at h
  exact ⟨Nat.succ_pos n,h.symm⟩
theorem add_next {f:Nat->Rn}{n:Nat}(hr:(f n).x0<(f n).x1) (h:0<n->ltR (f (n-1)) (f n)):addR (Lf f n) (f n)=Lf f (n+1):=by
 rw [ba2]
 refine add_new hr (fun s hs=>?_)
 obtain ⟨h0,rfl⟩:=Lf_last hs
 exact h h0
def shR (dx dy:Int) (r:Rn):Rn:=⟨r.y+dy,r.x0+dx,r.x1+dx⟩
def le0 (r s:Rn):Prop:=r.y<s.y\/(r.y=s.y/\r.x0<=s.x0)
structure JoP (f:Nat->Rn) (n i:Nat) (L:List Rn):Prop where
 hi:i<=n
 hL:vld L
 hm:∀ y x,mem L y x=mem (Lf f i) y x
 ha:∀ k,i<=k->k<n->aft L (f k).y (f k).x0
theorem jo_start (f:Nat->Rn) (n:Nat):JoP f n 0 []:=⟨Nat.zero_le _,aP3,fun _ _=>rfl,fun _ _ _=>aft_nil⟩
theorem jo_step {f:Nat->Rn}{n i:Nat}{L:List Rn}(ok:∀ k,k<n->okR (f k)) (srt:∀ j k,j<k->k<n->le0 (f j) (f k)) (h:JoP f n i L) (hi:i<n):JoP f n (i+1) (addR L (f i)):=by
 obtain ⟨v,m,a⟩:=add_ok h.hL (fun _=>ok i hi) (h.ha i (Nat.le_refl _) hi)
 refine ⟨hi,v,fun y x=>?_,fun k hk hkn=>a _ _ ?_⟩
 ·rw [m,h.hm,ba2,aR4,aH5]
 ·have:=srt i k hk hkn
  unfold le0 at this
  exact this
theorem mem_congr {L M:List Rn}(h:∀ r,r∈L<->r∈M) (y x:Int):mem L y x=mem M y x:=by
 rw [Bool.eq_iff_iff,mem_iff,mem_iff]
 exact ⟨fun ⟨r,a,b⟩=>⟨r,(h r).1 a,b⟩,fun ⟨r,a,b⟩=>⟨r,(h r).2 a,b⟩⟩
end Go.Proofs.YthappngbapbkfaaGreat.Rgn
set_option linter.unusedSimpArgs false
set_option linter.unusedVariables false
namespace Go.Proofs.YthappngbapbkfaaGreat.Rgc
open Go.RowKit Sx Num Aff Con Rga Rgl Rgm Rgn Rgb
set_option maxRecDepth 100000
def okP (s:SV):SV:= .tup 2 (lst [s,.int .i64 0])
theorem bnd {L:List Rn}(h:vld L):L.length<=4294967296:=Nat.le_trans (vld_len h) (by decide)
structure EqG where
 a:Rg
 b:Rg
def EqG.ok (g:EqG):Prop:=vld g.a.L/\g.a.L=g.b.L
end Go.Proofs.YthappngbapbkfaaGreat.Rgc
set_option linter.unusedSimpArgs false
set_option linter.unusedVariables false
namespace Go.Proofs.YthappngbapbkfaaGreat.Rgd
open Go.RowKit Sx Num Aff Con Rga Rgl Rgm Rgn Rgb Rgc
set_option maxRecDepth 100000
structure ShG where
 g:Rg
 dx:Int
 dy:Int
def ShG.f (h:ShG):Nat->Rn:=fun i=>shR h.dx h.dy (h.g.f i)
structure ShG.ok (h:ShG):Prop where
 v:vld h.g.L
 x : -16384<=h.dx/\h.dx<=16384
 y : -16384<=h.dy/\h.dy<=16384
 r:∀ i,i<h.g.n->okR (h.f i)
def ShG.L (h:ShG):List Rn:=Lf h.f h.g.n
structure ReG where
 x0:Int
 y0:Int
 x1:Int
 y1:Int
def ReG.f (h:ReG):Nat->Rn:=fun k=>⟨h.y0+k,h.x0,h.x1⟩
def ReG.n (h:ReG):Nat:=(h.y1-h.y0).toNat
structure ReG.ok (h:ReG):Prop where
 x0 : -8192<=h.x0/\h.x0<=8192
 y0 : -8192<=h.y0/\h.y0<=8192
 x1 : -8192<=h.x1/\h.x1<=8192
 y1 : -8192<=h.y1/\h.y1<=8192
 x:h.x0<h.x1
 y:h.y0<=h.y1
def reInv (h:ReG):Inv:=⟨Nat,fun i=>h.y0+i<=h.y1,fun i=>⟨[(0,.int .i64 h.x0),(2,.int .i64 h.x1),(3,.int .i64 h.y1),(10,.own 0 0),(11,.int .i64 (h.y0+i))],
  [.cells 1 (lst [.osl 1 0]) 111,.row 0 i 3 (fun k=>lst (rnL (h.f k))) 70]⟩,fun i=>h.n-i⟩
def spRect:FSpec:=aa5 47 (γ:=ReG) (fun | [.int _ x0,.int _ y0,.int _ x1,.int _ y1]=>some ⟨x0,y0,x1,y1⟩ | _=>none) (fun h=>[.int .i64 h.x0,.int .i64 h.y0,.int .i64 h.x1,.int .i64 h.y1]) ReG.ok (fun h=>okP (a14 (Lf h.f h.n)))
theorem ok_rect:aa2 Tryz.prog spRect:=by
 refine aa1 (specs:=[aQ3,spAddR]) (aa9 (⟨aW7,ok_addR,trivial⟩)) (eqs:=[]) (fun _ _ h=>(List.not_mem_nil h).elim) Aff.mixed Tryz.func47 rfl (by kernel_rfl) (fun _ _=>by kernel_rfl) (fun g=>(⟨[(7,.inv (reInv g))],[(6,[.ownC 0 0 70 3])]⟩:Ann)) (fun g=>Nat.le_of_ble_eq_true (by kernel_rfl)) ?_
 rintro g hg
 refine ab5 (B:=let T3:=fun p:Prop=>True/\True/\True/\p;let T4:=fun p:Prop=>True/\True/\True/\True/\p;let K:=Sx.Br;let A:=Sx.Ask;let z9:=((0:Nat)=(0:Nat));let z7:=((3:Int)=(0:Int));let z5:=(Rgn.Lf g.f g.n);let z2:=(True/\A (z5.length=(0:Nat)));let z0:=(IntKind.i64=IntKind.i64);let q0:=fun p:Int=>A z0/\A (p=p);let z6:=(q0 g.y1);let z4:=(q0 g.x1);let z3:=(q0 g.x0);T3 (((z3/\True)/\A True)/\True/\True/\K (!(decide ((-8192:Int)<=g.x0)&&decide (g.x0<=(8192:Int)))) (T4 (T4 (z2/\A z0/\A z7))) (True/\(((q0 g.y0)/\True)/\A True)/\T3 (K (!(decide ((-8192:Int)<=g.y0)&&decide (g.y0<=(8192:Int)))) (T4 (True/\True/\z2/\A z0/\A z7)) (True/\((z4/\True)/\A True)/\T3 (K (!(decide ((-8192:Int)<=g.x1)&&decide (g.x1<=(8192:Int)))) (T4 (z2/\A z0/\A z7)) (True/\((z6/\True)/\A True)/\True/\True/\K (!(decide ((-8192:Int)<=g.y1)&&decide (g.y1<=(8192:Int)))) (T3 (z2/\A z0/\A z7)) (T4 (K (decide (g.x1<g.x0)) (T4 (z2/\A z0/\A ((18:Int)=(0:Int)))) (T4 (K (decide (g.y1<g.y0)) (T3 (z2/\A z0/\A ((18:Int)=(0:Int)))) (T3 ((∃ g_1:Nat,A ((reInv g).pre g_1)/\(z3/\z4/\z6/\A z9/\(A z0/\A (g.y0=g.y0+(↑g_1:Int)))/\True)/\(True/\True)/\(A ((0:Nat)=g_1)/\∀ i:Nat,i<g_1->((True/\False)/\False)/\False)/\True)/\∀ g_1:Nat,let z8:=(↑g_1:Int);let z1:=(Rga.AdG.mk g_1 (fun (i:Nat)=>Rga.Rn.mk (g.y0+(↑i:Int)) g.x0 g.x1) (Rga.Rn.mk (g.y0+z8) g.x0 g.x1)); (reInv g).pre g_1->T3 (K (decide (g.y0+z8<g.y1)) (T3 (((True/\(A z9/\(q0 (g.y0+z8))/\z3/\z4/\True)/\(True/\True)/\(A (g_1=g_1)/\∀ i:Nat,i<g_1->((True/\q0 (g.y0+(↑i:Int)))/\q0 g.x0)/\q0 g.x1)/\True)/\A (g_1<=(4294967296:Nat)))/\True/\A ((-9223372036854775808:Int)<=g.y0+z8+(1:Int)/\g.y0+z8+(1:Int)<=(9223372036854775807:Int))/\True/\∃ (g':Nat),A ((reInv g).pre g')/\((z3/\z4/\z6/\A z9/\(A z0/\A (g.y0+z8+(1:Int)=g.y0+(↑g':Int)))/\True)/\(True/\True)/\(A (z1.L.length=g')/\∀ i:Nat,i<g'->((True/\A z0/\A ((Rga.rI z1.L i).y=g.y0+(↑i:Int)))/\A z0/\A ((Rga.rI z1.L i).x0=g.x0))/\A z0/\A ((Rga.rI z1.L i).x1=g.x1))/\True)/\A ((reInv g).meas g'<(reInv g).meas g_1))) (T4 (True/\(True/\A (g_1=z5.length)/\∀ i:Nat,i<z5.length->((True/\A z0/\A (g.y0+(↑i:Int)=(Rga.rI z5 i).y))/\A z0/\A (g.x0=(Rga.rI z5 i).x0))/\A z0/\A (g.x1=(Rga.rI z5 i).x1))/\q0 ((0:Int)))))))))))))))))) (by kernel_rfl) ?_
 simp only [aa4,aa8,eq_self,true_and,and_true,implies_true,forall_const,decide_eq_true_eq,decide_eq_false_iff_not,ne_eq,Nat.mul_one,Nat.add_zero,Nat.zero_add]
 obtain ⟨⟨a1,a2⟩,⟨b1,b2⟩,⟨c1,c2⟩,⟨d1,d2⟩,hx,hy⟩:=hg
 rw [decide_eq_true a1,decide_eq_true a2,decide_eq_true b1,decide_eq_true b2,decide_eq_true c1,decide_eq_true c2,decide_eq_true d1,decide_eq_true d2]
 refine ⟨fun h=>absurd h (by decide),fun _=>⟨fun h=>absurd h (by decide),fun _=>⟨fun h=>absurd h (by decide),fun _=>⟨fun h=>absurd h (by decide),fun _=>⟨fun h=>by omega,fun _=>⟨fun h=>by omega,fun _=>⟨⟨0,by show g.y0+0<=g.y1; omega,by omega,rfl,fun k hk=>absurd hk (Nat.not_lt_zero _)⟩,fun i hi=>⟨fun hlt=>?_,fun hge=>?_⟩⟩⟩⟩⟩⟩⟩⟩
 ·have hi:g.y0+i<=g.y1:=hi
  have e:AdG.L ⟨i,fun i=>⟨g.y0+i,g.x0,g.x1⟩,⟨g.y0+i,g.x0,g.x1⟩⟩=Lf g.f (i+1):=by
   refine add_next (f:=g.f) (n:=i) hx (fun h0=> .inl ?_)
   show g.y0+((i-1:Nat):Int)<g.y0+i
   omega
  refine ⟨by omega,by omega,i+1,?_,⟨by omega,?_,fun k hk=>?_⟩,?_⟩
  ·show g.y0+((i+1:Nat):Int)<=g.y1
   omega
  ·rw [e,Lf_len]
  ·rw [e,Lf_get g.f hk]
   exact ⟨⟨rfl,rfl⟩,rfl⟩
  ·show (g.y1-g.y0).toNat-(i+1)<(g.y1-g.y0).toNat-i
   omega
 ·have hi:g.y0+i<=g.y1:=hi
  have e:i=g.n:=by unfold ReG.n; omega
  subst e
  rw [Lf_len]
  refine ⟨rfl,fun k hk=>?_⟩
  rw [Lf_get g.f hk]
  exact ⟨⟨rfl,rfl⟩,rfl⟩
abbrev lB:List Rn:=[⟨1,2,4⟩,⟨2,2,4⟩]
abbrev lO:List Rn:=[⟨0,0,2⟩,⟨1,0,4⟩,⟨2,2,4⟩]
theorem eB:Lf (ReG.f ⟨2,1,4,3⟩) (ReG.n ⟨2,1,4,3⟩)=lB:=rfl
end Go.Proofs.YthappngbapbkfaaGreat.Rgd
set_option linter.unusedSimpArgs false
set_option linter.unusedVariables false
namespace Go.Proofs.YthappngbapbkfaaGreat.Lsh
open Go.RowKit Sx Num Aff Afi Img Imh Imp Imq Rga Blend Ble Lsg Lta Lrd Lri Luc Lck Lgr Lcs Lst Lch Lcl Lgp Lsc Cmp Lpm Lpa Lpr Lbt Lpn Lpc Lpd Lpe Lpf Lrw Lto Lat Lun
set_option maxRecDepth 100000
structure WhG where
 w:Nat
 h:Nat
def pgF (w:Nat) (k:Nat):Rn:=⟨k,0,16*w⟩
def spPage:FSpec:=aa5 29 (γ:=WhG) (fun | [.int _ w,.int _ h]=>some ⟨w.toNat,h.toNat⟩ | _=>none) (fun g=>[.int .i64 g.w,.int .i64 g.h]) (fun g=>(1<=g.w/\g.w<=2)/\1<=g.h/\g.h<=2) (fun g=>rgS ⟨16*g.h,pgF g.w⟩)
theorem ok_page:aa2 Tryz.prog spPage:=by
 refine aa1 (specs:=[Rgd.spRect]) (aa9 (⟨Rgd.ok_rect,trivial⟩)) (eqs:=[]) (fun _ _ h=>(List.not_mem_nil h).elim) Aff.mixed Tryz.func29 rfl (by kernel_rfl) (fun _ _=>by kernel_rfl) (fun g=>A0) (fun g=>Nat.le_of_ble_eq_true (by kernel_rfl)) ?_
 rintro ⟨w,h⟩ ⟨⟨w1,w2⟩,h1,h2⟩
 refine ab5 (B:=let A:=Sx.Ask;let z2:=(16:Int);let z1:=(IntKind.i64=IntKind.i64);let q1:=fun p:Int=>A z1/\A (p=p);let z4:=(q1 ((0:Int)));let z0:=(Rgd.ReG.mk (0:Int) (0:Int) (z2*(↑w:Int)) (z2*(↑h:Int)));True/\True/\A ((-9223372036854775808:Int)<=z2*(↑w:Int)/\z2*(↑w:Int)<=(9223372036854775807:Int))/\True/\A ((-9223372036854775808:Int)<=z2*(↑h:Int)/\z2*(↑h:Int)<=(9223372036854775807:Int))/\((z4/\z4/\(q1 (z2*(↑w:Int)))/\(q1 (z2*(↑h:Int)))/\True)/\A z0.ok)/\True/\True/\True/\True/\True/\True/\True/\True/\A ((Rgn.Lf z0.f z0.n).length=(16:Nat)*h)/\∀ i:Nat,let z3:=(Rga.rI (Rgn.Lf z0.f z0.n) i); i<(16:Nat)*h->((True/\A z1/\A (z3.y=(↑i:Int)))/\A z1/\A (z3.x0=(0:Int)))/\A z1/\A (z3.x1=z2*(↑w:Int))) (by kernel_rfl) ?_
 simp only [aa4,aa8,eq_self,true_and,and_true,implies_true,forall_const,decide_eq_true_eq,decide_eq_false_iff_not,ne_eq,Nat.mul_one,Nat.add_zero,Nat.zero_add]
 have w1:1<=w:=w1
 have w2:w<=2:=w2
 have h1:1<=h:=h1
 have h2:h<=2:=h2
 have en:Rgd.ReG.n ⟨0,0,16*w,16*h⟩=16*h:=by unfold Rgd.ReG.n; simp only; omega
 rw [en]
 refine ⟨by omega,by omega,⟨by simp only; omega,by simp only; omega,by simp only; omega,by simp only; omega,by simp only; omega,by simp only; omega⟩,Rgn.Lf_len _ _,fun i hi=>?_⟩
 rw [Rgn.Lf_get _ hi]
 exact ⟨⟨Int.zero_add _,rfl⟩,rfl⟩
structure PlnG where
 w:Nat
 h:Nat
 v:Ink
def plN (i:Nat):ByteArray:=⟨#[UInt8.ofNat (97+i)]⟩
def plI (g:PlnG):It:={ zIt with nr:=16*g.h,runs:=pgF g.w,src:={ zSrc with ink:=g.v },alpha:=255 }
def plL (g:PlnG):LsG:=⟨g.w,g.h,8,plN,1,fun _=>plI g⟩
def spPln:FSpec:=aa5 14 (γ:=PlnG) (fun | [.int _ w,.int _ h,.agg _ v]=>some ⟨w.toNat,h.toNat,inkD v⟩ | _=>none) (fun g=>[.int .i64 g.w,.int .i64 g.h,.agg 8 (lst (inkL g.v))]) (fun g=>(1<=g.w/\g.w<=2)/\1<=g.h/\g.h<=2) (fun g=>lsS (plL g))
theorem ok_pln:aa2 Tryz.prog spPln:=by
 refine aa1 (specs:=[spPage]) (aa9 (⟨ok_page,trivial⟩)) (eqs:=[]) (fun _ _ h=>(List.not_mem_nil h).elim) Aff.mixed Tryz.func14 rfl (by kernel_rfl) (fun _ _=>by kernel_rfl) (fun g=>A0) (fun g=>Nat.le_of_ble_eq_true (by kernel_rfl)) ?_
 rintro ⟨w,h,v⟩ ⟨⟨w1,w2⟩,h1,h2⟩
 refine ab5 (B:=let A:=Sx.Ask;let z5:=(↑h:Int);let z4:=((0:Nat)=(0:Nat));let z3:=(↑w:Int);let z2:=(false=false);let z1:=((0:Int)=(0:Int));let z0:=(IntKind.i64=IntKind.i64);let q0:=fun p:Int=>A z0/\A (p=p);True/\True/\True/\True/\True/\True/\True/\(((A z0/\A (z3=(↑z3.toNat:Int)))/\(A z0/\A (z5=(↑z5.toNat:Int)))/\True)/\A (((1:Nat)<=z3.toNat/\z3.toNat<=(2:Nat))/\(1:Nat)<=z5.toNat/\z5.toNat<=(2:Nat)))/\True/\True/\True/\True/\True/\True/\(True/\True)/\(((True/\q0 z3)/\q0 z5)/\A ((8:Nat)=(8:Nat))/\∀ i:Nat,i<(8:Nat)->True/\A ((bif decide (i=(7:Nat)) then ByteArray.mk #[(104:UInt8)] else bif decide (i=(6:Nat)) then ByteArray.mk #[(103:UInt8)] else bif decide (i=(5:Nat)) then ByteArray.mk #[(102:UInt8)] else bif decide (i=(4:Nat)) then ByteArray.mk #[(101:UInt8)] else bif decide (i=(3:Nat)) then ByteArray.mk #[(100:UInt8)] else bif decide (i=(2:Nat)) then ByteArray.mk #[(99:UInt8)] else bif decide (i=(1:Nat)) then ByteArray.mk #[(98:UInt8)] else ByteArray.mk #[(97:UInt8)])=(plL (PlnG.mk w h v)).nm i))/\A ((1:Nat)=(1:Nat))/\∀ i:Nat,i<(1:Nat)->((((((((((((((((((((((((Lsg.qI (((True/\A z0/\A z1)/\A ((16:Nat)*z5.toNat=(16:Nat)*h)/\∀ i:Nat,i<(16:Nat)*h->(((True/\q0 ((↑i:Int)))/\A z0/\A z1)/\A z0/\A ((16:Int)*(↑z3.toNat:Int)=(16:Int)*z3)))/\A z0/\A z1) v v)/\A z0/\A z1)/\A z0/\A z1)/\A z0/\A z1)/\A z0/\A z1)/\A z0/\A z1)/\A z4)/\A z0/\A z1)/\A z0/\A z1)/\A z4)/\A z4)/\A z0/\A z1)/\A z0/\A z1)/\A z0/\A z1)/\A z0/\A z1)/\A z0/\A z1)/\A z0/\A z1)/\A z2)/\A z2)/\A (IntKind.u8=IntKind.u8)/\A ((255:Int)=(255:Int)))/\A z0/\A z1)/\A z2)/\A z2)/\A z2)) (by kernel_rfl) ?_
 delta Lsg.qI
 simp only [aa4,aa8,eq_self,true_and,and_true,implies_true,forall_const,decide_eq_true_eq,decide_eq_false_iff_not,ne_eq,Nat.mul_one,Nat.add_zero,Nat.zero_add]
 have w1:1<=w:=w1
 have w2:w<=2:=w2
 have h1:1<=h:=h1
 have h2:h<=2:=h2
 exact ⟨⟨⟨by omega,by omega⟩,by omega,by omega⟩,lt8 rfl rfl rfl rfl rfl rfl rfl rfl,fun _ _=>⟨by omega,fun _ _=>by omega⟩⟩
def shG:PlnG:=⟨1,1,⟨200,0,0,0,0,0,0,0⟩⟩
def shA:AtL:=⟨plL shG,3,3⟩
abbrev eqL:List (TypeId×List CK):=[(28,[.int,.int,.int,.int,.int,.int,.int,.int])]
theorem eqL_ok:AllEq Tryz.prog eqL:=⟨aB2 (m:=8) (by kernel_rfl) (by kernel_rfl) rfl (by decide) (by kernel_rfl),trivial⟩
theorem sh_v:shA.v 0=200/\shA.v 1=0/\shA.v 2=0/\shA.v 3=0/\shA.v 4=0/\shA.v 5=0/\shA.v 6=0/\shA.v 7=0:=by
 refine ⟨?_,?_,?_,?_,?_,?_,?_,?_⟩<;>kernel_rfl
theorem pl_u8 {g:PlnG}(hv:u8i g.v) (hh:g.h<=2):LsU8 (plL g):=⟨fun _ _=>show 0<=(255:Int)/\(255:Int)<=255 from ⟨by decide,by decide⟩,fun _ _=>hv,fun _ _ j hj=>absurd hj (Nat.not_lt_zero j),fun _ _ j hj=>absurd hj (Nat.not_lt_zero j),fun _ _ j hj=>absurd hj (Nat.not_lt_zero j),fun _ _=>show 16*g.h<=9223372036854775807 by omega⟩
theorem sh_u8:LsU8 (plL shG):=pl_u8 (by unfold shG u8i; decide) (by decide)
def spShown:FSpec:=aa5 5 (γ:=Unit) (fun _=>some ()) (fun _=>[]) (fun _=>True) (fun _=> .bool true)
theorem ok_shown:aa2 Tryz.prog spShown:=by
 refine aa1 (specs:=[spPln,spAtL]) (aa9 (⟨ok_pln,ok_atL,trivial⟩)) (eqs:=eqL) (all_eq eqL_ok) Aff.mixed Tryz.func5 rfl (by kernel_rfl) (fun _ _=>by kernel_rfl) (fun g=>A0) (fun g=>Nat.le_of_ble_eq_true (by kernel_rfl)) ?_
 rintro _ _
 refine ab5 (B:=let K:=Int.toNat;let A:=Sx.Ask;let z13:=(200:Int);let z12:=(false=false);let z11:=(1:Int);let z8:=(0:Nat);let z7:=(1:Nat);let z5:=(K z11);let z10:=(↑z5:Int);let z4:=(0:Int);let z15:=(Img.Ink.mk z13 z4 z4 z4 z4 z4 z4 z4);let z9:=(plL (PlnG.mk z5 z5 z15));let z3:=(IntKind.i64=IntKind.i64);let q3:=fun p:Int=>A z3/\A (p=p);let z14:=(q3 ((3:Int)));let z2:=(IntKind.u8=IntKind.u8);let q2:=fun p:Int=>A z2/\A (p=p);let z1:=(z4=z4);let z0:=(Lsg.LsG.mk z10 z10 (8:Nat) (fun (i:Nat)=>Lsg.strOf (Sx.SV.str (z9.nm i))) z7 fun (i:Nat)=>Lsg.It.mk z4 ((16:Nat)*K z11) (fun (i:Nat)=>Rga.Rn.mk (↑i:Int) z4 ((16:Int)*z10)) (Lsg.Src.mk z4 z15 z4 z4 z4 z4 z4 z8 (fun (i:Nat)=>Lsg.Stp.mk z4 (Img.Ink.mk z4 z4 z4 z4 z4 z4 z4 z4)) (Img.ImgG.mk z4 z4 z8 (fun (i:Nat)=>Img.Ink.mk z4 z4 z4 z4 z4 z4 z4 z4) z8 (fun (x:Nat)=>z4) (Aff.Mat.mk z4 z4 z4 z4 z4 z4) false false)) (255:Int) z4 false false false);let z6:=(Lat.AtL.mk z0 (3:Int) (3:Int));True/\True/\(((A z3/\A (z11=z10))/\(A z3/\A (z11=z10))/\((((((((True/\q2 z13)/\A z2/\A z1)/\A z2/\A z1)/\A z2/\A z1)/\A z2/\A z1)/\A z2/\A z1)/\A z2/\A z1)/\A z2/\A z1)/\True)/\A ((z7<=K z11/\K z11<=(2:Nat))/\z7<=K z11/\K z11<=(2:Nat)))/\((((((True/\q3 z10)/\q3 z10)/\A ((8:Nat)=(8:Nat))/\∀ i:Nat,i<(8:Nat)->True/\A (z9.nm i=Lsg.strOf (Sx.SV.str (z9.nm i))))/\A (z7=z7)/\∀ i:Nat,i<z7->(((((((((((((((((((((((((((((((((True/\A z3/\A z1)/\A ((16:Nat)*K z11=(16:Nat)*K z11)/\∀ i:Nat,i<(16:Nat)*K z11->((True/\q3 ((↑i:Int)))/\A z3/\A z1)/\q3 ((16:Int)*z10))/\A z3/\A z1)/\q2 z13)/\A z2/\A z1)/\A z2/\A z1)/\A z2/\A z1)/\A z2/\A z1)/\A z2/\A z1)/\A z2/\A z1)/\A z2/\A z1)/\A z3/\A z1)/\A z3/\A z1)/\A z3/\A z1)/\A z3/\A z1)/\A z3/\A z1)/\A (z8=z8)/\∀ i:Nat,i<z8->((((((((True/\A z3/\A z1)/\A z2/\A z1)/\A z2/\A z1)/\A z2/\A z1)/\A z2/\A z1)/\A z2/\A z1)/\A z2/\A z1)/\A z2/\A z1)/\A z2/\A z1)/\A z3/\A z1)/\A z3/\A z1)/\A (z8=z8)/\∀ i:Nat,i<z8->(((((((True/\A z2/\A z1)/\A z2/\A z1)/\A z2/\A z1)/\A z2/\A z1)/\A z2/\A z1)/\A z2/\A z1)/\A z2/\A z1)/\A z2/\A z1)/\A (z8=z8)/\∀ i:Nat,i<z8->True/\A z2/\A z1)/\A z3/\A z1)/\A z3/\A z1)/\A z3/\A z1)/\A z3/\A z1)/\A z3/\A z1)/\A z3/\A z1)/\A z12)/\A z12)/\q2 ((255:Int)))/\A z3/\A z1)/\A z12)/\A z12)/\A z12)/\z14/\z14/\True)/\A (Lto.LsU8 z0))/\True/\True/\True/\True/\True/\True/\True/\True/\True/\True/\True/\True/\True/\True/\True/\A ((decide (z6.v (z8+z8)=z13)&&(decide (z6.v (z8+(z8+z7))=z4)&&(decide (z6.v (z8+(z8+z7+z7))=z4)&&(decide (z6.v (z8+(z8+z7+z7+z7))=z4)&&(decide (z6.v (z8+(z8+z7+z7+z7+z7))=z4)&&(decide (z6.v (z8+(z8+z7+z7+z7+z7+z7))=z4)&&(decide (z6.v (z8+(z8+z7+z7+z7+z7+z7+z7))=z4)&&(decide (z6.v (z8+(z8+z7+z7+z7+z7+z7+z7+z7))=z4)&&true))))))))=true)) (by kernel_rfl) ?_
 simp only [aa4,aa8,eq_self,true_and,and_true,implies_true,forall_const,decide_eq_true_eq,decide_eq_false_iff_not,ne_eq,Nat.mul_one,Nat.add_zero,Nat.zero_add]
 obtain ⟨v0,v1,v2,v3,v4,v5,v6,v7⟩:=sh_v
 refine ⟨⟨⟨rfl,rfl⟩,⟨by decide,by decide⟩,by decide,by decide⟩,⟨fun _ _=>rfl,sh_u8⟩,?_⟩
 show (decide (shA.v 0=200)&&(decide (shA.v 1=0)&&(decide (shA.v 2=0)&&(decide (shA.v 3=0)&&(decide (shA.v 4=0)&&(decide (shA.v 5=0)&&(decide (shA.v 6=0)&&(decide (shA.v 7=0)&&true))))))))=true
 rw [v0,v1,v2,v3,v4,v5,v6,v7]
 rfl
def ag3 (L:LsG):LsG:={ L with w:=cutI L.w 1 2,h:=cutI L.h 1 2,n:=if 12<L.n then 12 else L.n }
def spTiny:FSpec:=aa5 6 (γ:=LsG) (fun | [.agg _ g]=>some (lsD g) | _=>none) (fun g=>[lsS g]) (fun _=>True) (fun g=>lsS (ag3 g))
theorem ok_tiny:aa2 Tryz.prog spTiny:=by
 refine aa1 (specs:=[spCut]) (aa9 (⟨ok_cut,trivial⟩)) (eqs:=[]) (fun _ _ h=>(List.not_mem_nil h).elim) Aff.mixed Tryz.func6 rfl (by kernel_rfl) (fun _ _=>by kernel_rfl) (fun g=>A0) (fun g=>Nat.le_of_ble_eq_true (by kernel_rfl)) ?_
 rintro L _
 refine ab5 (B:=let K:=Int.ofNat;let A:=Sx.Ask;let z5:=(2:Int);let z4:=(1:Int);let z3:=(12:Nat);let z2:=(((-2305843009213693952:Int)<=z4/\z4<=z5)/\z5<=(4611686018427387903:Int)/\z5-z4<=(4611686018427387903:Int));let z1:=(IntKind.i64=IntKind.i64);let q1:=fun p:Int=>A z1/\A (p=p);let z0:=(((True/\q1 (cutI L.w z4 z5))/\q1 (cutI L.h z4 z5))/\A (L.ni=L.ni)/\∀ i:Nat,i<L.ni->True/\A (L.nm i=(ag3 L).nm i));True/\True/\True/\True/\(((q1 L.w)/\(q1 z4)/\(q1 z5)/\True)/\A z2)/\True/\True/\(((q1 L.h)/\(q1 z4)/\(q1 z5)/\True)/\A z2)/\True/\True/\True/\True/\True/\True/\True/\True/\Sx.Br (decide ((12:Int)<(↑L.n:Int))) (True/\True/\A ((0:Int)<=K (0:Nat)/\K (0:Nat)<=K z3/\K z3<=K L.n/\K L.n<=(↑L.n:Int))/\True/\True/\True/\True/\(True/\True)/\z0/\A ((K z3-K (0:Nat)).toNat=if z3<L.n then z3 else L.n)/\∀ i:Nat,(i<if z3<L.n then z3 else L.n)->(Lsg.qT True (L.it ((K (0:Nat)).toNat+i)) ((ag3 L).it i))) (True/\True/\(True/\True)/\z0/\A (L.n=if z3<L.n then z3 else L.n)/\∀ i:Nat,(i<if z3<L.n then z3 else L.n)->(Lsg.qT True (L.it i) ((ag3 L).it i)))) (by kernel_rfl) ?_
 delta Lsg.qG Lsg.qI Lsg.qM Lsg.qS Lsg.qT
 simp only [aa4,aa8,eq_self,true_and,and_true,implies_true,forall_const,decide_eq_true_eq,decide_eq_false_iff_not,ne_eq,Nat.mul_one,Nat.add_zero,Nat.zero_add]
 refine ⟨⟨⟨by decide,by decide⟩,by decide,by decide⟩,⟨⟨by decide,by decide⟩,by decide,by decide⟩,fun h=>?_,fun h=>?_⟩
 ·have h:12<L.n:=by omega
  refine ⟨⟨by decide,by decide,by simp only [Int.ofNat_eq_natCast]; omega,by simp⟩,fun _ _=>rfl,by rw [if_pos h]; rfl,fun i hi=>?_⟩
  have e:L.it ((Int.ofNat 0).toNat+i)=(ag3 L).it i:=by show L.it (0+i)=L.it i; rw [Nat.zero_add]
  rw [e]
  repeat' first | exact rfl | apply And.intro | intro _
 ·have h:¬ 12<L.n:=by omega
  refine ⟨fun _ _=>rfl,by rw [if_neg h],fun i hi=>?_⟩
  repeat' first | exact rfl | apply And.intro | intro _
end Go.Proofs.YthappngbapbkfaaGreat.Lsh
namespace Go.Proofs.YthappngbapbkfaaGreat.Sx
open Go.RowKit
end Go.Proofs.YthappngbapbkfaaGreat.Sx
