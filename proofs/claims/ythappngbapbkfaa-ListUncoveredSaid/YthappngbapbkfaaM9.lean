/- Part 9 of the texts that the law's proof leans on. -/
import Derived.Test.YthappngbapbkfaaM8
set_option linter.unusedSimpArgs false
set_option linter.unusedVariables false
namespace Go.Proofs.Ythappngbapbkfaa.Lpa
open Go.RowKit Sx Num Aff Afi Img Imh Imp Imq Rga Blend Ble Lsg Lta Lrd Lri Luc Lck Lgr Lcs Lst Lch Lcl Lgp Lsc Cmp Lpm
set_option maxRecDepth 100000
def spMul255:FSpec:=mkSpec 43 (γ:=Int×Int) (fun | [.int _ a,.int _ b]=>some (a,b) | _=>none) (fun g=>[.int .u8 g.1,.int .u8 g.2]) (fun g=>(0<=g.1/\g.1<=255)/\0<=g.2/\g.2<=255) (fun g=> .int .u8 (mul255 g.1 g.2))
theorem ok_mul255:SpecOK Try.prog spMul255:=by
 refine spec_sound (specs:=[spNear]) (all_ok (⟨ok_near,trivial⟩)) (eqs:=[]) (fun _ _ h=>(List.not_mem_nil h).elim) Aff.mixed Try.func43 rfl (by kernel_rfl) (fun _ _=>by kernel_rfl) (fun g=>A0) (fun g=>Nat.le_of_ble_eq_true (by kernel_rfl)) ?_
 rintro ⟨a,b⟩ ⟨ha,hb⟩
 refine vc_of (B:=let K:=IntKind.i64;let A:=Sx.Ask;let z1:=(9223372036854775807:Int);let z0:=(-9223372036854775808:Int);True/\True/\A (z0<=a/\a<=z1)/\True/\A (z0<=b/\b<=z1)/\A (z0<=a*b/\a*b<=z1)/\(((A (K=K)/\A (a*b=a*b))/\(A (K=K)/\A ((255:Int)=(255:Int)))/\True)/\A (((-4611686018427387904:Int)<=a*b/\a*b<=(4611686018427387904:Int))/\(1:Int)<=(255:Int)/\(255:Int)<=(4611686018427387904:Int)))/\A True/\True/\True/\A (IntKind.u8=IntKind.u8)/\A (IntKind.u8.wrap (nr (a*b) (255:Int))=mul255 a b)) (by kernel_rfl) ?_
 simp only [ask_iff,br_iff,eq_self,true_and,and_true,implies_true,forall_const,decide_eq_true_eq,decide_eq_false_iff_not,ne_eq,Nat.mul_one,Nat.add_zero,Nat.zero_add]
 have h:=mul255_range ha.1 ha.2 hb.1 hb.2
 have m:0<=a*b/\a*b<=65025:=⟨Int.mul_nonneg ha.1 hb.1,Int.le_trans (Int.mul_le_mul ha.2 hb.2 hb.1 (by decide)) (by decide)⟩
 have ha:0<=a/\a<=255:=ha
 have hb:0<=b/\b<=255:=hb
 refine ⟨by omega,by omega,by omega,by omega,?_⟩
 exact u8w h.1 h.2
abbrev TSt:TypeId:=77
abbrev TSs:TypeId:=75
abbrev TRp:TypeId:=80
theorem srcX_ex (s:Src):∃ v,v=srcF s:=⟨_,rfl⟩
noncomputable def srcX (s:Src):SV:=Classical.choose (srcX_ex s)
theorem srcX_eq (s:Src):srcX s=srcF s:=Classical.choose_spec (srcX_ex s)
theorem srcX_own (s:Src):noOwn (srcX s):=by rw [srcX_eq]; exact srcF_own s
def fcS (t:Nat) (x:It) (sv:SV):Nat->SV:=lst (itL x++[.int .i64 t,sv,mixS x])
def stR (ns:Nat) (f:Nat->Cl):SO:= .row 0 ns 9 (fun i j=> .int .u8 (f i j)) TSt
def stFD:SO->Nat->Cl
 | .row _ _ _ g _=>fun i j=>Sx.intOf (g i j)
 | _=>fun _ _=>0
def rowND:SO->Nat
 | .row _ n _ _ _=>n
 | _=>0
def clG:SO->Nat->SV
 | .cells _ g _=>g
 | _=>fun _=> .any
def refG:SV->Nat->SV
 | .ref _ g=>g
 | _=>fun _=> .any
structure PcG where
 t:Nat
 x:It
 s:StG
 ns:Nat
 st:Nat->Cl
 bs:Nat->Cl
 a0:Int
 a1:Int
structure PcOK (g:PcG):Prop where
 fill:FillOK g.x
 y : -8192<=g.s.y/\g.s.y<8192
 x0 : -8192<=g.s.x0
 x1:g.s.x1<=8192
 n:(g.ns:Int)=g.s.x1-g.s.x0
 l:g.s.x0<=g.a0
 h:g.a1<=g.s.x1
 st:∀ i,i<g.ns->isU9 (g.st i)
 bs:∀ i,i<g.ns->isU9 (g.bs i)
def PcG.at (g:PcG) (k:Int) (i:Nat):Cl:=if g.a0<=g.s.x0+i/\g.s.x0+i<g.a0+k then fillC g.x (g.s.x0+i) g.s.y (g.bs i) else g.st i
def PcG.fin (g:PcG) (i:Nat):Cl:=if g.a0<=g.s.x0+i/\g.s.x0+i<g.a1 then fillC g.x (g.s.x0+i) g.s.y (g.bs i) else g.st i
def pcO (g:PcG) (sv:SV) (f:Nat->Cl):List SO:=[.cells 1 (lst [.ref 37 (fcS g.t g.x sv)]) TPf,.cells 3 (lst (stL g.s)) TRp,.cells 1 (lst [.osl 4 0]) TSs,.cells 1 (lst [.osl 4 0]) TSs,stR g.ns f]
theorem zf8:(fun j=>Sx.intOf (zeroF [Value.int IntKind.u8 0,Value.int IntKind.u8 0,Value.int IntKind.u8 0,Value.int IntKind.u8 0,Value.int IntKind.u8 0,Value.int IntKind.u8 0,Value.int IntKind.u8 0,Value.int IntKind.u8 0] j))=inkF z8:=by
 funext j
 match j with
 | 0=>rfl
 | 1=>rfl
 | 2=>rfl
 | 3=>rfl
 | 4=>rfl
 | 5=>rfl
 | 6=>rfl
 | 7=>rfl
 | n+8=>rfl
theorem all9 {p:Nat->Prop}(h:∀ j,p j):(((((((p 0/\p 1)/\p 2)/\p 3)/\p 4)/\p 5)/\p 6)/\p 7)/\p 8:=⟨⟨⟨⟨⟨⟨⟨⟨h 0,h 1⟩,h 2⟩,h 3⟩,h 4⟩,h 5⟩,h 6⟩,h 7⟩,h 8⟩
theorem g_at0 (g:PcG) (i:Nat):g.at ((0:Nat):Int) i=g.st i:=by
 unfold PcG.at
 exact if_neg (by omega)
theorem pc_in {g:PcG}(hg:PcOK g) {k:Nat}(hk:k<=(g.a1-g.a0).toNat) (hlt:g.a0+k<g.a1):(g.a0+k-g.s.x0).toNat<g.ns/\k<(g.a1-g.a0).toNat:=by
 have:=hg.n; have:=hg.l; have:=hg.h
 omega
theorem pc_xy {g:PcG}(hg:PcOK g) {k:Nat}(hlt:g.a0+k<g.a1):xyOK (g.a0+k) g.s.y:=by
 have:=hg.l; have:=hg.h; have:=hg.x0; have:=hg.x1
 exact ⟨by omega,hg.y⟩
theorem pc_here {g:PcG}(hg:PcOK g) (k:Nat):g.at k (g.a0+k-g.s.x0).toNat=g.st (g.a0+k-g.s.x0).toNat:=by
 have:=hg.l
 unfold PcG.at
 exact if_neg (by omega)
theorem pc_b {g:PcG}(hg:PcOK g) {k:Nat}(hk:k<=(g.a1-g.a0).toNat) (hlt:g.a0+k<g.a1):(-9223372036854775808<=g.a0+k-g.s.x0/\g.a0+k-g.s.x0<=9223372036854775807)/\(0<=g.a0+k-g.s.x0/\g.a0+k-g.s.x0<g.ns)/\ -9223372036854775808<=g.a0+k+1/\g.a0+k+1<=9223372036854775807:=by
 have:=hg.n; have:=hg.l; have:=hg.h; have:=hg.x0; have:=hg.x1
 omega
theorem pc_step {g:PcG}(hg:PcOK g) {k:Nat}(hlt:g.a0+k<g.a1) (i j:Nat):(bif decide (i=(g.a0+k-g.s.x0).toNat/\0<=j/\j<9) then fillC g.x (g.a0+k) g.s.y (g.bs (g.a0+k-g.s.x0).toNat) (j-0) else g.at k i j)=bif decide (j<9) then g.at ((k+1:Nat):Int) i j else g.at k i j:=by
 have hl:=hg.l
 by_cases hj:j<9
 ·rw [decide_eq_true hj,cond_true]
  by_cases hi:i=(g.a0+k-g.s.x0).toNat
  ·rw [decide_eq_true ⟨hi,Nat.zero_le _,hj⟩,cond_true,Nat.sub_zero]
   have e:g.s.x0+(i:Int)=g.a0+k:=by omega
   unfold PcG.at
   rw [if_pos (by omega),e,hi]
  ·rw [decide_eq_false (fun h=>hi h.1),cond_false]
   unfold PcG.at
   by_cases hc:g.a0<=g.s.x0+i/\g.s.x0+i<g.a0+k
   ·rw [if_pos hc,if_pos (by omega)]
   ·rw [if_neg hc,if_neg (by omega)]
 ·rw [decide_eq_false hj,decide_eq_false (fun h=>hj h.2.2),cond_false,cond_false]
theorem pc_end {g:PcG}{k:Nat}(hk:k<=(g.a1-g.a0).toNat) (hge:¬ g.a0+k<g.a1) (i:Nat):g.at k i=g.fin i:=by
 unfold PcG.at PcG.fin
 by_cases hc:g.a0<=g.s.x0+i/\g.s.x0+i<g.a1
 ·rw [if_pos (by omega),if_pos hc]
 ·by_cases h2:g.a0<=g.s.x0+i/\g.s.x0+i<g.a0+k
  ·omega
  ·rw [if_neg h2,if_neg hc]
def pcI (g:PcG) (sv:SV):Inv:=⟨Nat,fun k=>k<=(g.a1-g.a0).toNat,fun k=>⟨[(1,.int .i64 g.a1),(2,.own 0 0),(3,.own 1 0),(4,.own 2 0),(5,.own 3 0),(8,.int .i64 (g.a0+k))],pcO g sv (g.at k)⟩,fun k=>(g.a1-g.a0).toNat-k⟩
noncomputable def spPc:FSpec:=mkSpecM 42 [.arg 2,.arg 3,.arg 4,.arg 5,.cell 3 0] (γ:=PcG)
 (fun | .int _ a0:: .int _ a1::_,o=>some ⟨(Sx.intOf (refG (clG (o.getD 0 .dead) 0) 34)).toNat,itD (refG (clG (o.getD 0 .dead) 0)),stD (clG (o.getD 1 .dead)),rowND (o.getD 4 .dead),stFD (o.getD 4 .dead),stFD (o.getD 4 .dead),a0,a1⟩ | _,_=>none)
 (fun g=>[.int .i64 g.a0,.int .i64 g.a1,.own 0 0,.own 1 0,.own 2 0,.own 3 0]) (fun g=>pcO g (srcX g.x.src) g.st) (fun g=>PcOK g/\g.bs=g.st) (fun _=> .tup 0 (lst [])) (fun g=>pcO g (srcX g.x.src) g.fin)
set_option maxHeartbeats 2000000 in
theorem ok_pc:SpecOK Try.prog spPc:=by
 refine spec_soundM (specs:=[spS0,spS12,spS3,spMul255,spPaint]) (all_ok (⟨ok_S0,ok_S12,ok_S3,ok_mul255,ok_paint,trivial⟩)) (eqs:=[]) (fun _ _ h=>(List.not_mem_nil h).elim) Aff.mixed Try.func42 rfl (by kernel_rfl) (fun _ _=>by kernel_rfl) (fun g=>(⟨[(1,.inv (pcI g (srcX g.x.src)))],[]⟩:Ann)) true (fun g=>Nat.le_of_ble_eq_true (by kernel_rfl)) ?_
 rintro ⟨t,x,s,ns,st,bs,a0,a1⟩ ⟨hg,hbs⟩
 have hbs:st=bs:=hbs.symm
 subst hbs
 by_cases k0:x.src.kind=0
 ·have e:srcX x.src = .fn 51 1 (lst [.ref 27 (lst (srcL x.src))]):=by rw [srcX_eq]; unfold srcF srcN srcW srcG; rw [if_pos k0,if_neg (by omega),if_neg (by omega)]
  simp only [e]
  refine vc_of (B:=let T11:=fun p:Prop=>True/\True/\True/\True/\True/\True/\True/\True/\True/\True/\True/\p;let A:=Sx.Ask;let z47:=(x.src.img.smooth=x.src.img.smooth);let z45:=(72:Go.FuncId);let z44:=(58:Go.FuncId);let z41:=(Blend.modeF x.blend.toNat=Blend.modeF x.blend.toNat);let z38:=(x.src.img.rep=x.src.img.rep);let z34:=(True/\True);let z33:=(8:Nat);let z32:=(7:Nat);let z31:=(6:Nat);let z30:=(5:Nat);let z29:=(4:Nat);let z28:=(3:Nat);let z27:=(2:Nat);let z25:=(1:Nat);let z24:=(9:Nat);let z20:=(0:Int);let z42:=(z20=z20);let z15:=(A (z44=z44)/\True/\True/\A (z45=z45)/\True/\True/\A z41/\True);let z10:=(0:Nat);let z26:=(z10=z10);let z7:=(IntKind.i64=IntKind.i64);let q7:=fun p:Int=>A z7/\A (p=p);let z40:=(q7 a1);let z13:=(((True/\q7 s.y)/\q7 s.x0)/\q7 s.x1);let z5:=(IntKind.u8=IntKind.u8);let q5:=fun p:Int=>A z5/\A (p=p);let z3:=(PcG.mk t x s ns st st a0 a1);let z9:=(pcI z3 (Sx.SV.fn (51:Go.FuncId) z25 (Sx.lst [Sx.SV.ref (27:Nat) (Sx.lst (Lsg.srcL x.src))])));let z2:=((((((((((((((((((((((((((True/\q7 x.src.kind)/\q5 x.src.ink.c0)/\q5 x.src.ink.c1)/\q5 x.src.ink.c2)/\q5 x.src.ink.c3)/\q5 x.src.ink.c4)/\q5 x.src.ink.c5)/\q5 x.src.ink.c6)/\q5 x.src.ink.c7)/\q7 x.src.fx)/\q7 x.src.fy)/\q7 x.src.tx)/\q7 x.src.ty)/\q7 x.src.rad)/\A (x.src.ns=x.src.ns)/\∀ i:Nat,let z21:=(x.src.st i); i<x.src.ns->((((((((True/\q7 z21.pos)/\q5 z21.ink.c0)/\q5 z21.ink.c1)/\q5 z21.ink.c2)/\q5 z21.ink.c3)/\q5 z21.ink.c4)/\q5 z21.ink.c5)/\q5 z21.ink.c6)/\q5 z21.ink.c7)/\q7 x.src.img.w)/\q7 x.src.img.h)/\A (x.src.img.n=x.src.img.n)/\∀ i:Nat,let z16:=(x.src.img.px i); i<x.src.img.n->(((((((True/\q5 z16.c0)/\q5 z16.c1)/\q5 z16.c2)/\q5 z16.c3)/\q5 z16.c4)/\q5 z16.c5)/\q5 z16.c6)/\q5 z16.c7)/\A (x.src.img.sn=x.src.img.sn)/\∀ i:Nat,i<x.src.img.sn->True/\q5 (x.src.img.sf i))/\q7 x.src.img.m.a)/\q7 x.src.img.m.b)/\q7 x.src.img.m.c)/\q7 x.src.img.m.d)/\q7 x.src.img.m.e)/\q7 x.src.img.m.f)/\A z47);let z0:=(True/\((((((((((((((((((((((((((((((((((((True/\q7 x.kind)/\A (x.nr=x.nr)/\∀ i:Nat,i<x.nr->((True/\q7 ((x.runs i).y))/\q7 ((x.runs i).x0))/\q7 ((x.runs i).x1))/\q7 x.src.kind)/\q5 x.src.ink.c0)/\q5 x.src.ink.c1)/\q5 x.src.ink.c2)/\q5 x.src.ink.c3)/\q5 x.src.ink.c4)/\q5 x.src.ink.c5)/\q5 x.src.ink.c6)/\q5 x.src.ink.c7)/\q7 x.src.fx)/\q7 x.src.fy)/\q7 x.src.tx)/\q7 x.src.ty)/\q7 x.src.rad)/\A (x.src.ns=x.src.ns)/\∀ i:Nat,let z22:=(x.src.st i); i<x.src.ns->((((((((True/\q7 z22.pos)/\q5 z22.ink.c0)/\q5 z22.ink.c1)/\q5 z22.ink.c2)/\q5 z22.ink.c3)/\q5 z22.ink.c4)/\q5 z22.ink.c5)/\q5 z22.ink.c6)/\q5 z22.ink.c7)/\q7 x.src.img.w)/\q7 x.src.img.h)/\A (x.src.img.n=x.src.img.n)/\∀ i:Nat,let z17:=(x.src.img.px i); i<x.src.img.n->(((((((True/\q5 z17.c0)/\q5 z17.c1)/\q5 z17.c2)/\q5 z17.c3)/\q5 z17.c4)/\q5 z17.c5)/\q5 z17.c6)/\q5 z17.c7)/\A (x.src.img.sn=x.src.img.sn)/\∀ i:Nat,i<x.src.img.sn->True/\q5 (x.src.img.sf i))/\q7 x.src.img.m.a)/\q7 x.src.img.m.b)/\q7 x.src.img.m.c)/\q7 x.src.img.m.d)/\q7 x.src.img.m.e)/\q7 x.src.img.m.f)/\A z47)/\A z38)/\q5 x.alpha)/\q7 x.blend)/\A (x.over=x.over))/\A (x.iso=x.iso))/\A (x.knock=x.knock))/\q7 ((↑t:Int)))/\A ((51:Go.FuncId)=(51:Go.FuncId))/\True/\z2/\A z38)/\A (z44=z44)/\True/\True/\A (z45=z45)/\True/\True/\A z41/\True);True/\True/\(∃ g:Nat,let z39:=(↑g:Int); A (z9.pre g)/\True/\(z40/\A z26/\A z26/\A z26/\A z26/\(A z7/\A (a0=a0+z39))/\True)/\z0/\z13/\z34/\z34/\(A (ns=ns)/\∀ i:Nat,i<ns->((((((((True/\A z5/\A (st i z10=z3.at z39 i z10))/\A z5/\A (st i z25=z3.at z39 i z25))/\A z5/\A (st i z27=z3.at z39 i z27))/\A z5/\A (st i z28=z3.at z39 i z28))/\A z5/\A (st i z29=z3.at z39 i z29))/\A z5/\A (st i z30=z3.at z39 i z30))/\A z5/\A (st i z31=z3.at z39 i z31))/\A z5/\A (st i z32=z3.at z39 i z32))/\A z5/\A (st i z33=z3.at z39 i z33))/\True)/\∀ g:Nat,let z8:=(↑g:Int);let z23:=((-9223372036854775808:Int)<=a0+z8+(1:Int)/\a0+z8+(1:Int)<=(9223372036854775807:Int));let z19:=(z20<=a0+z8-s.x0/\a0+z8-s.x0<(↑ns:Int));let z18:=(Lsc.Src.al x.src (a0+z8) s.y);let z37:=(q5 (mul255 z18 x.alpha));let z14:=((-9223372036854775808:Int)<=a0+z8-s.x0/\a0+z8-s.x0<=(9223372036854775807:Int));let z12:=(Lsc.Src.at x.src (a0+z8) s.y);let z11:=(a0+z8-s.x0);let z46:=(z11.toNat<ns);let z43:=(fun (j:Nat)=>z3.at z8 z11.toNat (z10+j));let z6:=(((((((((True/\q5 (z3.at z8 z11.toNat (z10+z10)))/\q5 (z3.at z8 z11.toNat (z10+z25)))/\q5 (z3.at z8 z11.toNat (z10+z27)))/\q5 (z3.at z8 z11.toNat (z10+z28)))/\q5 (z3.at z8 z11.toNat (z10+z29)))/\q5 (z3.at z8 z11.toNat (z10+z30)))/\q5 (z3.at z8 z11.toNat (z10+z31)))/\q5 (z3.at z8 z11.toNat (z10+z32)))/\q5 (z3.at z8 z11.toNat (z10+z33)));let z4:=(Cmp.PaintG.mk z43 (fun (j:Nat)=>Sx.intOf (Sx.lst (Img.inkL z12) (z10+j))) (mul255 z18 x.alpha) (Blend.modeF x.blend.toNat) x.over);let z1:=(Cmp.PaintG.mk z43 (fun (j:Nat)=>Sx.intOf (Sx.zeroF [Go.Value.int IntKind.u8 z20,Go.Value.int IntKind.u8 z20,Go.Value.int IntKind.u8 z20,Go.Value.int IntKind.u8 z20,Go.Value.int IntKind.u8 z20,Go.Value.int IntKind.u8 z20,Go.Value.int IntKind.u8 z20,Go.Value.int IntKind.u8 z20] (z10+j))) (mul255 z18 x.alpha) (Blend.modeF x.blend.toNat) x.over); z9.pre g->True/\True/\True/\Sx.Br (decide (a0+z8<a1)) (True/\True/\True/\True/\True/\True/\True/\(((q7 (a0+z8))/\(q7 s.y)/\(z2/\A z38)/\True)/\A (x.src.kind=z20))/\T11 (True/\(((q5 (Lsc.Src.al x.src (a0+z8) s.y))/\(q5 x.alpha)/\True)/\A ((z20<=Lsc.Src.al x.src (a0+z8) s.y/\Lsc.Src.al x.src (a0+z8) s.y<=(255:Int))/\z20<=x.alpha/\x.alpha<=(255:Int)))/\True/\True/\True/\Sx.Br (decide (mul255 z18 x.alpha=z20)) (True/\True/\True/\True/\True/\True/\A z14/\True/\True/\True/\True/\A z14/\A z19/\A z46/\T11 (((z6/\((((((((True/\A z5/\A z42)/\A z5/\A z42)/\A z5/\A z42)/\A z5/\A z42)/\A z5/\A z42)/\A z5/\A z42)/\A z5/\A z42)/\A z5/\A z42)/\z37/\z15/\A (x.over=x.over)/\True)/\A z1.ok)/\A z19/\A z46/\True/\A z23/\True/\∃ (g':Nat),let z35:=(↑g':Int); A (z9.pre g')/\True/\((z40/\A z26/\A z26/\A z26/\A z26/\(A z7/\A (a0+z8+(1:Int)=a0+z35))/\True)/\z0/\z13/\z34/\z34/\(A (ns=ns)/\∀ i:Nat,i<ns->((((((((True/\A z5/\A ((bif decide (i=z11.toNat/\z10<=z10/\z10<z10+z24) then z1.res (z10-z10) else z3.at z8 i z10)=z3.at z35 i z10))/\A z5/\A ((bif decide (i=z11.toNat/\z10<=z25/\z25<z10+z24) then z1.res (z25-z10) else z3.at z8 i z25)=z3.at z35 i z25))/\A z5/\A ((bif decide (i=z11.toNat/\z10<=z27/\z27<z10+z24) then z1.res (z27-z10) else z3.at z8 i z27)=z3.at z35 i z27))/\A z5/\A ((bif decide (i=z11.toNat/\z10<=z28/\z28<z10+z24) then z1.res (z28-z10) else z3.at z8 i z28)=z3.at z35 i z28))/\A z5/\A ((bif decide (i=z11.toNat/\z10<=z29/\z29<z10+z24) then z1.res (z29-z10) else z3.at z8 i z29)=z3.at z35 i z29))/\A z5/\A ((bif decide (i=z11.toNat/\z10<=z30/\z30<z10+z24) then z1.res (z30-z10) else z3.at z8 i z30)=z3.at z35 i z30))/\A z5/\A ((bif decide (i=z11.toNat/\z10<=z31/\z31<z10+z24) then z1.res (z31-z10) else z3.at z8 i z31)=z3.at z35 i z31))/\A z5/\A ((bif decide (i=z11.toNat/\z10<=z32/\z32<z10+z24) then z1.res (z32-z10) else z3.at z8 i z32)=z3.at z35 i z32))/\A z5/\A ((bif decide (i=z11.toNat/\z10<=z33/\z33<z10+z24) then z1.res (z33-z10) else z3.at z8 i z33)=z3.at z35 i z33))/\True)/\A (z9.meas g'<z9.meas g))) (True/\True/\True/\True/\A z14/\True/\True/\True/\True/\A z14/\A z19/\A z46/\T11 (((z6/\((((((((True/\q5 z12.c0)/\q5 z12.c1)/\q5 z12.c2)/\q5 z12.c3)/\q5 z12.c4)/\q5 z12.c5)/\q5 z12.c6)/\q5 z12.c7)/\z37/\z15/\A (x.over=x.over)/\True)/\A z4.ok)/\A z19/\A z46/\True/\A z23/\True/\∃ (g':Nat),let z36:=(↑g':Int); A (z9.pre g')/\True/\((z40/\A z26/\A z26/\A z26/\A z26/\(A z7/\A (a0+z8+(1:Int)=a0+z36))/\True)/\z0/\z13/\z34/\z34/\(A (ns=ns)/\∀ i:Nat,i<ns->((((((((True/\A z5/\A ((bif decide (i=z11.toNat/\z10<=z10/\z10<z10+z24) then z4.res (z10-z10) else z3.at z8 i z10)=z3.at z36 i z10))/\A z5/\A ((bif decide (i=z11.toNat/\z10<=z25/\z25<z10+z24) then z4.res (z25-z10) else z3.at z8 i z25)=z3.at z36 i z25))/\A z5/\A ((bif decide (i=z11.toNat/\z10<=z27/\z27<z10+z24) then z4.res (z27-z10) else z3.at z8 i z27)=z3.at z36 i z27))/\A z5/\A ((bif decide (i=z11.toNat/\z10<=z28/\z28<z10+z24) then z4.res (z28-z10) else z3.at z8 i z28)=z3.at z36 i z28))/\A z5/\A ((bif decide (i=z11.toNat/\z10<=z29/\z29<z10+z24) then z4.res (z29-z10) else z3.at z8 i z29)=z3.at z36 i z29))/\A z5/\A ((bif decide (i=z11.toNat/\z10<=z30/\z30<z10+z24) then z4.res (z30-z10) else z3.at z8 i z30)=z3.at z36 i z30))/\A z5/\A ((bif decide (i=z11.toNat/\z10<=z31/\z31<z10+z24) then z4.res (z31-z10) else z3.at z8 i z31)=z3.at z36 i z31))/\A z5/\A ((bif decide (i=z11.toNat/\z10<=z32/\z32<z10+z24) then z4.res (z32-z10) else z3.at z8 i z32)=z3.at z36 i z32))/\A z5/\A ((bif decide (i=z11.toNat/\z10<=z33/\z33<z10+z24) then z4.res (z33-z10) else z3.at z8 i z33)=z3.at z36 i z33))/\True)/\A (z9.meas g'<z9.meas g))))) (True/\True/\z34/\z0/\z13/\z34/\z34/\(A (ns=ns)/\∀ i:Nat,i<ns->((((((((True/\A z5/\A (z3.at z8 i z10=z3.fin i z10))/\A z5/\A (z3.at z8 i z25=z3.fin i z25))/\A z5/\A (z3.at z8 i z27=z3.fin i z27))/\A z5/\A (z3.at z8 i z28=z3.fin i z28))/\A z5/\A (z3.at z8 i z29=z3.fin i z29))/\A z5/\A (z3.at z8 i z30=z3.fin i z30))/\A z5/\A (z3.at z8 i z31=z3.fin i z31))/\A z5/\A (z3.at z8 i z32=z3.fin i z32))/\A z5/\A (z3.at z8 i z33=z3.fin i z33))/\True)) (by kernel_rfl) ?_
  simp only [ask_iff,br_iff,eq_self,true_and,and_true,implies_true,forall_const,decide_eq_true_eq,decide_eq_false_iff_not,ne_eq,Nat.mul_one,Nat.add_zero,Nat.zero_add]
  refine ⟨⟨0,Nat.zero_le _,(Int.add_zero _).symm,fun i _=>all9 fun j=>(congrFun (g_at0 ⟨t,x,s,ns,st,st,a0,a1⟩ i) j).symm⟩,fun k hk=>⟨fun hlt=>?_,fun hge=>?_⟩⟩
  ·obtain ⟨b1,b2⟩:=pc_in hg hk hlt
   have hxy:=pc_xy hg (k:=k) hlt
   have hu:isU9 (st (a0+k-s.x0).toNat):=hg.bs _ b1
   have hal:0<=x.alpha/\x.alpha<=255:=hg.fill.alpha
   have hq:0<=Src.al x.src (a0+k) s.y/\Src.al x.src (a0+k) s.y<=255:=(src_u8 hg.fill.src hxy).2
   have st9:∀ i j,i<ns->(bif decide (i=(a0+k-s.x0).toNat/\0<=j/\j<9) then fillC x (a0+k) s.y (st (a0+k-s.x0).toNat) (j-0) else PcG.at ⟨t,x,s,ns,st,st,a0,a1⟩ k i j)=bif decide (j<9) then PcG.at ⟨t,x,s,ns,st,st,a0,a1⟩ ((k+1:Nat):Int) i j else PcG.at ⟨t,x,s,ns,st,st,a0,a1⟩ k i j:=fun i j hi=>pc_step hg hlt i j
   have mm:k+1<=(a1-a0).toNat/\(a1-a0).toNat-(k+1)<(a1-a0).toNat-k:=by omega
   have he:(fun j=>PcG.at ⟨t,x,s,ns,st,st,a0,a1⟩ k (a0+k-s.x0).toNat j)=st (a0+k-s.x0).toNat:=(pc_here (g:=⟨t,x,s,ns,st,st,a0,a1⟩) hg k)
   have hb:=pc_b hg hk hlt
   simp only [zf8,he]
   refine ⟨k0,⟨hq,hal⟩,fun h0=>?_,fun h0=>?_⟩
   ·have hP:PaintG.ok ⟨st (a0+k-s.x0).toNat,inkF z8,mul255 (Src.al x.src (a0+k) s.y) x.alpha,modeF x.blend.toNat,x.over⟩:=by
     have:=paintG_ok hg.fill hxy hu
     rwa [if_pos (show It.q x (a0+k) s.y=0 from h0)] at this
    have hr:PaintG.res ⟨st (a0+k-s.x0).toNat,inkF z8,mul255 (Src.al x.src (a0+k) s.y) x.alpha,modeF x.blend.toNat,x.over⟩=fillC x (a0+k) s.y (st (a0+k-s.x0).toNat):=by
     unfold fillC
     rw [if_pos (show It.q x (a0+k) s.y=0 from h0)]
     rfl
    simp only [hr]
    exact ⟨hb.1,hb.1,hb.2.1,b1,hP,hb.2.1,b1,hb.2.2,k+1,mm.1,⟨by omega,fun i hi=>⟨⟨⟨⟨⟨⟨⟨⟨st9 i 0 hi,st9 i 1 hi⟩,st9 i 2 hi⟩,st9 i 3 hi⟩,st9 i 4 hi⟩,st9 i 5 hi⟩,st9 i 6 hi⟩,st9 i 7 hi⟩,st9 i 8 hi⟩⟩,mm.2⟩
   ·have hP:PaintG.ok ⟨st (a0+k-s.x0).toNat,inkF (Src.at x.src (a0+k) s.y),mul255 (Src.al x.src (a0+k) s.y) x.alpha,modeF x.blend.toNat,x.over⟩:=by
     have:=paintG_ok hg.fill hxy hu
     rwa [if_neg (show ¬ It.q x (a0+k) s.y=0 from h0)] at this
    have hr:PaintG.res ⟨st (a0+k-s.x0).toNat,inkF (Src.at x.src (a0+k) s.y),mul255 (Src.al x.src (a0+k) s.y) x.alpha,modeF x.blend.toNat,x.over⟩=fillC x (a0+k) s.y (st (a0+k-s.x0).toNat):=by
     unfold fillC
     rw [if_neg (show ¬ It.q x (a0+k) s.y=0 from h0)]
     rfl
    have eF:(fun j=>Sx.intOf (lst (inkL (Src.at x.src (a0+k) s.y)) j))=inkF (Src.at x.src (a0+k) s.y):=rfl
    simp only [eF,hr]
    exact ⟨hb.1,hb.1,hb.2.1,b1,hP,hb.2.1,b1,hb.2.2,k+1,mm.1,⟨by omega,fun i hi=>⟨⟨⟨⟨⟨⟨⟨⟨st9 i 0 hi,st9 i 1 hi⟩,st9 i 2 hi⟩,st9 i 3 hi⟩,st9 i 4 hi⟩,st9 i 5 hi⟩,st9 i 6 hi⟩,st9 i 7 hi⟩,st9 i 8 hi⟩⟩,mm.2⟩
  ·exact fun i _=>all9 fun j=>congrFun (pc_end (g:=⟨t,x,s,ns,st,st,a0,a1⟩) hk hge i) j
 by_cases k3:x.src.kind=3
 ·have e:srcX x.src = .fn 54 1 (lst [.ref 1 (lst [atS x.src.img])]):=by rw [srcX_eq]; unfold srcF srcN srcW srcG; rw [if_neg k0,if_pos k3,if_pos k3,if_pos k3]
  simp only [e]
  refine vc_of (B:=let T11:=fun p:Prop=>True/\True/\True/\True/\True/\True/\True/\True/\True/\True/\True/\p;let A:=Sx.Ask;let z55:=(53:Go.FuncId);let z54:=(72:Go.FuncId);let z53:=(58:Go.FuncId);let z49:=(x.src.img.sn=x.src.img.sn);let z48:=(Blend.modeF x.blend.toNat=Blend.modeF x.blend.toNat);let z45:=(x.src.img.rep=x.src.img.rep);let z44:=(x.src.img.m.f=x.src.img.m.f);let z43:=(x.src.img.m.e=x.src.img.m.e);let z42:=(x.src.img.m.d=x.src.img.m.d);let z41:=(x.src.img.m.c=x.src.img.m.c);let z40:=(x.src.img.m.b=x.src.img.m.b);let z39:=(x.src.img.m.a=x.src.img.m.a);let z36:=(x.src.img.smooth=x.src.img.smooth);let z34:=(True/\True);let z33:=(8:Nat);let z32:=(7:Nat);let z31:=(6:Nat);let z30:=(5:Nat);let z29:=(4:Nat);let z28:=(3:Nat);let z27:=(2:Nat);let z25:=(9:Nat);let z24:=(1:Nat);let z21:=(0:Int);let z50:=(z21=z21);let z17:=(A (z53=z53)/\True/\True/\A (z54=z54)/\True/\True/\A z48/\True);let z14:=(Afi.invM x.src.img.m);let z12:=(0:Nat);let z52:=(Lsc.imgOf (Sx.lst [Lsg.atS x.src.img] z12));let z26:=(z12=z12);let z6:=(IntKind.i64=IntKind.i64);let q6:=fun p:Int=>A z6/\A (p=p);let z47:=(q6 a1);let z15:=(((True/\q6 s.y)/\q6 s.x0)/\q6 s.x1);let z4:=(IntKind.u8=IntKind.u8);let q4:=fun p:Int=>A z4/\A (p=p);let z11:=(((True/\q6 x.src.img.w)/\q6 x.src.img.h)/\A (x.src.img.n=x.src.img.n)/\∀ i:Nat,let z18:=(x.src.img.px i); i<x.src.img.n->(((((((True/\q4 z18.c0)/\q4 z18.c1)/\q4 z18.c2)/\q4 z18.c3)/\q4 z18.c4)/\q4 z18.c5)/\q4 z18.c6)/\q4 z18.c7);let z3:=(PcG.mk t x s ns st st a0 a1);let z10:=(pcI z3 (Sx.SV.fn (54:Go.FuncId) z24 (Sx.lst [Sx.SV.ref z24 (Sx.lst [Lsg.atS x.src.img])])));let z0:=(True/\((((((((((((((((((((((((((((((((((((True/\q6 x.kind)/\A (x.nr=x.nr)/\∀ i:Nat,i<x.nr->((True/\q6 ((x.runs i).y))/\q6 ((x.runs i).x0))/\q6 ((x.runs i).x1))/\q6 x.src.kind)/\q4 x.src.ink.c0)/\q4 x.src.ink.c1)/\q4 x.src.ink.c2)/\q4 x.src.ink.c3)/\q4 x.src.ink.c4)/\q4 x.src.ink.c5)/\q4 x.src.ink.c6)/\q4 x.src.ink.c7)/\q6 x.src.fx)/\q6 x.src.fy)/\q6 x.src.tx)/\q6 x.src.ty)/\q6 x.src.rad)/\A (x.src.ns=x.src.ns)/\∀ i:Nat,let z22:=(x.src.st i); i<x.src.ns->((((((((True/\q6 z22.pos)/\q4 z22.ink.c0)/\q4 z22.ink.c1)/\q4 z22.ink.c2)/\q4 z22.ink.c3)/\q4 z22.ink.c4)/\q4 z22.ink.c5)/\q4 z22.ink.c6)/\q4 z22.ink.c7)/\q6 x.src.img.w)/\q6 x.src.img.h)/\A (x.src.img.n=x.src.img.n)/\∀ i:Nat,let z19:=(x.src.img.px i); i<x.src.img.n->(((((((True/\q4 z19.c0)/\q4 z19.c1)/\q4 z19.c2)/\q4 z19.c3)/\q4 z19.c4)/\q4 z19.c5)/\q4 z19.c6)/\q4 z19.c7)/\A z49/\∀ i:Nat,i<x.src.img.sn->True/\q4 (x.src.img.sf i))/\A z6/\A z39)/\A z6/\A z40)/\A z6/\A z41)/\A z6/\A z42)/\A z6/\A z43)/\A z6/\A z44)/\A z36)/\A z45)/\q4 x.alpha)/\q6 x.blend)/\A (x.over=x.over))/\A (x.iso=x.iso))/\A (x.knock=x.knock))/\q6 ((↑t:Int)))/\A ((54:Go.FuncId)=(54:Go.FuncId))/\True/\True/\A (z55=z55)/\True/\((((((((((((((z11/\A z49/\∀ i:Nat,i<x.src.img.sn->True/\q4 (x.src.img.sf i))/\A z6/\A z39)/\A z6/\A z40)/\A z6/\A z41)/\A z6/\A z42)/\A z6/\A z43)/\A z6/\A z44)/\A z36)/\A z45)/\q6 z14.a)/\q6 z14.b)/\q6 z14.c)/\q6 z14.d)/\q6 z14.e)/\q6 z14.f)/\A (z53=z53)/\True/\True/\A (z54=z54)/\True/\True/\A z48/\True);True/\True/\(∃ g:Nat,let z46:=(↑g:Int); A (z10.pre g)/\True/\(z47/\A z26/\A z26/\A z26/\A z26/\(A z6/\A (a0=a0+z46))/\True)/\z0/\z15/\z34/\z34/\(A (ns=ns)/\∀ i:Nat,i<ns->((((((((True/\A z4/\A (st i z12=z3.at z46 i z12))/\A z4/\A (st i z24=z3.at z46 i z24))/\A z4/\A (st i z27=z3.at z46 i z27))/\A z4/\A (st i z28=z3.at z46 i z28))/\A z4/\A (st i z29=z3.at z46 i z29))/\A z4/\A (st i z30=z3.at z46 i z30))/\A z4/\A (st i z31=z3.at z46 i z31))/\A z4/\A (st i z32=z3.at z46 i z32))/\A z4/\A (st i z33=z3.at z46 i z33))/\True)/\∀ g:Nat,let z13:=(↑g:Int);let z23:=((-9223372036854775808:Int)<=a0+z13+(1:Int)/\a0+z13+(1:Int)<=(9223372036854775807:Int));let z20:=(z21<=a0+z13-s.x0/\a0+z13-s.x0<(↑ns:Int));let z16:=((-9223372036854775808:Int)<=a0+z13-s.x0/\a0+z13-s.x0<=(9223372036854775807:Int));let z8:=(a0+z13-s.x0);let z56:=(z8.toNat<ns);let z51:=(fun (j:Nat)=>z3.at z13 z8.toNat (z12+j));let z7:=(((((((((True/\q4 (z3.at z13 z8.toNat (z12+z12)))/\q4 (z3.at z13 z8.toNat (z12+z24)))/\q4 (z3.at z13 z8.toNat (z12+z27)))/\q4 (z3.at z13 z8.toNat (z12+z28)))/\q4 (z3.at z13 z8.toNat (z12+z29)))/\q4 (z3.at z13 z8.toNat (z12+z30)))/\q4 (z3.at z13 z8.toNat (z12+z31)))/\q4 (z3.at z13 z8.toNat (z12+z32)))/\q4 (z3.at z13 z8.toNat (z12+z33)));let z1:=(Lsc.SiG.mk z52 (a0+z13) s.y);let z35:=(q4 (mul255 z1.q.soft x.alpha));let z9:=(if z1.q.soft=z21 then Lsc.z8 else z1.q.ink);let z5:=(Cmp.PaintG.mk z51 (fun (j:Nat)=>Sx.intOf (Sx.lst (Img.inkL z9) (z12+j))) (mul255 z1.q.soft x.alpha) (Blend.modeF x.blend.toNat) x.over);let z2:=(Cmp.PaintG.mk z51 (fun (j:Nat)=>Sx.intOf (Sx.zeroF [Go.Value.int IntKind.u8 z21,Go.Value.int IntKind.u8 z21,Go.Value.int IntKind.u8 z21,Go.Value.int IntKind.u8 z21,Go.Value.int IntKind.u8 z21,Go.Value.int IntKind.u8 z21,Go.Value.int IntKind.u8 z21,Go.Value.int IntKind.u8 z21] (z12+j))) (mul255 z1.q.soft x.alpha) (Blend.modeF x.blend.toNat) x.over); z10.pre g->True/\True/\True/\Sx.Br (decide (a0+z13<a1)) (True/\True/\True/\True/\True/\True/\True/\(((q6 (a0+z13))/\(q6 s.y)/\(True/\A (z55=z55)/\True/\((((((((((((((z11/\A z49/\∀ i:Nat,i<x.src.img.sn->True/\A z4/\A (x.src.img.sf i=z52.sf i))/\A z6/\A z39)/\A z6/\A z40)/\A z6/\A z41)/\A z6/\A z42)/\A z6/\A z43)/\A z6/\A z44)/\A z36)/\A z45)/\q6 z14.a)/\q6 z14.b)/\q6 z14.c)/\q6 z14.d)/\q6 z14.e)/\q6 z14.f)/\True)/\A z1.q.ok)/\T11 (True/\(((q4 z1.q.soft)/\(q4 x.alpha)/\True)/\A ((z21<=z1.q.soft/\z1.q.soft<=(255:Int))/\z21<=x.alpha/\x.alpha<=(255:Int)))/\True/\True/\True/\Sx.Br (decide (mul255 z1.q.soft x.alpha=z21)) (True/\True/\True/\True/\True/\True/\A z16/\True/\True/\True/\True/\A z16/\A z20/\A z56/\T11 (((z7/\((((((((True/\A z4/\A z50)/\A z4/\A z50)/\A z4/\A z50)/\A z4/\A z50)/\A z4/\A z50)/\A z4/\A z50)/\A z4/\A z50)/\A z4/\A z50)/\z35/\z17/\A (x.over=x.over)/\True)/\A z2.ok)/\A z20/\A z56/\True/\A z23/\True/\∃ (g':Nat),let z37:=(↑g':Int); A (z10.pre g')/\True/\((z47/\A z26/\A z26/\A z26/\A z26/\(A z6/\A (a0+z13+(1:Int)=a0+z37))/\True)/\z0/\z15/\z34/\z34/\(A (ns=ns)/\∀ i:Nat,i<ns->((((((((True/\A z4/\A ((bif decide (i=z8.toNat/\z12<=z12/\z12<z12+z25) then z2.res (z12-z12) else z3.at z13 i z12)=z3.at z37 i z12))/\A z4/\A ((bif decide (i=z8.toNat/\z12<=z24/\z24<z12+z25) then z2.res (z24-z12) else z3.at z13 i z24)=z3.at z37 i z24))/\A z4/\A ((bif decide (i=z8.toNat/\z12<=z27/\z27<z12+z25) then z2.res (z27-z12) else z3.at z13 i z27)=z3.at z37 i z27))/\A z4/\A ((bif decide (i=z8.toNat/\z12<=z28/\z28<z12+z25) then z2.res (z28-z12) else z3.at z13 i z28)=z3.at z37 i z28))/\A z4/\A ((bif decide (i=z8.toNat/\z12<=z29/\z29<z12+z25) then z2.res (z29-z12) else z3.at z13 i z29)=z3.at z37 i z29))/\A z4/\A ((bif decide (i=z8.toNat/\z12<=z30/\z30<z12+z25) then z2.res (z30-z12) else z3.at z13 i z30)=z3.at z37 i z30))/\A z4/\A ((bif decide (i=z8.toNat/\z12<=z31/\z31<z12+z25) then z2.res (z31-z12) else z3.at z13 i z31)=z3.at z37 i z31))/\A z4/\A ((bif decide (i=z8.toNat/\z12<=z32/\z32<z12+z25) then z2.res (z32-z12) else z3.at z13 i z32)=z3.at z37 i z32))/\A z4/\A ((bif decide (i=z8.toNat/\z12<=z33/\z33<z12+z25) then z2.res (z33-z12) else z3.at z13 i z33)=z3.at z37 i z33))/\True)/\A (z10.meas g'<z10.meas g))) (True/\True/\True/\True/\A z16/\True/\True/\True/\True/\A z16/\A z20/\A z56/\T11 (((z7/\((((((((True/\q4 z9.c0)/\q4 z9.c1)/\q4 z9.c2)/\q4 z9.c3)/\q4 z9.c4)/\q4 z9.c5)/\q4 z9.c6)/\q4 z9.c7)/\z35/\z17/\A (x.over=x.over)/\True)/\A z5.ok)/\A z20/\A z56/\True/\A z23/\True/\∃ (g':Nat),let z38:=(↑g':Int); A (z10.pre g')/\True/\((z47/\A z26/\A z26/\A z26/\A z26/\(A z6/\A (a0+z13+(1:Int)=a0+z38))/\True)/\z0/\z15/\z34/\z34/\(A (ns=ns)/\∀ i:Nat,i<ns->((((((((True/\A z4/\A ((bif decide (i=z8.toNat/\z12<=z12/\z12<z12+z25) then z5.res (z12-z12) else z3.at z13 i z12)=z3.at z38 i z12))/\A z4/\A ((bif decide (i=z8.toNat/\z12<=z24/\z24<z12+z25) then z5.res (z24-z12) else z3.at z13 i z24)=z3.at z38 i z24))/\A z4/\A ((bif decide (i=z8.toNat/\z12<=z27/\z27<z12+z25) then z5.res (z27-z12) else z3.at z13 i z27)=z3.at z38 i z27))/\A z4/\A ((bif decide (i=z8.toNat/\z12<=z28/\z28<z12+z25) then z5.res (z28-z12) else z3.at z13 i z28)=z3.at z38 i z28))/\A z4/\A ((bif decide (i=z8.toNat/\z12<=z29/\z29<z12+z25) then z5.res (z29-z12) else z3.at z13 i z29)=z3.at z38 i z29))/\A z4/\A ((bif decide (i=z8.toNat/\z12<=z30/\z30<z12+z25) then z5.res (z30-z12) else z3.at z13 i z30)=z3.at z38 i z30))/\A z4/\A ((bif decide (i=z8.toNat/\z12<=z31/\z31<z12+z25) then z5.res (z31-z12) else z3.at z13 i z31)=z3.at z38 i z31))/\A z4/\A ((bif decide (i=z8.toNat/\z12<=z32/\z32<z12+z25) then z5.res (z32-z12) else z3.at z13 i z32)=z3.at z38 i z32))/\A z4/\A ((bif decide (i=z8.toNat/\z12<=z33/\z33<z12+z25) then z5.res (z33-z12) else z3.at z13 i z33)=z3.at z38 i z33))/\True)/\A (z10.meas g'<z10.meas g))))) (True/\True/\z34/\z0/\z15/\z34/\z34/\(A (ns=ns)/\∀ i:Nat,i<ns->((((((((True/\A z4/\A (z3.at z13 i z12=z3.fin i z12))/\A z4/\A (z3.at z13 i z24=z3.fin i z24))/\A z4/\A (z3.at z13 i z27=z3.fin i z27))/\A z4/\A (z3.at z13 i z28=z3.fin i z28))/\A z4/\A (z3.at z13 i z29=z3.fin i z29))/\A z4/\A (z3.at z13 i z30=z3.fin i z30))/\A z4/\A (z3.at z13 i z31=z3.fin i z31))/\A z4/\A (z3.at z13 i z32=z3.fin i z32))/\A z4/\A (z3.at z13 i z33=z3.fin i z33))/\True)) (by kernel_rfl) ?_
  simp only [ask_iff,br_iff,eq_self,true_and,and_true,implies_true,forall_const,decide_eq_true_eq,decide_eq_false_iff_not,ne_eq,Nat.mul_one,Nat.add_zero,Nat.zero_add]
  have eI:imgOf (lst [atS x.src.img] 0)=x.src.img:=rfl
  have e1:∀ X:Int,(SiG.mk x.src.img X s.y).q.soft=Src.al x.src X s.y:=fun X=>by unfold Src.al; rw [if_pos k3]; rfl
  have e2:∀ X:Int,(if Src.al x.src X s.y=0 then z8 else (SiG.mk x.src.img X s.y).q.ink)=Src.at x.src X s.y:=fun X=>by unfold Src.at; rw [if_neg k0,if_pos k3]; unfold Src.iI; rw [<-e1 X]; rfl
  simp only [eI,e1,e2]
  refine ⟨⟨0,Nat.zero_le _,(Int.add_zero _).symm,fun i _=>all9 fun j=>(congrFun (g_at0 ⟨t,x,s,ns,st,st,a0,a1⟩ i) j).symm⟩,fun k hk=>⟨fun hlt=>?_,fun hge=>?_⟩⟩
  ·obtain ⟨b1,b2⟩:=pc_in hg hk hlt
   have hxy:=pc_xy hg (k:=k) hlt
   have hu:isU9 (st (a0+k-s.x0).toNat):=hg.bs _ b1
   have hal:0<=x.alpha/\x.alpha<=255:=hg.fill.alpha
   have hq:0<=Src.al x.src (a0+k) s.y/\Src.al x.src (a0+k) s.y<=255:=(src_u8 hg.fill.src hxy).2
   have st9:∀ i j,i<ns->(bif decide (i=(a0+k-s.x0).toNat/\0<=j/\j<9) then fillC x (a0+k) s.y (st (a0+k-s.x0).toNat) (j-0) else PcG.at ⟨t,x,s,ns,st,st,a0,a1⟩ k i j)=bif decide (j<9) then PcG.at ⟨t,x,s,ns,st,st,a0,a1⟩ ((k+1:Nat):Int) i j else PcG.at ⟨t,x,s,ns,st,st,a0,a1⟩ k i j:=fun i j hi=>pc_step hg hlt i j
   have mm:k+1<=(a1-a0).toNat/\(a1-a0).toNat-(k+1)<(a1-a0).toNat-k:=by omega
   have he:(fun j=>PcG.at ⟨t,x,s,ns,st,st,a0,a1⟩ k (a0+k-s.x0).toNat j)=st (a0+k-s.x0).toNat:=(pc_here (g:=⟨t,x,s,ns,st,st,a0,a1⟩) hg k)
   have hb:=pc_b hg hk hlt
   simp only [zf8,he]
   refine ⟨⟨fun _ _=>by trivial,at_ok hg.fill.src k3 hxy⟩,⟨hq,hal⟩,fun h0=>?_,fun h0=>?_⟩
   ·have hP:PaintG.ok ⟨st (a0+k-s.x0).toNat,inkF z8,mul255 (Src.al x.src (a0+k) s.y) x.alpha,modeF x.blend.toNat,x.over⟩:=by
     have:=paintG_ok hg.fill hxy hu
     rwa [if_pos (show It.q x (a0+k) s.y=0 from h0)] at this
    have hr:PaintG.res ⟨st (a0+k-s.x0).toNat,inkF z8,mul255 (Src.al x.src (a0+k) s.y) x.alpha,modeF x.blend.toNat,x.over⟩=fillC x (a0+k) s.y (st (a0+k-s.x0).toNat):=by
     unfold fillC
     rw [if_pos (show It.q x (a0+k) s.y=0 from h0)]
     rfl
    simp only [hr]
    exact ⟨hb.1,hb.1,hb.2.1,b1,hP,hb.2.1,b1,hb.2.2,k+1,mm.1,⟨by omega,fun i hi=>⟨⟨⟨⟨⟨⟨⟨⟨st9 i 0 hi,st9 i 1 hi⟩,st9 i 2 hi⟩,st9 i 3 hi⟩,st9 i 4 hi⟩,st9 i 5 hi⟩,st9 i 6 hi⟩,st9 i 7 hi⟩,st9 i 8 hi⟩⟩,mm.2⟩
   ·have hP:PaintG.ok ⟨st (a0+k-s.x0).toNat,inkF (Src.at x.src (a0+k) s.y),mul255 (Src.al x.src (a0+k) s.y) x.alpha,modeF x.blend.toNat,x.over⟩:=by
     have:=paintG_ok hg.fill hxy hu
     rwa [if_neg (show ¬ It.q x (a0+k) s.y=0 from h0)] at this
    have hr:PaintG.res ⟨st (a0+k-s.x0).toNat,inkF (Src.at x.src (a0+k) s.y),mul255 (Src.al x.src (a0+k) s.y) x.alpha,modeF x.blend.toNat,x.over⟩=fillC x (a0+k) s.y (st (a0+k-s.x0).toNat):=by
     unfold fillC
     rw [if_neg (show ¬ It.q x (a0+k) s.y=0 from h0)]
     rfl
    have eF:(fun j=>Sx.intOf (lst (inkL (Src.at x.src (a0+k) s.y)) j))=inkF (Src.at x.src (a0+k) s.y):=rfl
    simp only [eF,hr]
    exact ⟨hb.1,hb.1,hb.2.1,b1,hP,hb.2.1,b1,hb.2.2,k+1,mm.1,⟨by omega,fun i hi=>⟨⟨⟨⟨⟨⟨⟨⟨st9 i 0 hi,st9 i 1 hi⟩,st9 i 2 hi⟩,st9 i 3 hi⟩,st9 i 4 hi⟩,st9 i 5 hi⟩,st9 i 6 hi⟩,st9 i 7 hi⟩,st9 i 8 hi⟩⟩,mm.2⟩
  ·exact fun i _=>all9 fun j=>congrFun (pc_end (g:=⟨t,x,s,ns,st,st,a0,a1⟩) hk hge i) j
 ·have e:srcX x.src = .fn 55 1 (lst [.ref 27 (lst (srcL x.src))]):=by rw [srcX_eq]; unfold srcF srcN srcW srcG; rw [if_neg k0,if_neg k3,if_neg k3,if_neg k3]
  simp only [e]
  refine vc_of (B:=let T11:=fun p:Prop=>True/\True/\True/\True/\True/\True/\True/\True/\True/\True/\True/\p;let A:=Sx.Ask;let z47:=(x.src.img.smooth=x.src.img.smooth);let z45:=(72:Go.FuncId);let z44:=(58:Go.FuncId);let z41:=(Blend.modeF x.blend.toNat=Blend.modeF x.blend.toNat);let z38:=(x.src.img.rep=x.src.img.rep);let z34:=(True/\True);let z33:=(8:Nat);let z32:=(7:Nat);let z31:=(6:Nat);let z30:=(5:Nat);let z29:=(4:Nat);let z28:=(3:Nat);let z27:=(2:Nat);let z25:=(1:Nat);let z24:=(9:Nat);let z20:=(0:Int);let z42:=(z20=z20);let z15:=(A (z44=z44)/\True/\True/\A (z45=z45)/\True/\True/\A z41/\True);let z10:=(0:Nat);let z26:=(z10=z10);let z7:=(IntKind.i64=IntKind.i64);let q7:=fun p:Int=>A z7/\A (p=p);let z40:=(q7 a1);let z13:=(((True/\q7 s.y)/\q7 s.x0)/\q7 s.x1);let z5:=(IntKind.u8=IntKind.u8);let q5:=fun p:Int=>A z5/\A (p=p);let z3:=(PcG.mk t x s ns st st a0 a1);let z9:=(pcI z3 (Sx.SV.fn (55:Go.FuncId) z25 (Sx.lst [Sx.SV.ref (27:Nat) (Sx.lst (Lsg.srcL x.src))])));let z2:=((((((((((((((((((((((((((True/\q7 x.src.kind)/\q5 x.src.ink.c0)/\q5 x.src.ink.c1)/\q5 x.src.ink.c2)/\q5 x.src.ink.c3)/\q5 x.src.ink.c4)/\q5 x.src.ink.c5)/\q5 x.src.ink.c6)/\q5 x.src.ink.c7)/\q7 x.src.fx)/\q7 x.src.fy)/\q7 x.src.tx)/\q7 x.src.ty)/\q7 x.src.rad)/\A (x.src.ns=x.src.ns)/\∀ i:Nat,let z21:=(x.src.st i); i<x.src.ns->((((((((True/\q7 z21.pos)/\q5 z21.ink.c0)/\q5 z21.ink.c1)/\q5 z21.ink.c2)/\q5 z21.ink.c3)/\q5 z21.ink.c4)/\q5 z21.ink.c5)/\q5 z21.ink.c6)/\q5 z21.ink.c7)/\q7 x.src.img.w)/\q7 x.src.img.h)/\A (x.src.img.n=x.src.img.n)/\∀ i:Nat,let z16:=(x.src.img.px i); i<x.src.img.n->(((((((True/\q5 z16.c0)/\q5 z16.c1)/\q5 z16.c2)/\q5 z16.c3)/\q5 z16.c4)/\q5 z16.c5)/\q5 z16.c6)/\q5 z16.c7)/\A (x.src.img.sn=x.src.img.sn)/\∀ i:Nat,i<x.src.img.sn->True/\q5 (x.src.img.sf i))/\q7 x.src.img.m.a)/\q7 x.src.img.m.b)/\q7 x.src.img.m.c)/\q7 x.src.img.m.d)/\q7 x.src.img.m.e)/\q7 x.src.img.m.f)/\A z47);let z0:=(True/\((((((((((((((((((((((((((((((((((((True/\q7 x.kind)/\A (x.nr=x.nr)/\∀ i:Nat,i<x.nr->((True/\q7 ((x.runs i).y))/\q7 ((x.runs i).x0))/\q7 ((x.runs i).x1))/\q7 x.src.kind)/\q5 x.src.ink.c0)/\q5 x.src.ink.c1)/\q5 x.src.ink.c2)/\q5 x.src.ink.c3)/\q5 x.src.ink.c4)/\q5 x.src.ink.c5)/\q5 x.src.ink.c6)/\q5 x.src.ink.c7)/\q7 x.src.fx)/\q7 x.src.fy)/\q7 x.src.tx)/\q7 x.src.ty)/\q7 x.src.rad)/\A (x.src.ns=x.src.ns)/\∀ i:Nat,let z22:=(x.src.st i); i<x.src.ns->((((((((True/\q7 z22.pos)/\q5 z22.ink.c0)/\q5 z22.ink.c1)/\q5 z22.ink.c2)/\q5 z22.ink.c3)/\q5 z22.ink.c4)/\q5 z22.ink.c5)/\q5 z22.ink.c6)/\q5 z22.ink.c7)/\q7 x.src.img.w)/\q7 x.src.img.h)/\A (x.src.img.n=x.src.img.n)/\∀ i:Nat,let z17:=(x.src.img.px i); i<x.src.img.n->(((((((True/\q5 z17.c0)/\q5 z17.c1)/\q5 z17.c2)/\q5 z17.c3)/\q5 z17.c4)/\q5 z17.c5)/\q5 z17.c6)/\q5 z17.c7)/\A (x.src.img.sn=x.src.img.sn)/\∀ i:Nat,i<x.src.img.sn->True/\q5 (x.src.img.sf i))/\q7 x.src.img.m.a)/\q7 x.src.img.m.b)/\q7 x.src.img.m.c)/\q7 x.src.img.m.d)/\q7 x.src.img.m.e)/\q7 x.src.img.m.f)/\A z47)/\A z38)/\q5 x.alpha)/\q7 x.blend)/\A (x.over=x.over))/\A (x.iso=x.iso))/\A (x.knock=x.knock))/\q7 ((↑t:Int)))/\A ((55:Go.FuncId)=(55:Go.FuncId))/\True/\z2/\A z38)/\A (z44=z44)/\True/\True/\A (z45=z45)/\True/\True/\A z41/\True);True/\True/\(∃ g:Nat,let z39:=(↑g:Int); A (z9.pre g)/\True/\(z40/\A z26/\A z26/\A z26/\A z26/\(A z7/\A (a0=a0+z39))/\True)/\z0/\z13/\z34/\z34/\(A (ns=ns)/\∀ i:Nat,i<ns->((((((((True/\A z5/\A (st i z10=z3.at z39 i z10))/\A z5/\A (st i z25=z3.at z39 i z25))/\A z5/\A (st i z27=z3.at z39 i z27))/\A z5/\A (st i z28=z3.at z39 i z28))/\A z5/\A (st i z29=z3.at z39 i z29))/\A z5/\A (st i z30=z3.at z39 i z30))/\A z5/\A (st i z31=z3.at z39 i z31))/\A z5/\A (st i z32=z3.at z39 i z32))/\A z5/\A (st i z33=z3.at z39 i z33))/\True)/\∀ g:Nat,let z8:=(↑g:Int);let z23:=((-9223372036854775808:Int)<=a0+z8+(1:Int)/\a0+z8+(1:Int)<=(9223372036854775807:Int));let z19:=(z20<=a0+z8-s.x0/\a0+z8-s.x0<(↑ns:Int));let z18:=(Lsc.Src.al x.src (a0+z8) s.y);let z37:=(q5 (mul255 z18 x.alpha));let z14:=((-9223372036854775808:Int)<=a0+z8-s.x0/\a0+z8-s.x0<=(9223372036854775807:Int));let z12:=(Lsc.Src.at x.src (a0+z8) s.y);let z11:=(a0+z8-s.x0);let z46:=(z11.toNat<ns);let z43:=(fun (j:Nat)=>z3.at z8 z11.toNat (z10+j));let z6:=(((((((((True/\q5 (z3.at z8 z11.toNat (z10+z10)))/\q5 (z3.at z8 z11.toNat (z10+z25)))/\q5 (z3.at z8 z11.toNat (z10+z27)))/\q5 (z3.at z8 z11.toNat (z10+z28)))/\q5 (z3.at z8 z11.toNat (z10+z29)))/\q5 (z3.at z8 z11.toNat (z10+z30)))/\q5 (z3.at z8 z11.toNat (z10+z31)))/\q5 (z3.at z8 z11.toNat (z10+z32)))/\q5 (z3.at z8 z11.toNat (z10+z33)));let z4:=(Cmp.PaintG.mk z43 (fun (j:Nat)=>Sx.intOf (Sx.lst (Img.inkL z12) (z10+j))) (mul255 z18 x.alpha) (Blend.modeF x.blend.toNat) x.over);let z1:=(Cmp.PaintG.mk z43 (fun (j:Nat)=>Sx.intOf (Sx.zeroF [Go.Value.int IntKind.u8 z20,Go.Value.int IntKind.u8 z20,Go.Value.int IntKind.u8 z20,Go.Value.int IntKind.u8 z20,Go.Value.int IntKind.u8 z20,Go.Value.int IntKind.u8 z20,Go.Value.int IntKind.u8 z20,Go.Value.int IntKind.u8 z20] (z10+j))) (mul255 z18 x.alpha) (Blend.modeF x.blend.toNat) x.over); z9.pre g->True/\True/\True/\Sx.Br (decide (a0+z8<a1)) (True/\True/\True/\True/\True/\True/\True/\(((q7 (a0+z8))/\(q7 s.y)/\(z2/\A z38)/\True)/\A ((x.src.kind≠z20/\x.src.kind≠(3:Int))/\Lsc.SrcOK x.src/\Lsc.xyOK (a0+z8) s.y))/\T11 (True/\(((q5 (Lsc.Src.al x.src (a0+z8) s.y))/\(q5 x.alpha)/\True)/\A ((z20<=Lsc.Src.al x.src (a0+z8) s.y/\Lsc.Src.al x.src (a0+z8) s.y<=(255:Int))/\z20<=x.alpha/\x.alpha<=(255:Int)))/\True/\True/\True/\Sx.Br (decide (mul255 z18 x.alpha=z20)) (True/\True/\True/\True/\True/\True/\A z14/\True/\True/\True/\True/\A z14/\A z19/\A z46/\T11 (((z6/\((((((((True/\A z5/\A z42)/\A z5/\A z42)/\A z5/\A z42)/\A z5/\A z42)/\A z5/\A z42)/\A z5/\A z42)/\A z5/\A z42)/\A z5/\A z42)/\z37/\z15/\A (x.over=x.over)/\True)/\A z1.ok)/\A z19/\A z46/\True/\A z23/\True/\∃ (g':Nat),let z35:=(↑g':Int); A (z9.pre g')/\True/\((z40/\A z26/\A z26/\A z26/\A z26/\(A z7/\A (a0+z8+(1:Int)=a0+z35))/\True)/\z0/\z13/\z34/\z34/\(A (ns=ns)/\∀ i:Nat,i<ns->((((((((True/\A z5/\A ((bif decide (i=z11.toNat/\z10<=z10/\z10<z10+z24) then z1.res (z10-z10) else z3.at z8 i z10)=z3.at z35 i z10))/\A z5/\A ((bif decide (i=z11.toNat/\z10<=z25/\z25<z10+z24) then z1.res (z25-z10) else z3.at z8 i z25)=z3.at z35 i z25))/\A z5/\A ((bif decide (i=z11.toNat/\z10<=z27/\z27<z10+z24) then z1.res (z27-z10) else z3.at z8 i z27)=z3.at z35 i z27))/\A z5/\A ((bif decide (i=z11.toNat/\z10<=z28/\z28<z10+z24) then z1.res (z28-z10) else z3.at z8 i z28)=z3.at z35 i z28))/\A z5/\A ((bif decide (i=z11.toNat/\z10<=z29/\z29<z10+z24) then z1.res (z29-z10) else z3.at z8 i z29)=z3.at z35 i z29))/\A z5/\A ((bif decide (i=z11.toNat/\z10<=z30/\z30<z10+z24) then z1.res (z30-z10) else z3.at z8 i z30)=z3.at z35 i z30))/\A z5/\A ((bif decide (i=z11.toNat/\z10<=z31/\z31<z10+z24) then z1.res (z31-z10) else z3.at z8 i z31)=z3.at z35 i z31))/\A z5/\A ((bif decide (i=z11.toNat/\z10<=z32/\z32<z10+z24) then z1.res (z32-z10) else z3.at z8 i z32)=z3.at z35 i z32))/\A z5/\A ((bif decide (i=z11.toNat/\z10<=z33/\z33<z10+z24) then z1.res (z33-z10) else z3.at z8 i z33)=z3.at z35 i z33))/\True)/\A (z9.meas g'<z9.meas g))) (True/\True/\True/\True/\A z14/\True/\True/\True/\True/\A z14/\A z19/\A z46/\T11 (((z6/\((((((((True/\q5 z12.c0)/\q5 z12.c1)/\q5 z12.c2)/\q5 z12.c3)/\q5 z12.c4)/\q5 z12.c5)/\q5 z12.c6)/\q5 z12.c7)/\z37/\z15/\A (x.over=x.over)/\True)/\A z4.ok)/\A z19/\A z46/\True/\A z23/\True/\∃ (g':Nat),let z36:=(↑g':Int); A (z9.pre g')/\True/\((z40/\A z26/\A z26/\A z26/\A z26/\(A z7/\A (a0+z8+(1:Int)=a0+z36))/\True)/\z0/\z13/\z34/\z34/\(A (ns=ns)/\∀ i:Nat,i<ns->((((((((True/\A z5/\A ((bif decide (i=z11.toNat/\z10<=z10/\z10<z10+z24) then z4.res (z10-z10) else z3.at z8 i z10)=z3.at z36 i z10))/\A z5/\A ((bif decide (i=z11.toNat/\z10<=z25/\z25<z10+z24) then z4.res (z25-z10) else z3.at z8 i z25)=z3.at z36 i z25))/\A z5/\A ((bif decide (i=z11.toNat/\z10<=z27/\z27<z10+z24) then z4.res (z27-z10) else z3.at z8 i z27)=z3.at z36 i z27))/\A z5/\A ((bif decide (i=z11.toNat/\z10<=z28/\z28<z10+z24) then z4.res (z28-z10) else z3.at z8 i z28)=z3.at z36 i z28))/\A z5/\A ((bif decide (i=z11.toNat/\z10<=z29/\z29<z10+z24) then z4.res (z29-z10) else z3.at z8 i z29)=z3.at z36 i z29))/\A z5/\A ((bif decide (i=z11.toNat/\z10<=z30/\z30<z10+z24) then z4.res (z30-z10) else z3.at z8 i z30)=z3.at z36 i z30))/\A z5/\A ((bif decide (i=z11.toNat/\z10<=z31/\z31<z10+z24) then z4.res (z31-z10) else z3.at z8 i z31)=z3.at z36 i z31))/\A z5/\A ((bif decide (i=z11.toNat/\z10<=z32/\z32<z10+z24) then z4.res (z32-z10) else z3.at z8 i z32)=z3.at z36 i z32))/\A z5/\A ((bif decide (i=z11.toNat/\z10<=z33/\z33<z10+z24) then z4.res (z33-z10) else z3.at z8 i z33)=z3.at z36 i z33))/\True)/\A (z9.meas g'<z9.meas g))))) (True/\True/\z34/\z0/\z13/\z34/\z34/\(A (ns=ns)/\∀ i:Nat,i<ns->((((((((True/\A z5/\A (z3.at z8 i z10=z3.fin i z10))/\A z5/\A (z3.at z8 i z25=z3.fin i z25))/\A z5/\A (z3.at z8 i z27=z3.fin i z27))/\A z5/\A (z3.at z8 i z28=z3.fin i z28))/\A z5/\A (z3.at z8 i z29=z3.fin i z29))/\A z5/\A (z3.at z8 i z30=z3.fin i z30))/\A z5/\A (z3.at z8 i z31=z3.fin i z31))/\A z5/\A (z3.at z8 i z32=z3.fin i z32))/\A z5/\A (z3.at z8 i z33=z3.fin i z33))/\True)) (by kernel_rfl) ?_
  simp only [ask_iff,br_iff,eq_self,true_and,and_true,implies_true,forall_const,decide_eq_true_eq,decide_eq_false_iff_not,ne_eq,Nat.mul_one,Nat.add_zero,Nat.zero_add]
  refine ⟨⟨0,Nat.zero_le _,(Int.add_zero _).symm,fun i _=>all9 fun j=>(congrFun (g_at0 ⟨t,x,s,ns,st,st,a0,a1⟩ i) j).symm⟩,fun k hk=>⟨fun hlt=>?_,fun hge=>?_⟩⟩
  ·obtain ⟨b1,b2⟩:=pc_in hg hk hlt
   have hxy:=pc_xy hg (k:=k) hlt
   have hu:isU9 (st (a0+k-s.x0).toNat):=hg.bs _ b1
   have hal:0<=x.alpha/\x.alpha<=255:=hg.fill.alpha
   have hq:0<=Src.al x.src (a0+k) s.y/\Src.al x.src (a0+k) s.y<=255:=(src_u8 hg.fill.src hxy).2
   have st9:∀ i j,i<ns->(bif decide (i=(a0+k-s.x0).toNat/\0<=j/\j<9) then fillC x (a0+k) s.y (st (a0+k-s.x0).toNat) (j-0) else PcG.at ⟨t,x,s,ns,st,st,a0,a1⟩ k i j)=bif decide (j<9) then PcG.at ⟨t,x,s,ns,st,st,a0,a1⟩ ((k+1:Nat):Int) i j else PcG.at ⟨t,x,s,ns,st,st,a0,a1⟩ k i j:=fun i j hi=>pc_step hg hlt i j
   have mm:k+1<=(a1-a0).toNat/\(a1-a0).toNat-(k+1)<(a1-a0).toNat-k:=by omega
   have he:(fun j=>PcG.at ⟨t,x,s,ns,st,st,a0,a1⟩ k (a0+k-s.x0).toNat j)=st (a0+k-s.x0).toNat:=(pc_here (g:=⟨t,x,s,ns,st,st,a0,a1⟩) hg k)
   have hb:=pc_b hg hk hlt
   simp only [zf8,he]
   refine ⟨⟨⟨k0,k3⟩,hg.fill.src,hxy⟩,⟨hq,hal⟩,fun h0=>?_,fun h0=>?_⟩
   ·have hP:PaintG.ok ⟨st (a0+k-s.x0).toNat,inkF z8,mul255 (Src.al x.src (a0+k) s.y) x.alpha,modeF x.blend.toNat,x.over⟩:=by
     have:=paintG_ok hg.fill hxy hu
     rwa [if_pos (show It.q x (a0+k) s.y=0 from h0)] at this
    have hr:PaintG.res ⟨st (a0+k-s.x0).toNat,inkF z8,mul255 (Src.al x.src (a0+k) s.y) x.alpha,modeF x.blend.toNat,x.over⟩=fillC x (a0+k) s.y (st (a0+k-s.x0).toNat):=by
     unfold fillC
     rw [if_pos (show It.q x (a0+k) s.y=0 from h0)]
     rfl
    simp only [hr]
    exact ⟨hb.1,hb.1,hb.2.1,b1,hP,hb.2.1,b1,hb.2.2,k+1,mm.1,⟨by omega,fun i hi=>⟨⟨⟨⟨⟨⟨⟨⟨st9 i 0 hi,st9 i 1 hi⟩,st9 i 2 hi⟩,st9 i 3 hi⟩,st9 i 4 hi⟩,st9 i 5 hi⟩,st9 i 6 hi⟩,st9 i 7 hi⟩,st9 i 8 hi⟩⟩,mm.2⟩
   ·have hP:PaintG.ok ⟨st (a0+k-s.x0).toNat,inkF (Src.at x.src (a0+k) s.y),mul255 (Src.al x.src (a0+k) s.y) x.alpha,modeF x.blend.toNat,x.over⟩:=by
     have:=paintG_ok hg.fill hxy hu
     rwa [if_neg (show ¬ It.q x (a0+k) s.y=0 from h0)] at this
    have hr:PaintG.res ⟨st (a0+k-s.x0).toNat,inkF (Src.at x.src (a0+k) s.y),mul255 (Src.al x.src (a0+k) s.y) x.alpha,modeF x.blend.toNat,x.over⟩=fillC x (a0+k) s.y (st (a0+k-s.x0).toNat):=by
     unfold fillC
     rw [if_neg (show ¬ It.q x (a0+k) s.y=0 from h0)]
     rfl
    have eF:(fun j=>Sx.intOf (lst (inkL (Src.at x.src (a0+k) s.y)) j))=inkF (Src.at x.src (a0+k) s.y):=rfl
    simp only [eF,hr]
    exact ⟨hb.1,hb.1,hb.2.1,b1,hP,hb.2.1,b1,hb.2.2,k+1,mm.1,⟨by omega,fun i hi=>⟨⟨⟨⟨⟨⟨⟨⟨st9 i 0 hi,st9 i 1 hi⟩,st9 i 2 hi⟩,st9 i 3 hi⟩,st9 i 4 hi⟩,st9 i 5 hi⟩,st9 i 6 hi⟩,st9 i 7 hi⟩,st9 i 8 hi⟩⟩,mm.2⟩
  ·exact fun i _=>all9 fun j=>congrFun (pc_end (g:=⟨t,x,s,ns,st,st,a0,a1⟩) hk hge i) j
def pcP (g:PcG) (sv:SV) (f:Nat->Cl):List SO:=[.cells 1 (lst [.ref 37 (fcS g.t g.x sv)]) TPf,.cells 3 (lst (stL g.s)) TRp,.cells 1 (lst [.osl 5 0]) TSs,.cells 1 (lst [.osl 4 0]) TSs,stR g.ns f,stR g.ns g.bs]
def pcJ (g:PcG) (sv:SV):Inv:=⟨Nat,fun k=>k<=(g.a1-g.a0).toNat,fun k=>⟨[(1,.int .i64 g.a1),(2,.own 0 0),(3,.own 1 0),(4,.own 2 0),(5,.own 3 0),(8,.int .i64 (g.a0+k))],pcP g sv (g.at k)⟩,fun k=>(g.a1-g.a0).toNat-k⟩
noncomputable def spPd:FSpec:=mkSpecM 42 [.arg 2,.arg 3,.arg 4,.arg 5,.cell 3 0,.cell 2 0] (γ:=PcG)
 (fun | .int _ a0:: .int _ a1::_,o=>some ⟨(Sx.intOf (refG (clG (o.getD 0 .dead) 0) 34)).toNat,itD (refG (clG (o.getD 0 .dead) 0)),stD (clG (o.getD 1 .dead)),rowND (o.getD 4 .dead),stFD (o.getD 4 .dead),stFD (o.getD 5 .dead),a0,a1⟩ | _,_=>none)
 (fun g=>[.int .i64 g.a0,.int .i64 g.a1,.own 0 0,.own 1 0,.own 2 0,.own 3 0]) (fun g=>pcP g (srcX g.x.src) g.st) PcOK (fun _=> .tup 0 (lst [])) (fun g=>pcP g (srcX g.x.src) g.fin)
set_option maxHeartbeats 2000000 in
theorem ok_pd:SpecOK Try.prog spPd:=by
 refine spec_soundM (specs:=[spS0,spS12,spS3,spMul255,spPaint]) (all_ok (⟨ok_S0,ok_S12,ok_S3,ok_mul255,ok_paint,trivial⟩)) (eqs:=[]) (fun _ _ h=>(List.not_mem_nil h).elim) Aff.mixed Try.func42 rfl (by kernel_rfl) (fun _ _=>by kernel_rfl) (fun g=>(⟨[(1,.inv (pcJ g (srcX g.x.src)))],[]⟩:Ann)) true (fun g=>Nat.le_of_ble_eq_true (by kernel_rfl)) ?_
 rintro ⟨t,x,s,ns,st,bs,a0,a1⟩ hg
 by_cases k0:x.src.kind=0
 ·have e:srcX x.src = .fn 51 1 (lst [.ref 27 (lst (srcL x.src))]):=by rw [srcX_eq]; unfold srcF srcN srcW srcG; rw [if_pos k0,if_neg (by omega),if_neg (by omega)]
  simp only [e]
  refine vc_of (B:=let T11:=fun p:Prop=>True/\True/\True/\True/\True/\True/\True/\True/\True/\True/\True/\p;let A:=Sx.Ask;let z47:=(x.src.img.smooth=x.src.img.smooth);let z45:=(72:Go.FuncId);let z44:=(58:Go.FuncId);let z42:=(Blend.modeF x.blend.toNat=Blend.modeF x.blend.toNat);let z39:=(x.src.img.rep=x.src.img.rep);let z35:=(True/\True);let z33:=(9:Nat);let z32:=(8:Nat);let z31:=(7:Nat);let z30:=(6:Nat);let z29:=(5:Nat);let z28:=(4:Nat);let z27:=(3:Nat);let z26:=(2:Nat);let z25:=(1:Nat);let z21:=(0:Int);let z43:=(z21=z21);let z16:=(A (z44=z44)/\True/\True/\A (z45=z45)/\True/\True/\A z42/\True);let z11:=(0:Nat);let z34:=(z11=z11);let z8:=(IntKind.i64=IntKind.i64);let q8:=fun p:Int=>A z8/\A (p=p);let z41:=(q8 a1);let z14:=(((True/\q8 s.y)/\q8 s.x0)/\q8 s.x1);let z5:=(PcG.mk t x s ns st bs a0 a1);let z10:=(pcJ z5 (Sx.SV.fn (51:Go.FuncId) z25 (Sx.lst [Sx.SV.ref (27:Nat) (Sx.lst (Lsg.srcL x.src))])));let z2:=(IntKind.u8=IntKind.u8);let q2:=fun p:Int=>A z2/\A (p=p);let z6:=(A (ns=ns)/\∀ i:Nat,i<ns->((((((((True/\q2 (bs i z11))/\q2 (bs i z25))/\q2 (bs i z26))/\q2 (bs i z27))/\q2 (bs i z28))/\q2 (bs i z29))/\q2 (bs i z30))/\q2 (bs i z31))/\q2 (bs i z32));let z3:=((((((((((((((((((((((((((True/\q8 x.src.kind)/\q2 x.src.ink.c0)/\q2 x.src.ink.c1)/\q2 x.src.ink.c2)/\q2 x.src.ink.c3)/\q2 x.src.ink.c4)/\q2 x.src.ink.c5)/\q2 x.src.ink.c6)/\q2 x.src.ink.c7)/\q8 x.src.fx)/\q8 x.src.fy)/\q8 x.src.tx)/\q8 x.src.ty)/\q8 x.src.rad)/\A (x.src.ns=x.src.ns)/\∀ i:Nat,let z22:=(x.src.st i); i<x.src.ns->((((((((True/\q8 z22.pos)/\q2 z22.ink.c0)/\q2 z22.ink.c1)/\q2 z22.ink.c2)/\q2 z22.ink.c3)/\q2 z22.ink.c4)/\q2 z22.ink.c5)/\q2 z22.ink.c6)/\q2 z22.ink.c7)/\q8 x.src.img.w)/\q8 x.src.img.h)/\A (x.src.img.n=x.src.img.n)/\∀ i:Nat,let z17:=(x.src.img.px i); i<x.src.img.n->(((((((True/\q2 z17.c0)/\q2 z17.c1)/\q2 z17.c2)/\q2 z17.c3)/\q2 z17.c4)/\q2 z17.c5)/\q2 z17.c6)/\q2 z17.c7)/\A (x.src.img.sn=x.src.img.sn)/\∀ i:Nat,i<x.src.img.sn->True/\q2 (x.src.img.sf i))/\q8 x.src.img.m.a)/\q8 x.src.img.m.b)/\q8 x.src.img.m.c)/\q8 x.src.img.m.d)/\q8 x.src.img.m.e)/\q8 x.src.img.m.f)/\A z47);let z0:=(True/\((((((((((((((((((((((((((((((((((((True/\q8 x.kind)/\A (x.nr=x.nr)/\∀ i:Nat,i<x.nr->((True/\q8 ((x.runs i).y))/\q8 ((x.runs i).x0))/\q8 ((x.runs i).x1))/\q8 x.src.kind)/\q2 x.src.ink.c0)/\q2 x.src.ink.c1)/\q2 x.src.ink.c2)/\q2 x.src.ink.c3)/\q2 x.src.ink.c4)/\q2 x.src.ink.c5)/\q2 x.src.ink.c6)/\q2 x.src.ink.c7)/\q8 x.src.fx)/\q8 x.src.fy)/\q8 x.src.tx)/\q8 x.src.ty)/\q8 x.src.rad)/\A (x.src.ns=x.src.ns)/\∀ i:Nat,let z23:=(x.src.st i); i<x.src.ns->((((((((True/\q8 z23.pos)/\q2 z23.ink.c0)/\q2 z23.ink.c1)/\q2 z23.ink.c2)/\q2 z23.ink.c3)/\q2 z23.ink.c4)/\q2 z23.ink.c5)/\q2 z23.ink.c6)/\q2 z23.ink.c7)/\q8 x.src.img.w)/\q8 x.src.img.h)/\A (x.src.img.n=x.src.img.n)/\∀ i:Nat,let z18:=(x.src.img.px i); i<x.src.img.n->(((((((True/\q2 z18.c0)/\q2 z18.c1)/\q2 z18.c2)/\q2 z18.c3)/\q2 z18.c4)/\q2 z18.c5)/\q2 z18.c6)/\q2 z18.c7)/\A (x.src.img.sn=x.src.img.sn)/\∀ i:Nat,i<x.src.img.sn->True/\q2 (x.src.img.sf i))/\q8 x.src.img.m.a)/\q8 x.src.img.m.b)/\q8 x.src.img.m.c)/\q8 x.src.img.m.d)/\q8 x.src.img.m.e)/\q8 x.src.img.m.f)/\A z47)/\A z39)/\q2 x.alpha)/\q8 x.blend)/\A (x.over=x.over))/\A (x.iso=x.iso))/\A (x.knock=x.knock))/\q8 ((↑t:Int)))/\A ((51:Go.FuncId)=(51:Go.FuncId))/\True/\z3/\A z39)/\A (z44=z44)/\True/\True/\A (z45=z45)/\True/\True/\A z42/\True);True/\True/\(∃ g:Nat,let z40:=(↑g:Int); A (z10.pre g)/\True/\(z41/\A z34/\A z34/\A z34/\A z34/\(A z8/\A (a0=a0+z40))/\True)/\z0/\z14/\z35/\z35/\(A (ns=ns)/\∀ i:Nat,i<ns->((((((((True/\A z2/\A (st i z11=z5.at z40 i z11))/\A z2/\A (st i z25=z5.at z40 i z25))/\A z2/\A (st i z26=z5.at z40 i z26))/\A z2/\A (st i z27=z5.at z40 i z27))/\A z2/\A (st i z28=z5.at z40 i z28))/\A z2/\A (st i z29=z5.at z40 i z29))/\A z2/\A (st i z30=z5.at z40 i z30))/\A z2/\A (st i z31=z5.at z40 i z31))/\A z2/\A (st i z32=z5.at z40 i z32))/\z6/\True)/\∀ g:Nat,let z13:=(↑g:Int);let z24:=((-9223372036854775808:Int)<=a0+z13+(1:Int)/\a0+z13+(1:Int)<=(9223372036854775807:Int));let z20:=(z21<=a0+z13-s.x0/\a0+z13-s.x0<(↑ns:Int));let z19:=(Lsc.Src.al x.src (a0+z13) s.y);let z38:=(q2 (mul255 z19 x.alpha));let z15:=((-9223372036854775808:Int)<=a0+z13-s.x0/\a0+z13-s.x0<=(9223372036854775807:Int));let z12:=(Lsc.Src.at x.src (a0+z13) s.y);let z9:=(a0+z13-s.x0);let z48:=(z9.toNat<ns);let z46:=(fun (j:Nat)=>bs z9.toNat (z11+j));let z7:=(((((((((True/\q2 (bs z9.toNat (z11+z11)))/\q2 (bs z9.toNat (z11+z25)))/\q2 (bs z9.toNat (z11+z26)))/\q2 (bs z9.toNat (z11+z27)))/\q2 (bs z9.toNat (z11+z28)))/\q2 (bs z9.toNat (z11+z29)))/\q2 (bs z9.toNat (z11+z30)))/\q2 (bs z9.toNat (z11+z31)))/\q2 (bs z9.toNat (z11+z32)));let z4:=(Cmp.PaintG.mk z46 (fun (j:Nat)=>Sx.intOf (Sx.lst (Img.inkL z12) (z11+j))) (mul255 z19 x.alpha) (Blend.modeF x.blend.toNat) x.over);let z1:=(Cmp.PaintG.mk z46 (fun (j:Nat)=>Sx.intOf (Sx.zeroF [Go.Value.int IntKind.u8 z21,Go.Value.int IntKind.u8 z21,Go.Value.int IntKind.u8 z21,Go.Value.int IntKind.u8 z21,Go.Value.int IntKind.u8 z21,Go.Value.int IntKind.u8 z21,Go.Value.int IntKind.u8 z21,Go.Value.int IntKind.u8 z21] (z11+j))) (mul255 z19 x.alpha) (Blend.modeF x.blend.toNat) x.over); z10.pre g->True/\True/\True/\Sx.Br (decide (a0+z13<a1)) (True/\True/\True/\True/\True/\True/\True/\(((q8 (a0+z13))/\(q8 s.y)/\(z3/\A z39)/\True)/\A (x.src.kind=z21))/\T11 (True/\(((q2 (Lsc.Src.al x.src (a0+z13) s.y))/\(q2 x.alpha)/\True)/\A ((z21<=Lsc.Src.al x.src (a0+z13) s.y/\Lsc.Src.al x.src (a0+z13) s.y<=(255:Int))/\z21<=x.alpha/\x.alpha<=(255:Int)))/\True/\True/\True/\Sx.Br (decide (mul255 z19 x.alpha=z21)) (True/\True/\True/\True/\True/\True/\A z15/\True/\True/\True/\True/\A z15/\A z20/\A z48/\T11 (((z7/\((((((((True/\A z2/\A z43)/\A z2/\A z43)/\A z2/\A z43)/\A z2/\A z43)/\A z2/\A z43)/\A z2/\A z43)/\A z2/\A z43)/\A z2/\A z43)/\z38/\z16/\A (x.over=x.over)/\True)/\A z1.ok)/\A z20/\A z48/\True/\A z24/\True/\∃ (g':Nat),let z36:=(↑g':Int); A (z10.pre g')/\True/\((z41/\A z34/\A z34/\A z34/\A z34/\(A z8/\A (a0+z13+(1:Int)=a0+z36))/\True)/\z0/\z14/\z35/\z35/\(A (ns=ns)/\∀ i:Nat,i<ns->((((((((True/\A z2/\A ((bif decide (i=z9.toNat/\z11<=z11/\z11<z11+z33) then z1.res (z11-z11) else z5.at z13 i z11)=z5.at z36 i z11))/\A z2/\A ((bif decide (i=z9.toNat/\z11<=z25/\z25<z11+z33) then z1.res (z25-z11) else z5.at z13 i z25)=z5.at z36 i z25))/\A z2/\A ((bif decide (i=z9.toNat/\z11<=z26/\z26<z11+z33) then z1.res (z26-z11) else z5.at z13 i z26)=z5.at z36 i z26))/\A z2/\A ((bif decide (i=z9.toNat/\z11<=z27/\z27<z11+z33) then z1.res (z27-z11) else z5.at z13 i z27)=z5.at z36 i z27))/\A z2/\A ((bif decide (i=z9.toNat/\z11<=z28/\z28<z11+z33) then z1.res (z28-z11) else z5.at z13 i z28)=z5.at z36 i z28))/\A z2/\A ((bif decide (i=z9.toNat/\z11<=z29/\z29<z11+z33) then z1.res (z29-z11) else z5.at z13 i z29)=z5.at z36 i z29))/\A z2/\A ((bif decide (i=z9.toNat/\z11<=z30/\z30<z11+z33) then z1.res (z30-z11) else z5.at z13 i z30)=z5.at z36 i z30))/\A z2/\A ((bif decide (i=z9.toNat/\z11<=z31/\z31<z11+z33) then z1.res (z31-z11) else z5.at z13 i z31)=z5.at z36 i z31))/\A z2/\A ((bif decide (i=z9.toNat/\z11<=z32/\z32<z11+z33) then z1.res (z32-z11) else z5.at z13 i z32)=z5.at z36 i z32))/\z6/\True)/\A (z10.meas g'<z10.meas g))) (True/\True/\True/\True/\A z15/\True/\True/\True/\True/\A z15/\A z20/\A z48/\T11 (((z7/\((((((((True/\q2 z12.c0)/\q2 z12.c1)/\q2 z12.c2)/\q2 z12.c3)/\q2 z12.c4)/\q2 z12.c5)/\q2 z12.c6)/\q2 z12.c7)/\z38/\z16/\A (x.over=x.over)/\True)/\A z4.ok)/\A z20/\A z48/\True/\A z24/\True/\∃ (g':Nat),let z37:=(↑g':Int); A (z10.pre g')/\True/\((z41/\A z34/\A z34/\A z34/\A z34/\(A z8/\A (a0+z13+(1:Int)=a0+z37))/\True)/\z0/\z14/\z35/\z35/\(A (ns=ns)/\∀ i:Nat,i<ns->((((((((True/\A z2/\A ((bif decide (i=z9.toNat/\z11<=z11/\z11<z11+z33) then z4.res (z11-z11) else z5.at z13 i z11)=z5.at z37 i z11))/\A z2/\A ((bif decide (i=z9.toNat/\z11<=z25/\z25<z11+z33) then z4.res (z25-z11) else z5.at z13 i z25)=z5.at z37 i z25))/\A z2/\A ((bif decide (i=z9.toNat/\z11<=z26/\z26<z11+z33) then z4.res (z26-z11) else z5.at z13 i z26)=z5.at z37 i z26))/\A z2/\A ((bif decide (i=z9.toNat/\z11<=z27/\z27<z11+z33) then z4.res (z27-z11) else z5.at z13 i z27)=z5.at z37 i z27))/\A z2/\A ((bif decide (i=z9.toNat/\z11<=z28/\z28<z11+z33) then z4.res (z28-z11) else z5.at z13 i z28)=z5.at z37 i z28))/\A z2/\A ((bif decide (i=z9.toNat/\z11<=z29/\z29<z11+z33) then z4.res (z29-z11) else z5.at z13 i z29)=z5.at z37 i z29))/\A z2/\A ((bif decide (i=z9.toNat/\z11<=z30/\z30<z11+z33) then z4.res (z30-z11) else z5.at z13 i z30)=z5.at z37 i z30))/\A z2/\A ((bif decide (i=z9.toNat/\z11<=z31/\z31<z11+z33) then z4.res (z31-z11) else z5.at z13 i z31)=z5.at z37 i z31))/\A z2/\A ((bif decide (i=z9.toNat/\z11<=z32/\z32<z11+z33) then z4.res (z32-z11) else z5.at z13 i z32)=z5.at z37 i z32))/\z6/\True)/\A (z10.meas g'<z10.meas g))))) (True/\True/\z35/\z0/\z14/\z35/\z35/\(A (ns=ns)/\∀ i:Nat,i<ns->((((((((True/\A z2/\A (z5.at z13 i z11=z5.fin i z11))/\A z2/\A (z5.at z13 i z25=z5.fin i z25))/\A z2/\A (z5.at z13 i z26=z5.fin i z26))/\A z2/\A (z5.at z13 i z27=z5.fin i z27))/\A z2/\A (z5.at z13 i z28=z5.fin i z28))/\A z2/\A (z5.at z13 i z29=z5.fin i z29))/\A z2/\A (z5.at z13 i z30=z5.fin i z30))/\A z2/\A (z5.at z13 i z31=z5.fin i z31))/\A z2/\A (z5.at z13 i z32=z5.fin i z32))/\z6/\True)) (by kernel_rfl) ?_
  simp only [ask_iff,br_iff,eq_self,true_and,and_true,implies_true,forall_const,decide_eq_true_eq,decide_eq_false_iff_not,ne_eq,Nat.mul_one,Nat.add_zero,Nat.zero_add]
  refine ⟨⟨0,Nat.zero_le _,(Int.add_zero _).symm,fun i _=>all9 fun j=>(congrFun (g_at0 ⟨t,x,s,ns,st,bs,a0,a1⟩ i) j).symm⟩,fun k hk=>⟨fun hlt=>?_,fun hge=>?_⟩⟩
  ·obtain ⟨b1,b2⟩:=pc_in hg hk hlt
   have hxy:=pc_xy hg (k:=k) hlt
   have hu:isU9 (bs (a0+k-s.x0).toNat):=hg.bs _ b1
   have hal:0<=x.alpha/\x.alpha<=255:=hg.fill.alpha
   have hq:0<=Src.al x.src (a0+k) s.y/\Src.al x.src (a0+k) s.y<=255:=(src_u8 hg.fill.src hxy).2
   have st9:∀ i j,i<ns->(bif decide (i=(a0+k-s.x0).toNat/\0<=j/\j<9) then fillC x (a0+k) s.y (bs (a0+k-s.x0).toNat) (j-0) else PcG.at ⟨t,x,s,ns,st,bs,a0,a1⟩ k i j)=bif decide (j<9) then PcG.at ⟨t,x,s,ns,st,bs,a0,a1⟩ ((k+1:Nat):Int) i j else PcG.at ⟨t,x,s,ns,st,bs,a0,a1⟩ k i j:=fun i j hi=>pc_step hg hlt i j
   have mm:k+1<=(a1-a0).toNat/\(a1-a0).toNat-(k+1)<(a1-a0).toNat-k:=by omega
   have he:(fun j=>bs (a0+k-s.x0).toNat j)=bs (a0+k-s.x0).toNat:=rfl
   have hb:=pc_b hg hk hlt
   simp only [zf8,he]
   refine ⟨k0,⟨hq,hal⟩,fun h0=>?_,fun h0=>?_⟩
   ·have hP:PaintG.ok ⟨bs (a0+k-s.x0).toNat,inkF z8,mul255 (Src.al x.src (a0+k) s.y) x.alpha,modeF x.blend.toNat,x.over⟩:=by
     have:=paintG_ok hg.fill hxy hu
     rwa [if_pos (show It.q x (a0+k) s.y=0 from h0)] at this
    have hr:PaintG.res ⟨bs (a0+k-s.x0).toNat,inkF z8,mul255 (Src.al x.src (a0+k) s.y) x.alpha,modeF x.blend.toNat,x.over⟩=fillC x (a0+k) s.y (bs (a0+k-s.x0).toNat):=by
     unfold fillC
     rw [if_pos (show It.q x (a0+k) s.y=0 from h0)]
     rfl
    simp only [hr]
    exact ⟨hb.1,hb.1,hb.2.1,b1,hP,hb.2.1,b1,hb.2.2,k+1,mm.1,⟨by omega,fun i hi=>⟨⟨⟨⟨⟨⟨⟨⟨st9 i 0 hi,st9 i 1 hi⟩,st9 i 2 hi⟩,st9 i 3 hi⟩,st9 i 4 hi⟩,st9 i 5 hi⟩,st9 i 6 hi⟩,st9 i 7 hi⟩,st9 i 8 hi⟩⟩,mm.2⟩
   ·have hP:PaintG.ok ⟨bs (a0+k-s.x0).toNat,inkF (Src.at x.src (a0+k) s.y),mul255 (Src.al x.src (a0+k) s.y) x.alpha,modeF x.blend.toNat,x.over⟩:=by
     have:=paintG_ok hg.fill hxy hu
     rwa [if_neg (show ¬ It.q x (a0+k) s.y=0 from h0)] at this
    have hr:PaintG.res ⟨bs (a0+k-s.x0).toNat,inkF (Src.at x.src (a0+k) s.y),mul255 (Src.al x.src (a0+k) s.y) x.alpha,modeF x.blend.toNat,x.over⟩=fillC x (a0+k) s.y (bs (a0+k-s.x0).toNat):=by
     unfold fillC
     rw [if_neg (show ¬ It.q x (a0+k) s.y=0 from h0)]
     rfl
    have eF:(fun j=>Sx.intOf (lst (inkL (Src.at x.src (a0+k) s.y)) j))=inkF (Src.at x.src (a0+k) s.y):=rfl
    simp only [eF,hr]
    exact ⟨hb.1,hb.1,hb.2.1,b1,hP,hb.2.1,b1,hb.2.2,k+1,mm.1,⟨by omega,fun i hi=>⟨⟨⟨⟨⟨⟨⟨⟨st9 i 0 hi,st9 i 1 hi⟩,st9 i 2 hi⟩,st9 i 3 hi⟩,st9 i 4 hi⟩,st9 i 5 hi⟩,st9 i 6 hi⟩,st9 i 7 hi⟩,st9 i 8 hi⟩⟩,mm.2⟩
  ·exact fun i _=>all9 fun j=>congrFun (pc_end (g:=⟨t,x,s,ns,st,bs,a0,a1⟩) hk hge i) j
 by_cases k3:x.src.kind=3
 ·have e:srcX x.src = .fn 54 1 (lst [.ref 1 (lst [atS x.src.img])]):=by rw [srcX_eq]; unfold srcF srcN srcW srcG; rw [if_neg k0,if_pos k3,if_pos k3,if_pos k3]
  simp only [e]
  refine vc_of (B:=let T11:=fun p:Prop=>True/\True/\True/\True/\True/\True/\True/\True/\True/\True/\True/\p;let A:=Sx.Ask;let z55:=(53:Go.FuncId);let z54:=(72:Go.FuncId);let z53:=(58:Go.FuncId);let z50:=(x.src.img.sn=x.src.img.sn);let z49:=(Blend.modeF x.blend.toNat=Blend.modeF x.blend.toNat);let z46:=(x.src.img.rep=x.src.img.rep);let z45:=(x.src.img.m.f=x.src.img.m.f);let z44:=(x.src.img.m.e=x.src.img.m.e);let z43:=(x.src.img.m.d=x.src.img.m.d);let z42:=(x.src.img.m.c=x.src.img.m.c);let z41:=(x.src.img.m.b=x.src.img.m.b);let z40:=(x.src.img.m.a=x.src.img.m.a);let z37:=(x.src.img.smooth=x.src.img.smooth);let z35:=(True/\True);let z33:=(9:Nat);let z32:=(8:Nat);let z31:=(7:Nat);let z30:=(6:Nat);let z29:=(5:Nat);let z28:=(4:Nat);let z27:=(3:Nat);let z26:=(2:Nat);let z25:=(1:Nat);let z22:=(0:Int);let z51:=(z22=z22);let z18:=(A (z53=z53)/\True/\True/\A (z54=z54)/\True/\True/\A z49/\True);let z14:=(Afi.invM x.src.img.m);let z13:=(0:Nat);let z52:=(Lsc.imgOf (Sx.lst [Lsg.atS x.src.img] z13));let z34:=(z13=z13);let z7:=(IntKind.i64=IntKind.i64);let q7:=fun p:Int=>A z7/\A (p=p);let z48:=(q7 a1);let z15:=(((True/\q7 s.y)/\q7 s.x0)/\q7 s.x1);let z5:=(PcG.mk t x s ns st bs a0 a1);let z11:=(pcJ z5 (Sx.SV.fn (54:Go.FuncId) z25 (Sx.lst [Sx.SV.ref z25 (Sx.lst [Lsg.atS x.src.img])])));let z3:=(IntKind.u8=IntKind.u8);let q3:=fun p:Int=>A z3/\A (p=p);let z12:=(((True/\q7 x.src.img.w)/\q7 x.src.img.h)/\A (x.src.img.n=x.src.img.n)/\∀ i:Nat,let z19:=(x.src.img.px i); i<x.src.img.n->(((((((True/\q3 z19.c0)/\q3 z19.c1)/\q3 z19.c2)/\q3 z19.c3)/\q3 z19.c4)/\q3 z19.c5)/\q3 z19.c6)/\q3 z19.c7);let z6:=(A (ns=ns)/\∀ i:Nat,i<ns->((((((((True/\q3 (bs i z13))/\q3 (bs i z25))/\q3 (bs i z26))/\q3 (bs i z27))/\q3 (bs i z28))/\q3 (bs i z29))/\q3 (bs i z30))/\q3 (bs i z31))/\q3 (bs i z32));let z0:=(True/\((((((((((((((((((((((((((((((((((((True/\q7 x.kind)/\A (x.nr=x.nr)/\∀ i:Nat,i<x.nr->((True/\q7 ((x.runs i).y))/\q7 ((x.runs i).x0))/\q7 ((x.runs i).x1))/\q7 x.src.kind)/\q3 x.src.ink.c0)/\q3 x.src.ink.c1)/\q3 x.src.ink.c2)/\q3 x.src.ink.c3)/\q3 x.src.ink.c4)/\q3 x.src.ink.c5)/\q3 x.src.ink.c6)/\q3 x.src.ink.c7)/\q7 x.src.fx)/\q7 x.src.fy)/\q7 x.src.tx)/\q7 x.src.ty)/\q7 x.src.rad)/\A (x.src.ns=x.src.ns)/\∀ i:Nat,let z23:=(x.src.st i); i<x.src.ns->((((((((True/\q7 z23.pos)/\q3 z23.ink.c0)/\q3 z23.ink.c1)/\q3 z23.ink.c2)/\q3 z23.ink.c3)/\q3 z23.ink.c4)/\q3 z23.ink.c5)/\q3 z23.ink.c6)/\q3 z23.ink.c7)/\q7 x.src.img.w)/\q7 x.src.img.h)/\A (x.src.img.n=x.src.img.n)/\∀ i:Nat,let z20:=(x.src.img.px i); i<x.src.img.n->(((((((True/\q3 z20.c0)/\q3 z20.c1)/\q3 z20.c2)/\q3 z20.c3)/\q3 z20.c4)/\q3 z20.c5)/\q3 z20.c6)/\q3 z20.c7)/\A z50/\∀ i:Nat,i<x.src.img.sn->True/\q3 (x.src.img.sf i))/\A z7/\A z40)/\A z7/\A z41)/\A z7/\A z42)/\A z7/\A z43)/\A z7/\A z44)/\A z7/\A z45)/\A z37)/\A z46)/\q3 x.alpha)/\q7 x.blend)/\A (x.over=x.over))/\A (x.iso=x.iso))/\A (x.knock=x.knock))/\q7 ((↑t:Int)))/\A ((54:Go.FuncId)=(54:Go.FuncId))/\True/\True/\A (z55=z55)/\True/\((((((((((((((z12/\A z50/\∀ i:Nat,i<x.src.img.sn->True/\q3 (x.src.img.sf i))/\A z7/\A z40)/\A z7/\A z41)/\A z7/\A z42)/\A z7/\A z43)/\A z7/\A z44)/\A z7/\A z45)/\A z37)/\A z46)/\q7 z14.a)/\q7 z14.b)/\q7 z14.c)/\q7 z14.d)/\q7 z14.e)/\q7 z14.f)/\A (z53=z53)/\True/\True/\A (z54=z54)/\True/\True/\A z49/\True);True/\True/\(∃ g:Nat,let z47:=(↑g:Int); A (z11.pre g)/\True/\(z48/\A z34/\A z34/\A z34/\A z34/\(A z7/\A (a0=a0+z47))/\True)/\z0/\z15/\z35/\z35/\(A (ns=ns)/\∀ i:Nat,i<ns->((((((((True/\A z3/\A (st i z13=z5.at z47 i z13))/\A z3/\A (st i z25=z5.at z47 i z25))/\A z3/\A (st i z26=z5.at z47 i z26))/\A z3/\A (st i z27=z5.at z47 i z27))/\A z3/\A (st i z28=z5.at z47 i z28))/\A z3/\A (st i z29=z5.at z47 i z29))/\A z3/\A (st i z30=z5.at z47 i z30))/\A z3/\A (st i z31=z5.at z47 i z31))/\A z3/\A (st i z32=z5.at z47 i z32))/\z6/\True)/\∀ g:Nat,let z16:=(↑g:Int);let z24:=((-9223372036854775808:Int)<=a0+z16+(1:Int)/\a0+z16+(1:Int)<=(9223372036854775807:Int));let z21:=(z22<=a0+z16-s.x0/\a0+z16-s.x0<(↑ns:Int));let z17:=((-9223372036854775808:Int)<=a0+z16-s.x0/\a0+z16-s.x0<=(9223372036854775807:Int));let z9:=(a0+z16-s.x0);let z57:=(z9.toNat<ns);let z56:=(fun (j:Nat)=>bs z9.toNat (z13+j));let z8:=(((((((((True/\q3 (bs z9.toNat (z13+z13)))/\q3 (bs z9.toNat (z13+z25)))/\q3 (bs z9.toNat (z13+z26)))/\q3 (bs z9.toNat (z13+z27)))/\q3 (bs z9.toNat (z13+z28)))/\q3 (bs z9.toNat (z13+z29)))/\q3 (bs z9.toNat (z13+z30)))/\q3 (bs z9.toNat (z13+z31)))/\q3 (bs z9.toNat (z13+z32)));let z1:=(Lsc.SiG.mk z52 (a0+z16) s.y);let z36:=(q3 (mul255 z1.q.soft x.alpha));let z10:=(if z1.q.soft=z22 then Lsc.z8 else z1.q.ink);let z4:=(Cmp.PaintG.mk z56 (fun (j:Nat)=>Sx.intOf (Sx.lst (Img.inkL z10) (z13+j))) (mul255 z1.q.soft x.alpha) (Blend.modeF x.blend.toNat) x.over);let z2:=(Cmp.PaintG.mk z56 (fun (j:Nat)=>Sx.intOf (Sx.zeroF [Go.Value.int IntKind.u8 z22,Go.Value.int IntKind.u8 z22,Go.Value.int IntKind.u8 z22,Go.Value.int IntKind.u8 z22,Go.Value.int IntKind.u8 z22,Go.Value.int IntKind.u8 z22,Go.Value.int IntKind.u8 z22,Go.Value.int IntKind.u8 z22] (z13+j))) (mul255 z1.q.soft x.alpha) (Blend.modeF x.blend.toNat) x.over); z11.pre g->True/\True/\True/\Sx.Br (decide (a0+z16<a1)) (True/\True/\True/\True/\True/\True/\True/\(((q7 (a0+z16))/\(q7 s.y)/\(True/\A (z55=z55)/\True/\((((((((((((((z12/\A z50/\∀ i:Nat,i<x.src.img.sn->True/\A z3/\A (x.src.img.sf i=z52.sf i))/\A z7/\A z40)/\A z7/\A z41)/\A z7/\A z42)/\A z7/\A z43)/\A z7/\A z44)/\A z7/\A z45)/\A z37)/\A z46)/\q7 z14.a)/\q7 z14.b)/\q7 z14.c)/\q7 z14.d)/\q7 z14.e)/\q7 z14.f)/\True)/\A z1.q.ok)/\T11 (True/\(((q3 z1.q.soft)/\(q3 x.alpha)/\True)/\A ((z22<=z1.q.soft/\z1.q.soft<=(255:Int))/\z22<=x.alpha/\x.alpha<=(255:Int)))/\True/\True/\True/\Sx.Br (decide (mul255 z1.q.soft x.alpha=z22)) (True/\True/\True/\True/\True/\True/\A z17/\True/\True/\True/\True/\A z17/\A z21/\A z57/\T11 (((z8/\((((((((True/\A z3/\A z51)/\A z3/\A z51)/\A z3/\A z51)/\A z3/\A z51)/\A z3/\A z51)/\A z3/\A z51)/\A z3/\A z51)/\A z3/\A z51)/\z36/\z18/\A (x.over=x.over)/\True)/\A z2.ok)/\A z21/\A z57/\True/\A z24/\True/\∃ (g':Nat),let z38:=(↑g':Int); A (z11.pre g')/\True/\((z48/\A z34/\A z34/\A z34/\A z34/\(A z7/\A (a0+z16+(1:Int)=a0+z38))/\True)/\z0/\z15/\z35/\z35/\(A (ns=ns)/\∀ i:Nat,i<ns->((((((((True/\A z3/\A ((bif decide (i=z9.toNat/\z13<=z13/\z13<z13+z33) then z2.res (z13-z13) else z5.at z16 i z13)=z5.at z38 i z13))/\A z3/\A ((bif decide (i=z9.toNat/\z13<=z25/\z25<z13+z33) then z2.res (z25-z13) else z5.at z16 i z25)=z5.at z38 i z25))/\A z3/\A ((bif decide (i=z9.toNat/\z13<=z26/\z26<z13+z33) then z2.res (z26-z13) else z5.at z16 i z26)=z5.at z38 i z26))/\A z3/\A ((bif decide (i=z9.toNat/\z13<=z27/\z27<z13+z33) then z2.res (z27-z13) else z5.at z16 i z27)=z5.at z38 i z27))/\A z3/\A ((bif decide (i=z9.toNat/\z13<=z28/\z28<z13+z33) then z2.res (z28-z13) else z5.at z16 i z28)=z5.at z38 i z28))/\A z3/\A ((bif decide (i=z9.toNat/\z13<=z29/\z29<z13+z33) then z2.res (z29-z13) else z5.at z16 i z29)=z5.at z38 i z29))/\A z3/\A ((bif decide (i=z9.toNat/\z13<=z30/\z30<z13+z33) then z2.res (z30-z13) else z5.at z16 i z30)=z5.at z38 i z30))/\A z3/\A ((bif decide (i=z9.toNat/\z13<=z31/\z31<z13+z33) then z2.res (z31-z13) else z5.at z16 i z31)=z5.at z38 i z31))/\A z3/\A ((bif decide (i=z9.toNat/\z13<=z32/\z32<z13+z33) then z2.res (z32-z13) else z5.at z16 i z32)=z5.at z38 i z32))/\z6/\True)/\A (z11.meas g'<z11.meas g))) (True/\True/\True/\True/\A z17/\True/\True/\True/\True/\A z17/\A z21/\A z57/\T11 (((z8/\((((((((True/\q3 z10.c0)/\q3 z10.c1)/\q3 z10.c2)/\q3 z10.c3)/\q3 z10.c4)/\q3 z10.c5)/\q3 z10.c6)/\q3 z10.c7)/\z36/\z18/\A (x.over=x.over)/\True)/\A z4.ok)/\A z21/\A z57/\True/\A z24/\True/\∃ (g':Nat),let z39:=(↑g':Int); A (z11.pre g')/\True/\((z48/\A z34/\A z34/\A z34/\A z34/\(A z7/\A (a0+z16+(1:Int)=a0+z39))/\True)/\z0/\z15/\z35/\z35/\(A (ns=ns)/\∀ i:Nat,i<ns->((((((((True/\A z3/\A ((bif decide (i=z9.toNat/\z13<=z13/\z13<z13+z33) then z4.res (z13-z13) else z5.at z16 i z13)=z5.at z39 i z13))/\A z3/\A ((bif decide (i=z9.toNat/\z13<=z25/\z25<z13+z33) then z4.res (z25-z13) else z5.at z16 i z25)=z5.at z39 i z25))/\A z3/\A ((bif decide (i=z9.toNat/\z13<=z26/\z26<z13+z33) then z4.res (z26-z13) else z5.at z16 i z26)=z5.at z39 i z26))/\A z3/\A ((bif decide (i=z9.toNat/\z13<=z27/\z27<z13+z33) then z4.res (z27-z13) else z5.at z16 i z27)=z5.at z39 i z27))/\A z3/\A ((bif decide (i=z9.toNat/\z13<=z28/\z28<z13+z33) then z4.res (z28-z13) else z5.at z16 i z28)=z5.at z39 i z28))/\A z3/\A ((bif decide (i=z9.toNat/\z13<=z29/\z29<z13+z33) then z4.res (z29-z13) else z5.at z16 i z29)=z5.at z39 i z29))/\A z3/\A ((bif decide (i=z9.toNat/\z13<=z30/\z30<z13+z33) then z4.res (z30-z13) else z5.at z16 i z30)=z5.at z39 i z30))/\A z3/\A ((bif decide (i=z9.toNat/\z13<=z31/\z31<z13+z33) then z4.res (z31-z13) else z5.at z16 i z31)=z5.at z39 i z31))/\A z3/\A ((bif decide (i=z9.toNat/\z13<=z32/\z32<z13+z33) then z4.res (z32-z13) else z5.at z16 i z32)=z5.at z39 i z32))/\z6/\True)/\A (z11.meas g'<z11.meas g))))) (True/\True/\z35/\z0/\z15/\z35/\z35/\(A (ns=ns)/\∀ i:Nat,i<ns->((((((((True/\A z3/\A (z5.at z16 i z13=z5.fin i z13))/\A z3/\A (z5.at z16 i z25=z5.fin i z25))/\A z3/\A (z5.at z16 i z26=z5.fin i z26))/\A z3/\A (z5.at z16 i z27=z5.fin i z27))/\A z3/\A (z5.at z16 i z28=z5.fin i z28))/\A z3/\A (z5.at z16 i z29=z5.fin i z29))/\A z3/\A (z5.at z16 i z30=z5.fin i z30))/\A z3/\A (z5.at z16 i z31=z5.fin i z31))/\A z3/\A (z5.at z16 i z32=z5.fin i z32))/\z6/\True)) (by kernel_rfl) ?_
  simp only [ask_iff,br_iff,eq_self,true_and,and_true,implies_true,forall_const,decide_eq_true_eq,decide_eq_false_iff_not,ne_eq,Nat.mul_one,Nat.add_zero,Nat.zero_add]
  have eI:imgOf (lst [atS x.src.img] 0)=x.src.img:=rfl
  have e1:∀ X:Int,(SiG.mk x.src.img X s.y).q.soft=Src.al x.src X s.y:=fun X=>by unfold Src.al; rw [if_pos k3]; rfl
  have e2:∀ X:Int,(if Src.al x.src X s.y=0 then z8 else (SiG.mk x.src.img X s.y).q.ink)=Src.at x.src X s.y:=fun X=>by unfold Src.at; rw [if_neg k0,if_pos k3]; unfold Src.iI; rw [<-e1 X]; rfl
  simp only [eI,e1,e2]
  refine ⟨⟨0,Nat.zero_le _,(Int.add_zero _).symm,fun i _=>all9 fun j=>(congrFun (g_at0 ⟨t,x,s,ns,st,bs,a0,a1⟩ i) j).symm⟩,fun k hk=>⟨fun hlt=>?_,fun hge=>?_⟩⟩
  ·obtain ⟨b1,b2⟩:=pc_in hg hk hlt
   have hxy:=pc_xy hg (k:=k) hlt
   have hu:isU9 (bs (a0+k-s.x0).toNat):=hg.bs _ b1
   have hal:0<=x.alpha/\x.alpha<=255:=hg.fill.alpha
   have hq:0<=Src.al x.src (a0+k) s.y/\Src.al x.src (a0+k) s.y<=255:=(src_u8 hg.fill.src hxy).2
   have st9:∀ i j,i<ns->(bif decide (i=(a0+k-s.x0).toNat/\0<=j/\j<9) then fillC x (a0+k) s.y (bs (a0+k-s.x0).toNat) (j-0) else PcG.at ⟨t,x,s,ns,st,bs,a0,a1⟩ k i j)=bif decide (j<9) then PcG.at ⟨t,x,s,ns,st,bs,a0,a1⟩ ((k+1:Nat):Int) i j else PcG.at ⟨t,x,s,ns,st,bs,a0,a1⟩ k i j:=fun i j hi=>pc_step hg hlt i j
   have mm:k+1<=(a1-a0).toNat/\(a1-a0).toNat-(k+1)<(a1-a0).toNat-k:=by omega
   have he:(fun j=>bs (a0+k-s.x0).toNat j)=bs (a0+k-s.x0).toNat:=rfl
   have hb:=pc_b hg hk hlt
   simp only [zf8,he]
   refine ⟨⟨fun _ _=>by trivial,at_ok hg.fill.src k3 hxy⟩,⟨hq,hal⟩,fun h0=>?_,fun h0=>?_⟩
   ·have hP:PaintG.ok ⟨bs (a0+k-s.x0).toNat,inkF z8,mul255 (Src.al x.src (a0+k) s.y) x.alpha,modeF x.blend.toNat,x.over⟩:=by
     have:=paintG_ok hg.fill hxy hu
     rwa [if_pos (show It.q x (a0+k) s.y=0 from h0)] at this
    have hr:PaintG.res ⟨bs (a0+k-s.x0).toNat,inkF z8,mul255 (Src.al x.src (a0+k) s.y) x.alpha,modeF x.blend.toNat,x.over⟩=fillC x (a0+k) s.y (bs (a0+k-s.x0).toNat):=by
     unfold fillC
     rw [if_pos (show It.q x (a0+k) s.y=0 from h0)]
     rfl
    simp only [hr]
    exact ⟨hb.1,hb.1,hb.2.1,b1,hP,hb.2.1,b1,hb.2.2,k+1,mm.1,⟨by omega,fun i hi=>⟨⟨⟨⟨⟨⟨⟨⟨st9 i 0 hi,st9 i 1 hi⟩,st9 i 2 hi⟩,st9 i 3 hi⟩,st9 i 4 hi⟩,st9 i 5 hi⟩,st9 i 6 hi⟩,st9 i 7 hi⟩,st9 i 8 hi⟩⟩,mm.2⟩
   ·have hP:PaintG.ok ⟨bs (a0+k-s.x0).toNat,inkF (Src.at x.src (a0+k) s.y),mul255 (Src.al x.src (a0+k) s.y) x.alpha,modeF x.blend.toNat,x.over⟩:=by
     have:=paintG_ok hg.fill hxy hu
     rwa [if_neg (show ¬ It.q x (a0+k) s.y=0 from h0)] at this
    have hr:PaintG.res ⟨bs (a0+k-s.x0).toNat,inkF (Src.at x.src (a0+k) s.y),mul255 (Src.al x.src (a0+k) s.y) x.alpha,modeF x.blend.toNat,x.over⟩=fillC x (a0+k) s.y (bs (a0+k-s.x0).toNat):=by
     unfold fillC
     rw [if_neg (show ¬ It.q x (a0+k) s.y=0 from h0)]
     rfl
    have eF:(fun j=>Sx.intOf (lst (inkL (Src.at x.src (a0+k) s.y)) j))=inkF (Src.at x.src (a0+k) s.y):=rfl
    simp only [eF,hr]
    exact ⟨hb.1,hb.1,hb.2.1,b1,hP,hb.2.1,b1,hb.2.2,k+1,mm.1,⟨by omega,fun i hi=>⟨⟨⟨⟨⟨⟨⟨⟨st9 i 0 hi,st9 i 1 hi⟩,st9 i 2 hi⟩,st9 i 3 hi⟩,st9 i 4 hi⟩,st9 i 5 hi⟩,st9 i 6 hi⟩,st9 i 7 hi⟩,st9 i 8 hi⟩⟩,mm.2⟩
  ·exact fun i _=>all9 fun j=>congrFun (pc_end (g:=⟨t,x,s,ns,st,bs,a0,a1⟩) hk hge i) j
 ·have e:srcX x.src = .fn 55 1 (lst [.ref 27 (lst (srcL x.src))]):=by rw [srcX_eq]; unfold srcF srcN srcW srcG; rw [if_neg k0,if_neg k3,if_neg k3,if_neg k3]
  simp only [e]
  refine vc_of (B:=let T11:=fun p:Prop=>True/\True/\True/\True/\True/\True/\True/\True/\True/\True/\True/\p;let A:=Sx.Ask;let z48:=(x.src.img.smooth=x.src.img.smooth);let z45:=(72:Go.FuncId);let z44:=(58:Go.FuncId);let z42:=(Blend.modeF x.blend.toNat=Blend.modeF x.blend.toNat);let z39:=(x.src.img.rep=x.src.img.rep);let z35:=(True/\True);let z33:=(9:Nat);let z32:=(8:Nat);let z31:=(7:Nat);let z30:=(6:Nat);let z29:=(5:Nat);let z28:=(4:Nat);let z27:=(3:Nat);let z26:=(2:Nat);let z25:=(1:Nat);let z21:=(0:Int);let z43:=(z21=z21);let z16:=(A (z44=z44)/\True/\True/\A (z45=z45)/\True/\True/\A z42/\True);let z11:=(0:Nat);let z34:=(z11=z11);let z8:=(IntKind.i64=IntKind.i64);let q8:=fun p:Int=>A z8/\A (p=p);let z41:=(q8 a1);let z14:=(((True/\q8 s.y)/\q8 s.x0)/\q8 s.x1);let z5:=(PcG.mk t x s ns st bs a0 a1);let z10:=(pcJ z5 (Sx.SV.fn (55:Go.FuncId) z25 (Sx.lst [Sx.SV.ref (27:Nat) (Sx.lst (Lsg.srcL x.src))])));let z2:=(IntKind.u8=IntKind.u8);let q2:=fun p:Int=>A z2/\A (p=p);let z6:=(A (ns=ns)/\∀ i:Nat,i<ns->((((((((True/\q2 (bs i z11))/\q2 (bs i z25))/\q2 (bs i z26))/\q2 (bs i z27))/\q2 (bs i z28))/\q2 (bs i z29))/\q2 (bs i z30))/\q2 (bs i z31))/\q2 (bs i z32));let z3:=((((((((((((((((((((((((((True/\q8 x.src.kind)/\q2 x.src.ink.c0)/\q2 x.src.ink.c1)/\q2 x.src.ink.c2)/\q2 x.src.ink.c3)/\q2 x.src.ink.c4)/\q2 x.src.ink.c5)/\q2 x.src.ink.c6)/\q2 x.src.ink.c7)/\q8 x.src.fx)/\q8 x.src.fy)/\q8 x.src.tx)/\q8 x.src.ty)/\q8 x.src.rad)/\A (x.src.ns=x.src.ns)/\∀ i:Nat,let z22:=(x.src.st i); i<x.src.ns->((((((((True/\q8 z22.pos)/\q2 z22.ink.c0)/\q2 z22.ink.c1)/\q2 z22.ink.c2)/\q2 z22.ink.c3)/\q2 z22.ink.c4)/\q2 z22.ink.c5)/\q2 z22.ink.c6)/\q2 z22.ink.c7)/\q8 x.src.img.w)/\q8 x.src.img.h)/\A (x.src.img.n=x.src.img.n)/\∀ i:Nat,let z17:=(x.src.img.px i); i<x.src.img.n->(((((((True/\q2 z17.c0)/\q2 z17.c1)/\q2 z17.c2)/\q2 z17.c3)/\q2 z17.c4)/\q2 z17.c5)/\q2 z17.c6)/\q2 z17.c7)/\A (x.src.img.sn=x.src.img.sn)/\∀ i:Nat,i<x.src.img.sn->True/\q2 (x.src.img.sf i))/\q8 x.src.img.m.a)/\q8 x.src.img.m.b)/\q8 x.src.img.m.c)/\q8 x.src.img.m.d)/\q8 x.src.img.m.e)/\q8 x.src.img.m.f)/\A z48);let z0:=(True/\((((((((((((((((((((((((((((((((((((True/\q8 x.kind)/\A (x.nr=x.nr)/\∀ i:Nat,i<x.nr->((True/\q8 ((x.runs i).y))/\q8 ((x.runs i).x0))/\q8 ((x.runs i).x1))/\q8 x.src.kind)/\q2 x.src.ink.c0)/\q2 x.src.ink.c1)/\q2 x.src.ink.c2)/\q2 x.src.ink.c3)/\q2 x.src.ink.c4)/\q2 x.src.ink.c5)/\q2 x.src.ink.c6)/\q2 x.src.ink.c7)/\q8 x.src.fx)/\q8 x.src.fy)/\q8 x.src.tx)/\q8 x.src.ty)/\q8 x.src.rad)/\A (x.src.ns=x.src.ns)/\∀ i:Nat,let z23:=(x.src.st i); i<x.src.ns->((((((((True/\q8 z23.pos)/\q2 z23.ink.c0)/\q2 z23.ink.c1)/\q2 z23.ink.c2)/\q2 z23.ink.c3)/\q2 z23.ink.c4)/\q2 z23.ink.c5)/\q2 z23.ink.c6)/\q2 z23.ink.c7)/\q8 x.src.img.w)/\q8 x.src.img.h)/\A (x.src.img.n=x.src.img.n)/\∀ i:Nat,let z18:=(x.src.img.px i); i<x.src.img.n->(((((((True/\q2 z18.c0)/\q2 z18.c1)/\q2 z18.c2)/\q2 z18.c3)/\q2 z18.c4)/\q2 z18.c5)/\q2 z18.c6)/\q2 z18.c7)/\A (x.src.img.sn=x.src.img.sn)/\∀ i:Nat,i<x.src.img.sn->True/\q2 (x.src.img.sf i))/\q8 x.src.img.m.a)/\q8 x.src.img.m.b)/\q8 x.src.img.m.c)/\q8 x.src.img.m.d)/\q8 x.src.img.m.e)/\q8 x.src.img.m.f)/\A z48)/\A z39)/\q2 x.alpha)/\q8 x.blend)/\A (x.over=x.over))/\A (x.iso=x.iso))/\A (x.knock=x.knock))/\q8 ((↑t:Int)))/\A ((55:Go.FuncId)=(55:Go.FuncId))/\True/\z3/\A z39)/\A (z44=z44)/\True/\True/\A (z45=z45)/\True/\True/\A z42/\True);True/\True/\(∃ g:Nat,let z40:=(↑g:Int); A (z10.pre g)/\True/\(z41/\A z34/\A z34/\A z34/\A z34/\(A z8/\A (a0=a0+z40))/\True)/\z0/\z14/\z35/\z35/\(A (ns=ns)/\∀ i:Nat,i<ns->((((((((True/\A z2/\A (st i z11=z5.at z40 i z11))/\A z2/\A (st i z25=z5.at z40 i z25))/\A z2/\A (st i z26=z5.at z40 i z26))/\A z2/\A (st i z27=z5.at z40 i z27))/\A z2/\A (st i z28=z5.at z40 i z28))/\A z2/\A (st i z29=z5.at z40 i z29))/\A z2/\A (st i z30=z5.at z40 i z30))/\A z2/\A (st i z31=z5.at z40 i z31))/\A z2/\A (st i z32=z5.at z40 i z32))/\z6/\True)/\∀ g:Nat,let z13:=(↑g:Int);let z46:=(a0+z13);let z24:=((-9223372036854775808:Int)<=a0+z13+(1:Int)/\a0+z13+(1:Int)<=(9223372036854775807:Int));let z20:=(z21<=a0+z13-s.x0/\a0+z13-s.x0<(↑ns:Int));let z19:=(Lsc.Src.al x.src z46 s.y);let z38:=(q2 (mul255 z19 x.alpha));let z15:=((-9223372036854775808:Int)<=a0+z13-s.x0/\a0+z13-s.x0<=(9223372036854775807:Int));let z12:=(Lsc.Src.at x.src z46 s.y);let z9:=(a0+z13-s.x0);let z49:=(z9.toNat<ns);let z47:=(fun (j:Nat)=>bs z9.toNat (z11+j));let z7:=(((((((((True/\q2 (bs z9.toNat (z11+z11)))/\q2 (bs z9.toNat (z11+z25)))/\q2 (bs z9.toNat (z11+z26)))/\q2 (bs z9.toNat (z11+z27)))/\q2 (bs z9.toNat (z11+z28)))/\q2 (bs z9.toNat (z11+z29)))/\q2 (bs z9.toNat (z11+z30)))/\q2 (bs z9.toNat (z11+z31)))/\q2 (bs z9.toNat (z11+z32)));let z4:=(Cmp.PaintG.mk z47 (fun (j:Nat)=>Sx.intOf (Sx.lst (Img.inkL z12) (z11+j))) (mul255 z19 x.alpha) (Blend.modeF x.blend.toNat) x.over);let z1:=(Cmp.PaintG.mk z47 (fun (j:Nat)=>Sx.intOf (Sx.zeroF [Go.Value.int IntKind.u8 z21,Go.Value.int IntKind.u8 z21,Go.Value.int IntKind.u8 z21,Go.Value.int IntKind.u8 z21,Go.Value.int IntKind.u8 z21,Go.Value.int IntKind.u8 z21,Go.Value.int IntKind.u8 z21,Go.Value.int IntKind.u8 z21] (z11+j))) (mul255 z19 x.alpha) (Blend.modeF x.blend.toNat) x.over); z10.pre g->True/\True/\True/\Sx.Br (decide (a0+z13<a1)) (True/\True/\True/\True/\True/\True/\True/\(((q8 (a0+z13))/\(q8 s.y)/\(z3/\A z39)/\True)/\A ((x.src.kind≠z21/\x.src.kind≠(3:Int))/\Lsc.SrcOK x.src/\Lsc.xyOK z46 s.y))/\T11 (True/\(((q2 (Lsc.Src.al x.src z46 s.y))/\(q2 x.alpha)/\True)/\A ((z21<=Lsc.Src.al x.src z46 s.y/\Lsc.Src.al x.src z46 s.y<=(255:Int))/\z21<=x.alpha/\x.alpha<=(255:Int)))/\True/\True/\True/\Sx.Br (decide (mul255 z19 x.alpha=z21)) (True/\True/\True/\True/\True/\True/\A z15/\True/\True/\True/\True/\A z15/\A z20/\A z49/\T11 (((z7/\((((((((True/\A z2/\A z43)/\A z2/\A z43)/\A z2/\A z43)/\A z2/\A z43)/\A z2/\A z43)/\A z2/\A z43)/\A z2/\A z43)/\A z2/\A z43)/\z38/\z16/\A (x.over=x.over)/\True)/\A z1.ok)/\A z20/\A z49/\True/\A z24/\True/\∃ (g':Nat),let z36:=(↑g':Int); A (z10.pre g')/\True/\((z41/\A z34/\A z34/\A z34/\A z34/\(A z8/\A (a0+z13+(1:Int)=a0+z36))/\True)/\z0/\z14/\z35/\z35/\(A (ns=ns)/\∀ i:Nat,i<ns->((((((((True/\A z2/\A ((bif decide (i=z9.toNat/\z11<=z11/\z11<z11+z33) then z1.res (z11-z11) else z5.at z13 i z11)=z5.at z36 i z11))/\A z2/\A ((bif decide (i=z9.toNat/\z11<=z25/\z25<z11+z33) then z1.res (z25-z11) else z5.at z13 i z25)=z5.at z36 i z25))/\A z2/\A ((bif decide (i=z9.toNat/\z11<=z26/\z26<z11+z33) then z1.res (z26-z11) else z5.at z13 i z26)=z5.at z36 i z26))/\A z2/\A ((bif decide (i=z9.toNat/\z11<=z27/\z27<z11+z33) then z1.res (z27-z11) else z5.at z13 i z27)=z5.at z36 i z27))/\A z2/\A ((bif decide (i=z9.toNat/\z11<=z28/\z28<z11+z33) then z1.res (z28-z11) else z5.at z13 i z28)=z5.at z36 i z28))/\A z2/\A ((bif decide (i=z9.toNat/\z11<=z29/\z29<z11+z33) then z1.res (z29-z11) else z5.at z13 i z29)=z5.at z36 i z29))/\A z2/\A ((bif decide (i=z9.toNat/\z11<=z30/\z30<z11+z33) then z1.res (z30-z11) else z5.at z13 i z30)=z5.at z36 i z30))/\A z2/\A ((bif decide (i=z9.toNat/\z11<=z31/\z31<z11+z33) then z1.res (z31-z11) else z5.at z13 i z31)=z5.at z36 i z31))/\A z2/\A ((bif decide (i=z9.toNat/\z11<=z32/\z32<z11+z33) then z1.res (z32-z11) else z5.at z13 i z32)=z5.at z36 i z32))/\z6/\True)/\A (z10.meas g'<z10.meas g))) (True/\True/\True/\True/\A z15/\True/\True/\True/\True/\A z15/\A z20/\A z49/\T11 (((z7/\((((((((True/\q2 z12.c0)/\q2 z12.c1)/\q2 z12.c2)/\q2 z12.c3)/\q2 z12.c4)/\q2 z12.c5)/\q2 z12.c6)/\q2 z12.c7)/\z38/\z16/\A (x.over=x.over)/\True)/\A z4.ok)/\A z20/\A z49/\True/\A z24/\True/\∃ (g':Nat),let z37:=(↑g':Int); A (z10.pre g')/\True/\((z41/\A z34/\A z34/\A z34/\A z34/\(A z8/\A (a0+z13+(1:Int)=a0+z37))/\True)/\z0/\z14/\z35/\z35/\(A (ns=ns)/\∀ i:Nat,i<ns->((((((((True/\A z2/\A ((bif decide (i=z9.toNat/\z11<=z11/\z11<z11+z33) then z4.res (z11-z11) else z5.at z13 i z11)=z5.at z37 i z11))/\A z2/\A ((bif decide (i=z9.toNat/\z11<=z25/\z25<z11+z33) then z4.res (z25-z11) else z5.at z13 i z25)=z5.at z37 i z25))/\A z2/\A ((bif decide (i=z9.toNat/\z11<=z26/\z26<z11+z33) then z4.res (z26-z11) else z5.at z13 i z26)=z5.at z37 i z26))/\A z2/\A ((bif decide (i=z9.toNat/\z11<=z27/\z27<z11+z33) then z4.res (z27-z11) else z5.at z13 i z27)=z5.at z37 i z27))/\A z2/\A ((bif decide (i=z9.toNat/\z11<=z28/\z28<z11+z33) then z4.res (z28-z11) else z5.at z13 i z28)=z5.at z37 i z28))/\A z2/\A ((bif decide (i=z9.toNat/\z11<=z29/\z29<z11+z33) then z4.res (z29-z11) else z5.at z13 i z29)=z5.at z37 i z29))/\A z2/\A ((bif decide (i=z9.toNat/\z11<=z30/\z30<z11+z33) then z4.res (z30-z11) else z5.at z13 i z30)=z5.at z37 i z30))/\A z2/\A ((bif decide (i=z9.toNat/\z11<=z31/\z31<z11+z33) then z4.res (z31-z11) else z5.at z13 i z31)=z5.at z37 i z31))/\A z2/\A ((bif decide (i=z9.toNat/\z11<=z32/\z32<z11+z33) then z4.res (z32-z11) else z5.at z13 i z32)=z5.at z37 i z32))/\z6/\True)/\A (z10.meas g'<z10.meas g))))) (True/\True/\z35/\z0/\z14/\z35/\z35/\(A (ns=ns)/\∀ i:Nat,i<ns->((((((((True/\A z2/\A (z5.at z13 i z11=z5.fin i z11))/\A z2/\A (z5.at z13 i z25=z5.fin i z25))/\A z2/\A (z5.at z13 i z26=z5.fin i z26))/\A z2/\A (z5.at z13 i z27=z5.fin i z27))/\A z2/\A (z5.at z13 i z28=z5.fin i z28))/\A z2/\A (z5.at z13 i z29=z5.fin i z29))/\A z2/\A (z5.at z13 i z30=z5.fin i z30))/\A z2/\A (z5.at z13 i z31=z5.fin i z31))/\A z2/\A (z5.at z13 i z32=z5.fin i z32))/\z6/\True)) (by kernel_rfl) ?_
  simp only [ask_iff,br_iff,eq_self,true_and,and_true,implies_true,forall_const,decide_eq_true_eq,decide_eq_false_iff_not,ne_eq,Nat.mul_one,Nat.add_zero,Nat.zero_add]
  refine ⟨⟨0,Nat.zero_le _,(Int.add_zero _).symm,fun i _=>all9 fun j=>(congrFun (g_at0 ⟨t,x,s,ns,st,bs,a0,a1⟩ i) j).symm⟩,fun k hk=>⟨fun hlt=>?_,fun hge=>?_⟩⟩
  ·obtain ⟨b1,b2⟩:=pc_in hg hk hlt
   have hxy:=pc_xy hg (k:=k) hlt
   have hu:isU9 (bs (a0+k-s.x0).toNat):=hg.bs _ b1
   have hal:0<=x.alpha/\x.alpha<=255:=hg.fill.alpha
   have hq:0<=Src.al x.src (a0+k) s.y/\Src.al x.src (a0+k) s.y<=255:=(src_u8 hg.fill.src hxy).2
   have st9:∀ i j,i<ns->(bif decide (i=(a0+k-s.x0).toNat/\0<=j/\j<9) then fillC x (a0+k) s.y (bs (a0+k-s.x0).toNat) (j-0) else PcG.at ⟨t,x,s,ns,st,bs,a0,a1⟩ k i j)=bif decide (j<9) then PcG.at ⟨t,x,s,ns,st,bs,a0,a1⟩ ((k+1:Nat):Int) i j else PcG.at ⟨t,x,s,ns,st,bs,a0,a1⟩ k i j:=fun i j hi=>pc_step hg hlt i j
   have mm:k+1<=(a1-a0).toNat/\(a1-a0).toNat-(k+1)<(a1-a0).toNat-k:=by omega
   have he:(fun j=>bs (a0+k-s.x0).toNat j)=bs (a0+k-s.x0).toNat:=rfl
   have hb:=pc_b hg hk hlt
   simp only [zf8,he]
   refine ⟨⟨⟨k0,k3⟩,hg.fill.src,hxy⟩,⟨hq,hal⟩,fun h0=>?_,fun h0=>?_⟩
   ·have hP:PaintG.ok ⟨bs (a0+k-s.x0).toNat,inkF z8,mul255 (Src.al x.src (a0+k) s.y) x.alpha,modeF x.blend.toNat,x.over⟩:=by
     have:=paintG_ok hg.fill hxy hu
     rwa [if_pos (show It.q x (a0+k) s.y=0 from h0)] at this
    have hr:PaintG.res ⟨bs (a0+k-s.x0).toNat,inkF z8,mul255 (Src.al x.src (a0+k) s.y) x.alpha,modeF x.blend.toNat,x.over⟩=fillC x (a0+k) s.y (bs (a0+k-s.x0).toNat):=by
     unfold fillC
     rw [if_pos (show It.q x (a0+k) s.y=0 from h0)]
     rfl
    simp only [hr]
    exact ⟨hb.1,hb.1,hb.2.1,b1,hP,hb.2.1,b1,hb.2.2,k+1,mm.1,⟨by omega,fun i hi=>⟨⟨⟨⟨⟨⟨⟨⟨st9 i 0 hi,st9 i 1 hi⟩,st9 i 2 hi⟩,st9 i 3 hi⟩,st9 i 4 hi⟩,st9 i 5 hi⟩,st9 i 6 hi⟩,st9 i 7 hi⟩,st9 i 8 hi⟩⟩,mm.2⟩
   ·have hP:PaintG.ok ⟨bs (a0+k-s.x0).toNat,inkF (Src.at x.src (a0+k) s.y),mul255 (Src.al x.src (a0+k) s.y) x.alpha,modeF x.blend.toNat,x.over⟩:=by
     have:=paintG_ok hg.fill hxy hu
     rwa [if_neg (show ¬ It.q x (a0+k) s.y=0 from h0)] at this
    have hr:PaintG.res ⟨bs (a0+k-s.x0).toNat,inkF (Src.at x.src (a0+k) s.y),mul255 (Src.al x.src (a0+k) s.y) x.alpha,modeF x.blend.toNat,x.over⟩=fillC x (a0+k) s.y (bs (a0+k-s.x0).toNat):=by
     unfold fillC
     rw [if_neg (show ¬ It.q x (a0+k) s.y=0 from h0)]
     rfl
    have eF:(fun j=>Sx.intOf (lst (inkL (Src.at x.src (a0+k) s.y)) j))=inkF (Src.at x.src (a0+k) s.y):=rfl
    simp only [eF,hr]
    exact ⟨hb.1,hb.1,hb.2.1,b1,hP,hb.2.1,b1,hb.2.2,k+1,mm.1,⟨by omega,fun i hi=>⟨⟨⟨⟨⟨⟨⟨⟨st9 i 0 hi,st9 i 1 hi⟩,st9 i 2 hi⟩,st9 i 3 hi⟩,st9 i 4 hi⟩,st9 i 5 hi⟩,st9 i 6 hi⟩,st9 i 7 hi⟩,st9 i 8 hi⟩⟩,mm.2⟩
  ·exact fun i _=>all9 fun j=>congrFun (pc_end (g:=⟨t,x,s,ns,st,bs,a0,a1⟩) hk hge i) j
end Go.Proofs.Ythappngbapbkfaa.Lpa
set_option linter.unusedSimpArgs false
set_option linter.unusedVariables false
namespace Go.Proofs.Ythappngbapbkfaa.Lpr
open Go.RowKit Sx Num Aff Afi Img Imh Imp Imq Rga Blend Ble Lsg Lta Lrd Lri Luc Lck Lgr Lcs Lst Lch Lcl Lgp Lsc Cmp Lpm Lpa
set_option maxRecDepth 100000
structure RcG where
 t:Nat
 x:It
 s:StG
 ns:Nat
 st:Nat->Cl
 bs:Nat->Cl
structure RcOK (g:RcG):Prop where
 fill:FillOK g.x
 vr:Vr g.x.nr g.x.runs
 y : -8192<=g.s.y/\g.s.y<8192
 x0 : -8192<=g.s.x0
 x1:g.s.x1<=8192
 n:(g.ns:Int)=g.s.x1-g.s.x0
 st:∀ i,i<g.ns->isU9 (g.st i)
 bs:∀ i,i<g.ns->isU9 (g.bs i)
def RcG.at (g:RcG) (m i:Nat):Cl:=if covR g.x.runs m (g.s.x0+i) g.s.y then fillC g.x (g.s.x0+i) g.s.y (g.bs i) else g.st i
def RcG.ix (g:RcG):Nat:=ixB g.x.runs g.s g.x.nr 0
theorem rc_bs {g:RcG}(h:RcOK g):BsOK ⟨g.x.nr,g.x.runs,g.s⟩:=h.vr.mono g.s
theorem rc_low {g:RcG}(h:RcOK g) {j:Nat}(hj:j<g.ix):Bfr (g.x.runs j) g.s:=ixB_lt g.x.runs g.s g.x.nr 0 j (Nat.zero_le _) hj
theorem rc_ix {g:RcG}(h:RcOK g):g.ix<=g.x.nr:=by
 have:=ixB_le g.x.runs g.s g.x.nr 0
 unfold RcG.ix; omega
theorem rc_at0 {g:RcG}(h:RcOK g) {i:Nat}(hi:i<g.ns):g.at g.ix i=g.st i:=by
 unfold RcG.at
 refine if_neg ?_
 rintro ⟨j,hj,h1,h2,h3⟩
 rcases rc_low h hj with h4 | ⟨h4,h5⟩
 ·omega
 ·omega
theorem rc_new {g:RcG}(h:RcOK g) {k i:Nat}(hk:k<g.x.nr) (hy:(g.x.runs k).y=g.s.y) (h1:(g.x.runs k).x0<=g.s.x0+i):¬ covR g.x.runs k (g.s.x0+i) g.s.y:=by
 rintro ⟨j,hj,h2,h3,h4⟩
 rcases h.vr.far k j hj hk with h5 | ⟨h5,h6⟩
 ·omega
 ·omega
theorem rc_step {g:RcG}(h:RcOK g) {k i:Nat}(hk:k<g.x.nr) (hy:(g.x.runs k).y=g.s.y) (hi:i<g.ns) {a0 a1:Int}(e0:a0=if g.s.x0>(g.x.runs k).x0 then g.s.x0 else (g.x.runs k).x0) (e1:a1=if g.s.x1<(g.x.runs k).x1 then g.s.x1 else (g.x.runs k).x1) :
  (a0<=g.s.x0+i/\g.s.x0+i<a1->g.at k i=g.st i/\g.at (k+1) i=fillC g.x (g.s.x0+i) g.s.y (g.bs i))/\(¬ (a0<=g.s.x0+i/\g.s.x0+i<a1)->g.at (k+1) i=g.at k i):=by
 have hn:=h.n
 have e:(a0<=g.s.x0+i/\g.s.x0+i<a1)<->((g.x.runs k).x0<=g.s.x0+i/\g.s.x0+i<(g.x.runs k).x1):=by
  subst e0 e1
  split<;>split<;>omega
 rw [e]
 constructor
 ·intro hc
  unfold RcG.at
  rw [if_neg (rc_new h hk hy hc.1),if_pos (covR_succ.2 (.inr ⟨hy,hc⟩))]
  exact ⟨rfl,rfl⟩
 ·intro hc
  unfold RcG.at
  by_cases h2:covR g.x.runs k (g.s.x0+i) g.s.y
  ·rw [if_pos h2,if_pos (covR_succ.2 (.inl h2))]
  ·rw [if_neg h2,if_neg (fun h3=>(covR_succ.1 h3).elim h2 (fun h4=>hc h4.2))]
theorem rc_end {g:RcG}(h:RcOK g) {k i:Nat}(hk:g.ix<=k/\k<=g.x.nr) (hi:i<g.ns) (hx:k<g.x.nr->¬ ((g.x.runs k).y=g.s.y/\(g.x.runs k).x0<g.s.x1)):g.at k i=g.at g.x.nr i:=by
 have hn:=h.n
 unfold RcG.at
 by_cases h2:covR g.x.runs k (g.s.x0+i) g.s.y
 ·obtain ⟨j,hj,h3⟩:=h2
  rw [if_pos ⟨j,hj,h3⟩,if_pos ⟨j,by omega,h3⟩]
 ·rw [if_neg h2,if_neg ?_]
  rintro ⟨j,hj,h3,h4,h5⟩
  have hkj:k<=j:=Nat.not_lt.1 fun hc=>h2 ⟨j,hc,h3,h4,h5⟩
  have hkn:k<g.x.nr:=by omega
  have hnx:=hx hkn
  have hb:¬ Bfr (g.x.runs k) g.s:=fun hc=>by
   have:=(rc_bs h).below (j:=k) hkn hc
   have:k<g.ix:=this
   omega
  unfold Bfr at hb
  by_cases e:j=k
  ·subst e
   exact hnx ⟨h3,by omega⟩
  ·rcases h.vr.far j k (by omega) hj with h6 | ⟨h6,h7⟩
   ·omega
   ·have:=h.vr.lt k hkn
    exact hnx ⟨by omega,by omega⟩
theorem rc_u9 {g:RcG}(h:RcOK g) (k:Nat) {i:Nat}(hi:i<g.ns):isU9 (g.at k i):=by
 have hn:=h.n
 have h0:=h.x0
 have h1:=h.x1
 unfold RcG.at
 split
 ·exact fillC_u9 h.fill ⟨by omega,h.y⟩ (h.bs i hi)
 ·exact h.st i hi
noncomputable def rcO (g:RcG) (f:Nat->Cl):List SO:=[.cells 1 (lst [.ref 37 (fcS g.t g.x (srcX g.x.src))]) TPf,.cells 3 (lst (stL g.s)) TRp,.cells 1 (lst [.osl 4 0]) TSs,.cells 1 (lst [.osl 4 0]) TSs,stR g.ns f]
noncomputable def rcP (g:RcG) (f:Nat->Cl):List SO:=[.cells 1 (lst [.ref 37 (fcS g.t g.x (srcX g.x.src))]) TPf,.cells 3 (lst (stL g.s)) TRp,.cells 1 (lst [.osl 5 0]) TSs,.cells 1 (lst [.osl 4 0]) TSs,stR g.ns f,stR g.ns g.bs]
def pcF:SV:= .fn 42 4 (lst [.own 0 0,.own 1 0,.own 2 0,.own 3 0])
def rcPre (g:RcG) (i:Nat):Prop:=(g.ix<=i/\i<=g.x.nr)/\∀ j,g.ix<=j->j<i->(g.x.runs j).y=g.s.y
noncomputable def rcI (g:RcG):Inv:=⟨Nat,rcPre g,fun i=>⟨[(1,rgS ⟨g.x.nr,g.x.runs⟩),(2,pcF),(3,.own 5 0),(6,.int .i64 i)],rcO g (g.at i)++[.cells 3 (lst (stL g.s)) TRp]⟩,fun i=>g.x.nr-i⟩
noncomputable def rcJ (g:RcG):Inv:=⟨Nat,rcPre g,fun i=>⟨[(1,rgS ⟨g.x.nr,g.x.runs⟩),(2,pcF),(3,.own 6 0),(6,.int .i64 i)],rcP g (g.at i)++[.cells 3 (lst (stL g.s)) TRp]⟩,fun i=>g.x.nr-i⟩
noncomputable def spRa:FSpec:=mkSpecM 41 [.part 2 0,.part 2 1,.part 2 2,.part 2 3,.cell 3 0] (γ:=RcG)
 (fun _ o=>some ⟨(Sx.intOf (refG (clG (o.getD 0 .dead) 0) 34)).toNat,itD (refG (clG (o.getD 0 .dead) 0)),stD (clG (o.getD 1 .dead)),rowND (o.getD 4 .dead),stFD (o.getD 4 .dead),stFD (o.getD 4 .dead)⟩)
 (fun g=>[stS g.s,rgS ⟨g.x.nr,g.x.runs⟩,pcF]) (fun g=>rcO g g.st) (fun g=>RcOK g/\g.bs=g.st) (fun _=> .tup 0 (lst [])) (fun g=>rcO g (g.at g.x.nr))
set_option maxHeartbeats 1000000 in
theorem ok_Ra:SpecOK Try.prog spRa:=by
 refine spec_soundM (specs:=[spBs,spPc]) (all_ok (⟨ok_bs,ok_pc,trivial⟩)) (eqs:=[]) (fun _ _ h=>(List.not_mem_nil h).elim) Aff.mixed Try.func41 rfl (by kernel_rfl) (fun _ _=>by kernel_rfl) (fun g=>(⟨[(2,.inv (rcI g))],[]⟩:Ann)) true (fun g=>Nat.le_of_ble_eq_true (by kernel_rfl)) ?_
 rintro ⟨t,x,s,ns,st,bs⟩ ⟨hg,hbs⟩
 have hbs:st=bs:=hbs.symm
 subst hbs
 refine vc_of (B:=let T2:=fun p:Prop=>True/\True/\p;let T5:=fun p:Prop=>True/\True/\True/\True/\True/\p;let A:=Sx.Ask;let z31:=(8:Nat);let z30:=(7:Nat);let z29:=(6:Nat);let z28:=(5:Nat);let z27:=(4:Nat);let z26:=(3:Nat);let z25:=(2:Nat);let z24:=(1:Nat);let z22:=(↑t:Int);let z21:=(0:Nat);let z20:=(Lpa.fcS z22.toNat x (Lpa.srcX x.src) (35:Nat));let z19:=((72:Go.FuncId)=(72:Go.FuncId));let z18:=((58:Go.FuncId)=(58:Go.FuncId));let z17:=(Blend.modeF x.blend.toNat=Blend.modeF x.blend.toNat);let z15:=(Lpa.fcS t x (Lpa.srcX x.src) (35:Nat));let z14:=(True/\True);let z10:=(z21=z21);let z16:=(A ((42:Go.FuncId)=(42:Go.FuncId))/\(((True/\A z10)/\A z10)/\A z10)/\A z10);let z5:=(RcG.mk t x s ns st st);let z4:=(IntKind.u8=IntKind.u8);let q4:=fun p:Int=>A z4/\A (p=p);let z3:=(IntKind.i64=IntKind.i64);let q3:=fun p:Int=>A z3/\A (p=p);let z8:=(A (x.nr=x.nr)/\∀ i:Nat,i<x.nr->((True/\q3 ((x.runs i).y))/\q3 ((x.runs i).x0))/\q3 ((x.runs i).x1));let z7:=(((True/\q3 s.y)/\q3 s.x0)/\q3 s.x1);let z0:=((((((((((((((((((((((((((((((((((True/\q3 x.kind)/\A (x.nr=x.nr)/\∀ i:Nat,i<x.nr->((True/\q3 ((x.runs i).y))/\q3 ((x.runs i).x0))/\q3 ((x.runs i).x1))/\q3 x.src.kind)/\q4 x.src.ink.c0)/\q4 x.src.ink.c1)/\q4 x.src.ink.c2)/\q4 x.src.ink.c3)/\q4 x.src.ink.c4)/\q4 x.src.ink.c5)/\q4 x.src.ink.c6)/\q4 x.src.ink.c7)/\q3 x.src.fx)/\q3 x.src.fy)/\q3 x.src.tx)/\q3 x.src.ty)/\q3 x.src.rad)/\A (x.src.ns=x.src.ns)/\∀ i:Nat,let z13:=(x.src.st i); i<x.src.ns->((((((((True/\q3 z13.pos)/\q4 z13.ink.c0)/\q4 z13.ink.c1)/\q4 z13.ink.c2)/\q4 z13.ink.c3)/\q4 z13.ink.c4)/\q4 z13.ink.c5)/\q4 z13.ink.c6)/\q4 z13.ink.c7)/\q3 x.src.img.w)/\q3 x.src.img.h)/\A (x.src.img.n=x.src.img.n)/\∀ i:Nat,let z11:=(x.src.img.px i); i<x.src.img.n->(((((((True/\q4 z11.c0)/\q4 z11.c1)/\q4 z11.c2)/\q4 z11.c3)/\q4 z11.c4)/\q4 z11.c5)/\q4 z11.c6)/\q4 z11.c7)/\A (x.src.img.sn=x.src.img.sn)/\∀ i:Nat,i<x.src.img.sn->True/\q4 (x.src.img.sf i))/\q3 x.src.img.m.a)/\q3 x.src.img.m.b)/\q3 x.src.img.m.c)/\q3 x.src.img.m.d)/\q3 x.src.img.m.e)/\q3 x.src.img.m.f)/\A (x.src.img.smooth=x.src.img.smooth))/\A (x.src.img.rep=x.src.img.rep))/\q4 x.alpha)/\q3 x.blend)/\A (x.over=x.over))/\A (x.iso=x.iso))/\A (x.knock=x.knock));let z6:=(True/\((z0/\q3 z22)/\Sx.SVle [] [] z15 z15)/\A z18/\T2 (A z19/\T2 (A z17/\True)));T2 (True/\((z8/\z7/\(A ((60:Nat)=(60:Go.FuncId))/\True)/\True)/\A (Lrd.BsOK (Lrd.BsG.mk x.nr x.runs s)))/\T5 ((∃ g:Nat,A ((rcI z5).pre g)/\True/\(z8/\z16/\A z10/\(A z3/\A ((↑(Lrd.ixB x.runs s x.nr z21):Int)=(↑g:Int)))/\True)/\z6/\z7/\z14/\z14/\(A (ns=ns)/\∀ i:Nat,i<ns->((((((((True/\A z4/\A (st i z21=z5.at g i z21))/\A z4/\A (st i z24=z5.at g i z24))/\A z4/\A (st i z25=z5.at g i z25))/\A z4/\A (st i z26=z5.at g i z26))/\A z4/\A (st i z27=z5.at g i z27))/\A z4/\A (st i z28=z5.at g i z28))/\A z4/\A (st i z29=z5.at g i z29))/\A z4/\A (st i z30=z5.at g i z30))/\A z4/\A (st i z31=z5.at g i z31))/\z7/\True)/\∀ g:Nat,let z23:=(↑g:Int);let z12:=((0:Int)<=z23/\z23<(↑x.nr:Int));let z9:=(x.runs z23.toNat);let z33:=(if s.x1<z9.x1 then s.x1 else z9.x1);let z32:=(if s.x0>z9.x0 then s.x0 else z9.x0);let z2:=(Lpa.PcG.mk z22.toNat x s ns (z5.at g) (z5.at g) z32 z33);let z1:=(A (ns=ns)/\∀ i:Nat,i<ns->((((((((True/\A z4/\A (z5.at g i z21=z5.at x.nr i z21))/\A z4/\A (z5.at g i z24=z5.at x.nr i z24))/\A z4/\A (z5.at g i z25=z5.at x.nr i z25))/\A z4/\A (z5.at g i z26=z5.at x.nr i z26))/\A z4/\A (z5.at g i z27=z5.at x.nr i z27))/\A z4/\A (z5.at g i z28=z5.at x.nr i z28))/\A z4/\A (z5.at g i z29=z5.at x.nr i z29))/\A z4/\A (z5.at g i z30=z5.at x.nr i z30))/\A z4/\A (z5.at g i z31=z5.at x.nr i z31)); (rcI z5).pre g->T5 (Sx.Br (decide (z23<(↑x.nr:Int))) (T2 (A z12/\T5 (T2 (Sx.Br (decide (z9.y=s.y)) (T2 (A z12/\T5 (True/\Sx.Br (decide (z9.x0<s.x1)) (T2 (True/\A z12/\T5 (T2 (A z12/\T5 (((True/\((A z3/\A (z32=if s.x0>z9.x0 then s.x0 else z9.x0))/\(A z3/\A (z33=if s.x1<z9.x1 then s.x1 else z9.x1))/\A z10/\A z10/\A z10/\A z10/\True)/\(True/\((z0/\A z3/\A (z22=(↑z22.toNat:Int)))/\Sx.SVle [] [] z15 z20)/\A z18/\T2 (A z19/\T2 (A z17/\True)))/\z7/\z14/\z14/\(A (ns=ns)/\∀ i:Nat,i<ns->((((((((True/\q4 (z5.at g i z21))/\q4 (z5.at g i z24))/\q4 (z5.at g i z25))/\q4 (z5.at g i z26))/\q4 (z5.at g i z27))/\q4 (z5.at g i z28))/\q4 (z5.at g i z29))/\q4 (z5.at g i z30))/\q4 (z5.at g i z31))/\True)/\A (Lpa.PcOK z2/\z5.at g=z5.at g))/\True/\A ((-9223372036854775808:Int)<=z23+(1:Int)/\z23+(1:Int)<=(9223372036854775807:Int))/\True/\∃ (g':Nat),A ((rcI z5).pre g')/\True/\((z8/\z16/\A z10/\(A z3/\A (z23+(1:Int)=(↑g':Int)))/\True)/\(True/\((z0/\A z3/\A ((↑z22.toNat:Int)=z22))/\Sx.SVle [] [] z20 z15)/\A z18/\T2 (A z19/\T2 (A z17/\True)))/\z7/\z14/\z14/\(A (ns=ns)/\∀ i:Nat,i<ns->((((((((True/\A z4/\A (z2.fin i z21=z5.at g' i z21))/\A z4/\A (z2.fin i z24=z5.at g' i z24))/\A z4/\A (z2.fin i z25=z5.at g' i z25))/\A z4/\A (z2.fin i z26=z5.at g' i z26))/\A z4/\A (z2.fin i z27=z5.at g' i z27))/\A z4/\A (z2.fin i z28=z5.at g' i z28))/\A z4/\A (z2.fin i z29=z5.at g' i z29))/\A z4/\A (z2.fin i z30=z5.at g' i z30))/\A z4/\A (z2.fin i z31=z5.at g' i z31))/\z7/\True)/\A ((rcI z5).meas g'<(rcI z5).meas g)))))) (T2 (z14/\z6/\z7/\z14/\z14/\z1/\True))))) (T2 (True/\z14/\z6/\z7/\z14/\z14/\z1/\True)))))) (T5 (z14/\z6/\z7/\z14/\z14/\z1/\True)))))) (by kernel_rfl) ?_
 simp only [ask_iff,br_iff,eq_self,true_and,and_true,implies_true,forall_const,decide_eq_true_eq,decide_eq_false_iff_not,ne_eq,Nat.mul_one,Nat.add_zero,Nat.zero_add]
 simp only [Int.toNat_natCast]
 have hs:SVle [] [] (fcS t x (srcX x.src) 35) (fcS t x (srcX x.src) 35):=SVle.refl [] [] (srcX_own x.src)
 refine ⟨rc_bs hg,⟨RcG.ix ⟨t,x,s,ns,st,st⟩,⟨⟨Nat.le_refl _,rc_ix hg⟩,fun j h1 h2=>absurd h2 (Nat.not_lt.2 h1)⟩,rfl,hs,fun i hi=>all9 fun j=>(congrFun (rc_at0 hg hi) j).symm⟩,fun k hk=>?_⟩
 obtain ⟨⟨k1,k2⟩,k3⟩:=hk
 have k2:k<=x.nr:=k2
 have hl:x.nr<=4611686018427387904:=hg.vr.len
 have hn:(ns:Int)=s.x1-s.x0:=hg.n
 refine ⟨fun hlt=>?_,fun hge=>?_⟩
 ·have hlt:k<x.nr:=by omega
  refine ⟨by omega,fun hy=>⟨by omega,fun hx=>?_,fun hx=>?_⟩,fun hy=>?_⟩
  ·have hu:∀ i,i<ns->isU9 (RcG.at ⟨t,x,s,ns,st,st⟩ k i):=fun i hi=>rc_u9 hg k hi
   have hp:PcOK ⟨t,x,s,ns,RcG.at ⟨t,x,s,ns,st,st⟩ k,RcG.at ⟨t,x,s,ns,st,st⟩ k,if s.x0>(x.runs k).x0 then s.x0 else (x.runs k).x0,if s.x1<(x.runs k).x1 then s.x1 else (x.runs k).x1⟩:=⟨hg.fill,hg.y,hg.x0,hg.x1,hg.n,by simp only; split<;>omega,by simp only; split<;>omega,hu,hu⟩
   have hstep:∀ i,i<ns->PcG.fin ⟨t,x,s,ns,RcG.at ⟨t,x,s,ns,st,st⟩ k,RcG.at ⟨t,x,s,ns,st,st⟩ k,if s.x0>(x.runs k).x0 then s.x0 else (x.runs k).x0,if s.x1<(x.runs k).x1 then s.x1 else (x.runs k).x1⟩ i=RcG.at ⟨t,x,s,ns,st,st⟩ (k+1) i:=fun i hi=>by
    have hst:=rc_step hg hlt hy hi rfl rfl
    unfold PcG.fin
    by_cases hc:(if s.x0>(x.runs k).x0 then s.x0 else (x.runs k).x0)<=s.x0+i/\s.x0+i<(if s.x1<(x.runs k).x1 then s.x1 else (x.runs k).x1)
    ·rw [if_pos hc]
     have h2:=hst.1 hc
     exact (congrArg (fillC x (s.x0+i) s.y) h2.1).trans h2.2.symm
    ·rw [if_neg hc]
     exact (hst.2 hc).symm
   have hpre:rcPre ⟨t,x,s,ns,st,st⟩ (k+1):=⟨⟨by omega,hlt⟩,fun j h1 h2=>by
    by_cases e:j=k
    ·subst e; exact hy
    ·exact k3 j h1 (by omega)⟩
   have hm:x.nr-(k+1)<x.nr-k:=by omega
   exact ⟨by omega,by omega,⟨⟨trivial,hs⟩,hp⟩,by omega,k+1,hpre,⟨by simp,⟨trivial,hs⟩,fun i hi=>all9 fun j=>congrFun (hstep i hi) j⟩,hm⟩
  ·exact ⟨hs,fun i hi=>all9 fun j=>congrFun (rc_end hg ⟨k1,k2⟩ hi (fun _ h=>hx h.2)) j⟩
  ·exact ⟨hs,fun i hi=>all9 fun j=>congrFun (rc_end hg ⟨k1,k2⟩ hi (fun _ h=>hy h.1)) j⟩
 ·exact ⟨hs,fun i hi=>all9 fun j=>congrFun (rc_end hg ⟨k1,k2⟩ hi (fun hc _=>hge (Int.ofNat_lt.2 hc))) j⟩
noncomputable def spRb:FSpec:=mkSpecM 41 [.part 2 0,.part 2 1,.part 2 2,.part 2 3,.cell 3 0,.cell 2 0] (γ:=RcG)
 (fun _ o=>some ⟨(Sx.intOf (refG (clG (o.getD 0 .dead) 0) 34)).toNat,itD (refG (clG (o.getD 0 .dead) 0)),stD (clG (o.getD 1 .dead)),rowND (o.getD 4 .dead),stFD (o.getD 4 .dead),stFD (o.getD 5 .dead)⟩)
 (fun g=>[stS g.s,rgS ⟨g.x.nr,g.x.runs⟩,pcF]) (fun g=>rcP g g.st) RcOK (fun _=> .tup 0 (lst [])) (fun g=>rcP g (g.at g.x.nr))
set_option maxHeartbeats 1000000 in
theorem ok_Rb:SpecOK Try.prog spRb:=by
 refine spec_soundM (specs:=[spBs,spPd]) (all_ok (⟨ok_bs,ok_pd,trivial⟩)) (eqs:=[]) (fun _ _ h=>(List.not_mem_nil h).elim) Aff.mixed Try.func41 rfl (by kernel_rfl) (fun _ _=>by kernel_rfl) (fun g=>(⟨[(2,.inv (rcJ g))],[]⟩:Ann)) true (fun g=>Nat.le_of_ble_eq_true (by kernel_rfl)) ?_
 rintro ⟨t,x,s,ns,st,bs⟩ hg
 refine vc_of (B:=let T2:=fun p:Prop=>True/\True/\p;let T5:=fun p:Prop=>True/\True/\True/\True/\True/\p;let A:=Sx.Ask;let z31:=(↑t:Int);let z30:=(8:Nat);let z29:=(7:Nat);let z28:=(6:Nat);let z27:=(5:Nat);let z26:=(4:Nat);let z25:=(3:Nat);let z24:=(2:Nat);let z23:=(1:Nat);let z22:=(Lpa.fcS z31.toNat x (Lpa.srcX x.src) (35:Nat));let z21:=(0:Nat);let z20:=((72:Go.FuncId)=(72:Go.FuncId));let z19:=((58:Go.FuncId)=(58:Go.FuncId));let z18:=(Blend.modeF x.blend.toNat=Blend.modeF x.blend.toNat);let z16:=(Lpa.fcS t x (Lpa.srcX x.src) (35:Nat));let z15:=(True/\True);let z11:=(z21=z21);let z17:=(A ((42:Go.FuncId)=(42:Go.FuncId))/\(((True/\A z11)/\A z11)/\A z11)/\A z11);let z6:=(RcG.mk t x s ns st bs);let z5:=(IntKind.u8=IntKind.u8);let q5:=fun p:Int=>A z5/\A (p=p);let z4:=(IntKind.i64=IntKind.i64);let q4:=fun p:Int=>A z4/\A (p=p);let z9:=(A (x.nr=x.nr)/\∀ i:Nat,i<x.nr->((True/\q4 ((x.runs i).y))/\q4 ((x.runs i).x0))/\q4 ((x.runs i).x1));let z8:=(((True/\q4 s.y)/\q4 s.x0)/\q4 s.x1);let z1:=(A (ns=ns)/\∀ i:Nat,i<ns->((((((((True/\q5 (bs i z21))/\q5 (bs i z23))/\q5 (bs i z24))/\q5 (bs i z25))/\q5 (bs i z26))/\q5 (bs i z27))/\q5 (bs i z28))/\q5 (bs i z29))/\q5 (bs i z30));let z0:=((((((((((((((((((((((((((((((((((True/\q4 x.kind)/\A (x.nr=x.nr)/\∀ i:Nat,i<x.nr->((True/\q4 ((x.runs i).y))/\q4 ((x.runs i).x0))/\q4 ((x.runs i).x1))/\q4 x.src.kind)/\q5 x.src.ink.c0)/\q5 x.src.ink.c1)/\q5 x.src.ink.c2)/\q5 x.src.ink.c3)/\q5 x.src.ink.c4)/\q5 x.src.ink.c5)/\q5 x.src.ink.c6)/\q5 x.src.ink.c7)/\q4 x.src.fx)/\q4 x.src.fy)/\q4 x.src.tx)/\q4 x.src.ty)/\q4 x.src.rad)/\A (x.src.ns=x.src.ns)/\∀ i:Nat,let z14:=(x.src.st i); i<x.src.ns->((((((((True/\q4 z14.pos)/\q5 z14.ink.c0)/\q5 z14.ink.c1)/\q5 z14.ink.c2)/\q5 z14.ink.c3)/\q5 z14.ink.c4)/\q5 z14.ink.c5)/\q5 z14.ink.c6)/\q5 z14.ink.c7)/\q4 x.src.img.w)/\q4 x.src.img.h)/\A (x.src.img.n=x.src.img.n)/\∀ i:Nat,let z12:=(x.src.img.px i); i<x.src.img.n->(((((((True/\q5 z12.c0)/\q5 z12.c1)/\q5 z12.c2)/\q5 z12.c3)/\q5 z12.c4)/\q5 z12.c5)/\q5 z12.c6)/\q5 z12.c7)/\A (x.src.img.sn=x.src.img.sn)/\∀ i:Nat,i<x.src.img.sn->True/\q5 (x.src.img.sf i))/\q4 x.src.img.m.a)/\q4 x.src.img.m.b)/\q4 x.src.img.m.c)/\q4 x.src.img.m.d)/\q4 x.src.img.m.e)/\q4 x.src.img.m.f)/\A (x.src.img.smooth=x.src.img.smooth))/\A (x.src.img.rep=x.src.img.rep))/\q5 x.alpha)/\q4 x.blend)/\A (x.over=x.over))/\A (x.iso=x.iso))/\A (x.knock=x.knock));let z7:=(True/\((z0/\q4 z31)/\Sx.SVle [] [] z16 z16)/\A z19/\T2 (A z20/\T2 (A z18/\True)));T2 (True/\((z9/\z8/\(A ((60:Nat)=(60:Go.FuncId))/\True)/\True)/\A (Lrd.BsOK (Lrd.BsG.mk x.nr x.runs s)))/\T5 ((∃ g:Nat,A ((rcJ z6).pre g)/\True/\(z9/\z17/\A z11/\(A z4/\A ((↑(Lrd.ixB x.runs s x.nr z21):Int)=(↑g:Int)))/\True)/\z7/\z8/\z15/\z15/\(A (ns=ns)/\∀ i:Nat,i<ns->((((((((True/\A z5/\A (st i z21=z6.at g i z21))/\A z5/\A (st i z23=z6.at g i z23))/\A z5/\A (st i z24=z6.at g i z24))/\A z5/\A (st i z25=z6.at g i z25))/\A z5/\A (st i z26=z6.at g i z26))/\A z5/\A (st i z27=z6.at g i z27))/\A z5/\A (st i z28=z6.at g i z28))/\A z5/\A (st i z29=z6.at g i z29))/\A z5/\A (st i z30=z6.at g i z30))/\z1/\z8/\True)/\∀ g:Nat,let z32:=(↑g:Int);let z13:=((0:Int)<=z32/\z32<(↑x.nr:Int));let z10:=(x.runs z32.toNat);let z34:=(if s.x1<z10.x1 then s.x1 else z10.x1);let z33:=(if s.x0>z10.x0 then s.x0 else z10.x0);let z3:=(Lpa.PcG.mk z31.toNat x s ns (z6.at g) bs z33 z34);let z2:=(A (ns=ns)/\∀ i:Nat,i<ns->((((((((True/\A z5/\A (z6.at g i z21=z6.at x.nr i z21))/\A z5/\A (z6.at g i z23=z6.at x.nr i z23))/\A z5/\A (z6.at g i z24=z6.at x.nr i z24))/\A z5/\A (z6.at g i z25=z6.at x.nr i z25))/\A z5/\A (z6.at g i z26=z6.at x.nr i z26))/\A z5/\A (z6.at g i z27=z6.at x.nr i z27))/\A z5/\A (z6.at g i z28=z6.at x.nr i z28))/\A z5/\A (z6.at g i z29=z6.at x.nr i z29))/\A z5/\A (z6.at g i z30=z6.at x.nr i z30)); (rcJ z6).pre g->T5 (Sx.Br (decide (z32<(↑x.nr:Int))) (T2 (A z13/\T5 (T2 (Sx.Br (decide (z10.y=s.y)) (T2 (A z13/\T5 (True/\Sx.Br (decide (z10.x0<s.x1)) (T2 (True/\A z13/\T5 (T2 (A z13/\T5 (((True/\((A z4/\A (z33=if s.x0>z10.x0 then s.x0 else z10.x0))/\(A z4/\A (z34=if s.x1<z10.x1 then s.x1 else z10.x1))/\A z11/\A z11/\A z11/\A z11/\True)/\(True/\((z0/\A z4/\A (z31=(↑z31.toNat:Int)))/\Sx.SVle [] [] z16 z22)/\A z19/\T2 (A z20/\T2 (A z18/\True)))/\z8/\z15/\z15/\(A (ns=ns)/\∀ i:Nat,i<ns->((((((((True/\q5 (z6.at g i z21))/\q5 (z6.at g i z23))/\q5 (z6.at g i z24))/\q5 (z6.at g i z25))/\q5 (z6.at g i z26))/\q5 (z6.at g i z27))/\q5 (z6.at g i z28))/\q5 (z6.at g i z29))/\q5 (z6.at g i z30))/\z1/\True)/\A (Lpa.PcOK z3))/\True/\A ((-9223372036854775808:Int)<=z32+(1:Int)/\z32+(1:Int)<=(9223372036854775807:Int))/\True/\∃ (g':Nat),A ((rcJ z6).pre g')/\True/\((z9/\z17/\A z11/\(A z4/\A (z32+(1:Int)=(↑g':Int)))/\True)/\(True/\((z0/\A z4/\A ((↑z31.toNat:Int)=z31))/\Sx.SVle [] [] z22 z16)/\A z19/\T2 (A z20/\T2 (A z18/\True)))/\z8/\z15/\z15/\(A (ns=ns)/\∀ i:Nat,i<ns->((((((((True/\A z5/\A (z3.fin i z21=z6.at g' i z21))/\A z5/\A (z3.fin i z23=z6.at g' i z23))/\A z5/\A (z3.fin i z24=z6.at g' i z24))/\A z5/\A (z3.fin i z25=z6.at g' i z25))/\A z5/\A (z3.fin i z26=z6.at g' i z26))/\A z5/\A (z3.fin i z27=z6.at g' i z27))/\A z5/\A (z3.fin i z28=z6.at g' i z28))/\A z5/\A (z3.fin i z29=z6.at g' i z29))/\A z5/\A (z3.fin i z30=z6.at g' i z30))/\z1/\z8/\True)/\A ((rcJ z6).meas g'<(rcJ z6).meas g)))))) (T2 (z15/\z7/\z8/\z15/\z15/\z2/\z1/\True))))) (T2 (True/\z15/\z7/\z8/\z15/\z15/\z2/\z1/\True)))))) (T5 (z15/\z7/\z8/\z15/\z15/\z2/\z1/\True)))))) (by kernel_rfl) ?_
 simp only [ask_iff,br_iff,eq_self,true_and,and_true,implies_true,forall_const,decide_eq_true_eq,decide_eq_false_iff_not,ne_eq,Nat.mul_one,Nat.add_zero,Nat.zero_add]
 simp only [Int.toNat_natCast]
 have hs:SVle [] [] (fcS t x (srcX x.src) 35) (fcS t x (srcX x.src) 35):=SVle.refl [] [] (srcX_own x.src)
 refine ⟨rc_bs hg,⟨RcG.ix ⟨t,x,s,ns,st,bs⟩,⟨⟨Nat.le_refl _,rc_ix hg⟩,fun j h1 h2=>absurd h2 (Nat.not_lt.2 h1)⟩,rfl,hs,fun i hi=>all9 fun j=>(congrFun (rc_at0 hg hi) j).symm⟩,fun k hk=>?_⟩
 obtain ⟨⟨k1,k2⟩,k3⟩:=hk
 have k2:k<=x.nr:=k2
 have hl:x.nr<=4611686018427387904:=hg.vr.len
 have hn:(ns:Int)=s.x1-s.x0:=hg.n
 refine ⟨fun hlt=>?_,fun hge=>?_⟩
 ·have hlt:k<x.nr:=by omega
  refine ⟨by omega,fun hy=>⟨by omega,fun hx=>?_,fun hx=>?_⟩,fun hy=>?_⟩
  ·have hu:∀ i,i<ns->isU9 (RcG.at ⟨t,x,s,ns,st,bs⟩ k i):=fun i hi=>rc_u9 hg k hi
   have hp:PcOK ⟨t,x,s,ns,RcG.at ⟨t,x,s,ns,st,bs⟩ k,bs,if s.x0>(x.runs k).x0 then s.x0 else (x.runs k).x0,if s.x1<(x.runs k).x1 then s.x1 else (x.runs k).x1⟩:=⟨hg.fill,hg.y,hg.x0,hg.x1,hg.n,by simp only; split<;>omega,by simp only; split<;>omega,hu,hg.bs⟩
   have hstep:∀ i,i<ns->PcG.fin ⟨t,x,s,ns,RcG.at ⟨t,x,s,ns,st,bs⟩ k,bs,if s.x0>(x.runs k).x0 then s.x0 else (x.runs k).x0,if s.x1<(x.runs k).x1 then s.x1 else (x.runs k).x1⟩ i=RcG.at ⟨t,x,s,ns,st,bs⟩ (k+1) i:=fun i hi=>by
    have hst:=rc_step hg hlt hy hi rfl rfl
    unfold PcG.fin
    by_cases hc:(if s.x0>(x.runs k).x0 then s.x0 else (x.runs k).x0)<=s.x0+i/\s.x0+i<(if s.x1<(x.runs k).x1 then s.x1 else (x.runs k).x1)
    ·rw [if_pos hc]
     have h2:=hst.1 hc
     exact h2.2.symm
    ·rw [if_neg hc]
     exact (hst.2 hc).symm
   have hpre:rcPre ⟨t,x,s,ns,st,bs⟩ (k+1):=⟨⟨by omega,hlt⟩,fun j h1 h2=>by
    by_cases e:j=k
    ·subst e; exact hy
    ·exact k3 j h1 (by omega)⟩
   have hm:x.nr-(k+1)<x.nr-k:=by omega
   exact ⟨by omega,by omega,⟨⟨trivial,hs⟩,hp⟩,by omega,k+1,hpre,⟨by simp,⟨trivial,hs⟩,fun i hi=>all9 fun j=>congrFun (hstep i hi) j⟩,hm⟩
  ·exact ⟨hs,fun i hi=>all9 fun j=>congrFun (rc_end hg ⟨k1,k2⟩ hi (fun _ h=>hx h.2)) j⟩
  ·exact ⟨hs,fun i hi=>all9 fun j=>congrFun (rc_end hg ⟨k1,k2⟩ hi (fun _ h=>hy h.1)) j⟩
 ·exact ⟨hs,fun i hi=>all9 fun j=>congrFun (rc_end hg ⟨k1,k2⟩ hi (fun hc _=>hge (Int.ofNat_lt.2 hc))) j⟩
end Go.Proofs.Ythappngbapbkfaa.Lpr
set_option linter.unusedSimpArgs false
set_option linter.unusedVariables false
namespace Go.Proofs.Ythappngbapbkfaa.Lbt
open Go.RowKit Sx Num Aff Blend Ble Cmp
set_option maxRecDepth 100000
structure MixG where
 a:Nat->Int
 b:Nat->Int
 t:Int
def MixG.p (g:MixG):Int:=(255-g.t)*g.a 0
def MixG.q (g:MixG):Int:=g.t*g.b 0
def MixG.val (g:MixG) (i:Nat):Int:=nr (g.p*g.a (1+i)+g.q*g.b (1+i)) (g.p+g.q)
def MixG.al (g:MixG):Int:=nr (g.p+g.q) 255
def MixG.res (g:MixG) (j:Nat):Int:=if g.al=0 then 0 else if j=0 then g.al else g.val (j-1)
def MixG.at (g:MixG) (i:Int) (j:Nat):Int:=if j=0 then g.al else if (j:Int)<=i then g.val (j-1) else 0
def MixG.ok (g:MixG):Prop:=(isU8 g.a/\isU8 g.b)/\0<=g.t/\g.t<=255
structure MixF (g:MixG):Prop where
 p:0<=g.p/\g.p<=65025
 q:0<=g.q/\g.q<=65025
 pq:g.p+g.q<=65025
 al:0<=g.al/\g.al<=255
 t1:∀ i,0<=g.p*g.a i/\g.p*g.a i<=255*g.p
 t2:∀ i,0<=g.q*g.b i/\g.q*g.b i<=255*g.q
theorem MixG.ok.facts {g:MixG}(h:g.ok):MixF g:=by
 obtain ⟨⟨ha,hb⟩,ht,ht'⟩:=h
 have a0:=ha 0
 have b0:=hb 0
 have p1:0<=g.p:=Int.mul_nonneg (by omega) a0.1
 have p2:g.p<=(255-g.t)*255:=Int.mul_le_mul_of_nonneg_left a0.2 (by omega)
 have q1:0<=g.q:=Int.mul_nonneg ht b0.1
 have q2:g.q<=g.t*255:=Int.mul_le_mul_of_nonneg_left b0.2 ht
 refine ⟨by omega,by omega,by omega,nr_le_255 (by omega) (by omega) (by omega),fun i=>?_,fun i=>?_⟩
 ·have h1:0<=g.p*g.a i:=Int.mul_nonneg p1 (ha i).1
  have h2:g.p*g.a i<=g.p*255:=Int.mul_le_mul_of_nonneg_left (ha i).2 p1
  omega
 ·have h1:0<=g.q*g.b i:=Int.mul_nonneg q1 (hb i).1
  have h2:g.q*g.b i<=g.q*255:=Int.mul_le_mul_of_nonneg_left (hb i).2 q1
  omega
theorem MixF.sum {g:MixG}(h:MixF g) (h0:g.al≠0):1<=g.p+g.q:=by
 have:=h.p
 have:=h.q
 refine Int.not_lt.1 fun hc=>h0 ?_
 unfold MixG.al
 rw [show g.p+g.q=0 by omega]
 rfl
theorem mix_step (g:MixG) (i:Int) (hi:0<=i) (v:Int) (hv:v=g.val i.toNat) (j:Nat) :
  (bif decide (1+i.toNat<=j/\j<1+i.toNat+1) then v else g.at i j)=g.at (i+1) j:=by
 subst hv
 by_cases hj:j=1+i.toNat
 ·have hd:decide (1+i.toNat<=j/\j<1+i.toNat+1)=true:=decide_eq_true (by omega)
  rw [hd]
  have e:j-1=i.toNat:=by omega
  show g.val i.toNat=g.at (i+1) j
  unfold MixG.at
  rw [if_neg (by omega),if_pos (by omega),e]
 ·have hd:decide (1+i.toNat<=j/\j<1+i.toNat+1)=false:=decide_eq_false (by omega)
  rw [hd]
  simp only [cond_false]
  unfold MixG.at
  by_cases h0:j=0
  ·rw [if_pos h0,if_pos h0]
  ·rw [if_neg h0,if_neg h0]
   by_cases h1:(j:Int)<=i
   ·rw [if_pos h1,if_pos (by omega)]
   ·rw [if_neg h1,if_neg (by omega)]
def mixInv (g:MixG):Inv:=⟨Int,fun i=>0<=i/\i<=8,
 fun i=>⟨[(3,.own 0 0),(4,.own 1 0),(6,.own 2 0),(7,.int .i64 g.p),(8,.int .i64 g.q),(9,.own 3 0),(34,.int .i64 i)],
  [.cells 9 (fun j=> .int .u8 (g.a j)) 77,.cells 9 (fun j=> .int .u8 (g.b j)) 77,.cells 9 (fun _=> .any) 77,.cells 9 (fun j=> .int .u8 (g.at i j)) 77]⟩,
 fun i=>(8-i).toNat⟩
def spBetween:FSpec:=mkSpec 64 (γ:=MixG) (fun | [x,y,.int _ t]=>some ⟨rowOf x,rowOf y,t⟩ | _=>none) (fun g=>[u8S 9 g.a,u8S 9 g.b,.int .u8 g.t]) MixG.ok (fun g=>u8S 9 g.res)
theorem ok_between2:SpecOK Try.prog spBetween:=by
 refine spec_sound (specs:=[Aff.spNear]) (all_ok (⟨ok_near,trivial⟩)) (eqs:=eqC) (all_eq eqC_ok) Aff.mixed Try.func64 rfl (by kernel_rfl) (fun _ _=>by kernel_rfl) (fun g=>(⟨[(6,.inv (mixInv g))],[]⟩:Ann)) (fun g=>Nat.le_of_ble_eq_true (by kernel_rfl)) ?_
 intro g hg
 have hf:=hg.facts
 obtain ⟨⟨ha,hb⟩,ht,ht'⟩:=hg
 refine vc_of (B:=let K:=Sx.Br;let A:=Sx.Ask;let z25:=(255:Int);let z24:=(7:Nat);let z23:=(6:Nat);let z22:=(5:Nat);let z21:=(4:Nat);let z20:=(3:Nat);let z19:=(2:Nat);let z17:=(4611686018427387904:Int);let z16:=(8:Nat);let z15:=(((((((((True/\True)/\True)/\True)/\True)/\True)/\True)/\True)/\True)/\True);let z13:=(0:Int);let z10:=(z25-g.t);let z9:=(IntKind.i64=IntKind.i64);let q9:=fun p:Int=>A z9/\A (p=p);let z8:=(9223372036854775807:Int);let z7:=(-9223372036854775808:Int);let z6:=(1:Nat);let z2:=(0:Nat);let z26:=(z2=z2);let z12:=(z2+z2);let z11:=(nr (IntKind.u8.wrap z10*g.a z12+g.t*g.b z12) z25);let z1:=(IntKind.u8=IntKind.u8);let q1:=fun p:Int=>A z1/\A (p=p);let z4:=(((((((((True/\q1 (g.b z2))/\q1 (g.b z6))/\q1 (g.b z19))/\q1 (g.b z20))/\q1 (g.b z21))/\q1 (g.b z22))/\q1 (g.b z23))/\q1 (g.b z24))/\q1 (g.b z16));let z3:=(((((((((True/\q1 (g.a z2))/\q1 (g.a z6))/\q1 (g.a z19))/\q1 (g.a z20))/\q1 (g.a z21))/\q1 (g.a z22))/\q1 (g.a z23))/\q1 (g.a z24))/\q1 (g.a z16));True/\True/\True/\True/\A True/\A (z7<=IntKind.u8.wrap z10/\IntKind.u8.wrap z10<=z8)/\True/\True/\A (z7<=g.a z12/\g.a z12<=z8)/\A (z7<=IntKind.u8.wrap z10*g.a z12/\IntKind.u8.wrap z10*g.a z12<=z8)/\True/\A (z7<=g.t/\g.t<=z8)/\True/\True/\A (z7<=g.b z12/\g.b z12<=z8)/\A (z7<=g.t*g.b z12/\g.t*g.b z12<=z8)/\True/\True/\True/\True/\A (z7<=IntKind.u8.wrap z10*g.a z12+g.t*g.b z12/\IntKind.u8.wrap z10*g.a z12+g.t*g.b z12<=z8)/\(((q9 (IntKind.u8.wrap z10*g.a z12+g.t*g.b z12))/\(q9 z25)/\True)/\A (((-4611686018427387904:Int)<=IntKind.u8.wrap z10*g.a z12+g.t*g.b z12/\IntKind.u8.wrap z10*g.a z12+g.t*g.b z12<=z17)/\(1:Int)<=z25/\z25<=z17))/\A True/\True/\True/\True/\True/\True/\True/\K (decide (IntKind.u8.wrap z11=z13)) (True/\True/\(True/\True)/\((((((((True/\A z1/\A (IntKind.u8.wrap z11=g.res z2))/\A z1/\A (z13=g.res z6))/\A z1/\A (z13=g.res z19))/\A z1/\A (z13=g.res z20))/\A z1/\A (z13=g.res z21))/\A z1/\A (z13=g.res z22))/\A z1/\A (z13=g.res z23))/\A z1/\A (z13=g.res z24))/\A z1/\A (z13=g.res z16)) (True/\(∃ g_1:Int,A ((mixInv g).pre g_1)/\(A z26/\A z26/\A z26/\(A z9/\A (IntKind.u8.wrap z10*g.a z12=g.p))/\(A z9/\A (g.t*g.b z12=g.q))/\A z26/\(A z9/\A (z13=g_1))/\True)/\z3/\z4/\z15/\(((((((((True/\A z1/\A (IntKind.u8.wrap z11=g.at g_1 z2))/\A z1/\A (z13=g.at g_1 z6))/\A z1/\A (z13=g.at g_1 z19))/\A z1/\A (z13=g.at g_1 z20))/\A z1/\A (z13=g.at g_1 z21))/\A z1/\A (z13=g.at g_1 z22))/\A z1/\A (z13=g.at g_1 z23))/\A z1/\A (z13=g.at g_1 z24))/\A z1/\A (z13=g.at g_1 z16))/\True)/\∀ g_1:Int,let z18:=(z13<=g_1/\g_1<(↑z16:Int));let z14:=(decide (z2+z6+g_1.toNat*z6+z6<=(9:Nat)));let z0:=(z2+z6+g_1.toNat*z6);let z5:=(nr (g.p*g.a z0+g.q*g.b z0) (g.p+g.q)); (mixInv g).pre g_1->True/\K (decide (g_1<(8:Int))) (True/\True/\True/\True/\True/\True/\A z18/\K z14 True False/\A (z7<=g.a z0/\g.a z0<=z8)/\A (z7<=g.p*g.a z0/\g.p*g.a z0<=z8)/\True/\True/\True/\A z18/\K z14 True False/\A (z7<=g.b z0/\g.b z0<=z8)/\A (z7<=g.q*g.b z0/\g.q*g.b z0<=z8)/\A (z7<=g.p*g.a z0+g.q*g.b z0/\g.p*g.a z0+g.q*g.b z0<=z8)/\True/\True/\A (z7<=g.p+g.q/\g.p+g.q<=z8)/\(((q9 (g.p*g.a z0+g.q*g.b z0))/\(q9 (g.p+g.q))/\True)/\A (((-4611686018427387904:Int)<=g.p*g.a z0+g.q*g.b z0/\g.p*g.a z0+g.q*g.b z0<=z17)/\(1:Int)<=g.p+g.q/\g.p+g.q<=z17))/\A True/\True/\A z18/\K z14 True False/\A (z7<=g_1+(1:Int)/\g_1+(1:Int)<=z8)/\True/\∃ (g':Int),A ((mixInv g).pre g')/\((A z26/\A z26/\A z26/\(q9 g.p)/\(q9 g.q)/\A z26/\(A z9/\A (g_1+(1:Int)=g'))/\True)/\z3/\z4/\z15/\(((((((((True/\A z1/\A ((bif decide (z2+z6+g_1.toNat*z6<=z2/\z2<z2+z6+g_1.toNat*z6+z6) then IntKind.u8.wrap z5 else g.at g_1 z2)=g.at g' z2))/\A z1/\A ((bif decide (z2+z6+g_1.toNat*z6<=z6/\z6<z2+z6+g_1.toNat*z6+z6) then IntKind.u8.wrap z5 else g.at g_1 z6)=g.at g' z6))/\A z1/\A ((bif decide (z2+z6+g_1.toNat*z6<=z19/\z19<z2+z6+g_1.toNat*z6+z6) then IntKind.u8.wrap z5 else g.at g_1 z19)=g.at g' z19))/\A z1/\A ((bif decide (z2+z6+g_1.toNat*z6<=z20/\z20<z2+z6+g_1.toNat*z6+z6) then IntKind.u8.wrap z5 else g.at g_1 z20)=g.at g' z20))/\A z1/\A ((bif decide (z2+z6+g_1.toNat*z6<=z21/\z21<z2+z6+g_1.toNat*z6+z6) then IntKind.u8.wrap z5 else g.at g_1 z21)=g.at g' z21))/\A z1/\A ((bif decide (z2+z6+g_1.toNat*z6<=z22/\z22<z2+z6+g_1.toNat*z6+z6) then IntKind.u8.wrap z5 else g.at g_1 z22)=g.at g' z22))/\A z1/\A ((bif decide (z2+z6+g_1.toNat*z6<=z23/\z23<z2+z6+g_1.toNat*z6+z6) then IntKind.u8.wrap z5 else g.at g_1 z23)=g.at g' z23))/\A z1/\A ((bif decide (z2+z6+g_1.toNat*z6<=z24/\z24<z2+z6+g_1.toNat*z6+z6) then IntKind.u8.wrap z5 else g.at g_1 z24)=g.at g' z24))/\A z1/\A ((bif decide (z2+z6+g_1.toNat*z6<=z16/\z16<z2+z6+g_1.toNat*z6+z6) then IntKind.u8.wrap z5 else g.at g_1 z16)=g.at g' z16))/\True)/\A ((mixInv g).meas g'<(mixInv g).meas g_1)) (True/\True/\(True/\True)/\((((((((True/\A z1/\A (g.at g_1 (z2+z12)=g.res z2))/\A z1/\A (g.at g_1 (z2+(z2+z6))=g.res z6))/\A z1/\A (g.at g_1 (z2+(z2+z19))=g.res z19))/\A z1/\A (g.at g_1 (z2+(z2+z20))=g.res z20))/\A z1/\A (g.at g_1 (z2+(z2+z21))=g.res z21))/\A z1/\A (g.at g_1 (z2+(z2+z22))=g.res z22))/\A z1/\A (g.at g_1 (z2+(z2+z23))=g.res z23))/\A z1/\A (g.at g_1 (z2+(z2+z24))=g.res z24))/\A z1/\A (g.at g_1 (z2+(z2+z16))=g.res z16)))) (by kernel_rfl) ?_
 have w1:IntKind.u8.wrap (255-g.t)=255-g.t:=u8w (by omega) (by omega)
 have ep:(255-g.t)*g.a 0=g.p:=rfl
 have eq':g.t*g.b 0=g.q:=rfl
 have eal:nr (g.p+g.q) 255=g.al:=rfl
 have ev:∀ i,nr (g.p*g.a (1+i)+g.q*g.b (1+i)) (g.p+g.q)=g.val i:=fun _=>rfl
 simp only [Nat.zero_add,Nat.add_zero,Nat.mul_one,w1,ep,eq',eal,ev,u8w hf.al.1 hf.al.2]
 simp only [ask_iff,br_iff,eq_self,true_and,and_true,decide_eq_true_eq,decide_eq_false_iff_not,forall_const,ne_eq,not_true_eq_false,false_implies,implies_true]
 have f1:=hf.p
 have f2:=hf.q
 have f3:=hf.pq
 have f4:=ha 0
 have f5:=hb 0
 refine ⟨by omega,by omega,by omega,by omega,by omega,by omega,by omega,by omega,fun h0=>by simp [MixG.res,h0],fun h0=>⟨⟨(0:Int),⟨by omega,by omega⟩,rfl,by simp [MixG.at]⟩,fun i hi=>⟨fun hlt=>?_,fun hge=>?_⟩⟩⟩
 ·have g1:=hf.t1 (1+i.toNat)
  have g2:=hf.t2 (1+i.toNat)
  have g3:=hf.sum h0
  have g4:=ha (1+i.toNat)
  have g5:=hb (1+i.toNat)
  have hi':0<=i/\i<=8:=hi
  have hr:0<=g.val i.toNat/\g.val i.toNat<=255:=nr_le_255 g3 (by omega) (by omega)
  have st:=mix_step g i hi'.1 _ rfl
  simp only [u8w hr.1 hr.2,st]
  refine ⟨by omega,by omega,by omega,by omega,by omega,by omega,by omega,by omega,by omega,by omega,by omega,by omega,by omega,by omega,(i+1:Int),⟨by omega,by omega⟩,⟨rfl,by simp only [eq_self,and_self]⟩,?_⟩
  show (8-(i+1)).toNat<(8-i).toNat
  omega
 ·have hi':0<=i/\i<=8:=hi
  obtain rfl:i=8:=by omega
  simp [MixG.at,MixG.res,h0]
theorem MixG.res_u8 {g:MixG}(h:g.ok):isU8 g.res:=by
 intro j
 have f:=h.facts
 unfold MixG.res
 split
 ·exact ⟨Int.le_refl 0,by decide⟩
 ·rename_i h0
  split
  ·exact f.al
  ·have:=f.t1 (1+(j-1)); have:=f.t2 (1+(j-1))
   exact nr_le_255 (f.sum h0) (by omega) (by omega)
end Go.Proofs.Ythappngbapbkfaa.Lbt
set_option linter.unusedSimpArgs false
set_option linter.unusedVariables false
namespace Go.Proofs.Ythappngbapbkfaa.Lpn
open Go.RowKit Sx Num Aff Afi Img Imh Imp Imq Rga Blend Ble Lsg Lta Lrd Lri Luc Lck Lgr Lcs Lst Lch Lcl Lgp Lsc Cmp Lpm Lpa Lpr Lbt
inductive Nd:Type
 | fill (t:Nat) (x:It)
 | grp (t:Int) (mx:Bool) (x:It) (n:Nat) (k:Nat->Nd)
def ndT:Nd->TypeId
 | .fill _ _=>TPf
 | .grp _ _ _ _ _=>TPg
def mxS (x:It):Bool->SV
 | true=> .nilfn
 | false=>mixS x
noncomputable def ndC:Nd->Nat->SV
 | .fill t x=>fcS t x (srcX x.src)
 | .grp t mx x n k=>lst (itL x++[.int .i64 t,mxS x mx,.sl n 1 (fun a _=> .ifc (ndT (k a)) (fun _=> .ref 37 (ndC (k a))))])
theorem ndX_ex (nd:Nd):∃ f,f=ndC nd:=⟨_,rfl⟩
noncomputable def ndX (nd:Nd):Nat->SV:=Classical.choose (ndX_ex nd)
theorem ndX_eq (nd:Nd):ndX nd=ndC nd:=Classical.choose_spec (ndX_ex nd)
theorem ndC_inj:∀ {a b:Nd},ndC a=ndC b->a=b:=by
 intro a
 induction a with
 | fill t x=>
  intro b h
  cases b with
  | fill t' x'=>
   have h1:itD (fcS t x (srcX x.src))=itD (fcS t' x' (srcX x'.src)):=congrArg itD h
   have h1:x=x':=h1
   have h2:SV.int .i64 (t:Int)=SV.int .i64 (t':Int):=congrFun h 34
   injection h2 with _ h2
   rw [h1,Int.ofNat.inj h2]
  | grp t' mx' x' n' k'=>
   have h2:mixS x = .sl n' 1 (fun a _=> .ifc (ndT (k' a)) (fun _=> .ref 37 (ndC (k' a)))):=congrFun h 36
   cases h2
 | grp t mx x n k ih=>
  intro b h
  cases b with
  | fill t' x'=>
   have h2:SV.sl n 1 (fun a _=> .ifc (ndT (k a)) (fun _=> .ref 37 (ndC (k a))))=mixS x':=congrFun h 36
   cases h2
  | grp t' mx' x' n' k'=>
   have h1:x=x':=congrArg itD h
   have h2:SV.int .i64 t=SV.int .i64 t':=congrFun h 34
   injection h2 with _ h2
   have h3:mxS x mx=mxS x' mx':=congrFun h 35
   have h3:mx=mx':=by
    cases mx<;>cases mx'<;>first | rfl | cases h3
   have h4:SV.sl n 1 (fun a _=> .ifc (ndT (k a)) (fun _=> .ref 37 (ndC (k a))))=SV.sl n' 1 (fun a _=> .ifc (ndT (k' a)) (fun _=> .ref 37 (ndC (k' a)))):=congrFun h 36
   injection h4 with h5 _ h6
   have h7:k=k':=funext fun a=>by
    have h8:SV.ifc (ndT (k a)) (fun _=> .ref 37 (ndC (k a)))=SV.ifc (ndT (k' a)) (fun _=> .ref 37 (ndC (k' a))):=congrFun (congrFun h6 a) 0
    injection h8 with _ h9
    have h10:SV.ref 37 (ndC (k a))=SV.ref 37 (ndC (k' a)):=congrFun h9 0
    injection h10 with _ h11
    exact ih a h11
   rw [h1,h2,h3,h5,h7]
instance:Inhabited Nd:=⟨.fill 0 zIt⟩
theorem ndOf_ex (c:Nat->SV):∃ nd,(∃ d,ndX d=c)->ndX nd=c:=by
 by_cases h:∃ d,ndX d=c
 ·obtain ⟨d,hd⟩:=h
  exact ⟨d,fun _=>hd⟩
 ·exact ⟨default,fun h2=>absurd h2 h⟩
noncomputable def ndOf (c:Nat->SV):Nd:=Classical.choose (ndOf_ex c)
theorem ndOf_ndX (nd:Nd):ndOf (ndX nd)=nd:=by
 have h:=Classical.choose_spec (ndOf_ex (ndX nd)) ⟨nd,rfl⟩
 have h:ndX (ndOf (ndX nd))=ndX nd:=h
 exact ndC_inj ((ndX_eq _).symm.trans (h.trans (ndX_eq nd)))
def itN {α:Type}(f:Nat->α->α) (c:α):Nat->α
 | 0=>c
 | m+1=>f m (itN f c m)
def Nd.cov (cx cy:Int):Nd->Bool
 | .fill _ x=>decide (covR x.runs x.nr cx cy)
 | .grp _ _ _ n k=>(List.range n).any fun a=>(k a).cov cx cy
def covK (k:Nat->Nd) (cx cy:Int) (m:Nat):Bool:=(List.range m).any fun a=>(k a).cov cx cy
theorem covK_succ (k:Nat->Nd) (cx cy:Int) (m:Nat):covK k cx cy (m+1)=(covK k cx cy m||(k m).cov cx cy):=by
 unfold covK
 rw [List.range_succ,List.any_append]
 simp
def isoC (b inner:Cl) (x:It):Cl:=(PaintG.mk b (if mul255 (inner 0) x.alpha=0 then inkF z8 else fun j=>inner (1+j)) (mul255 (inner 0) x.alpha) (modeF x.blend.toNat) false).res
def Nd.pnt (cx cy:Int):Nd->Cl->Cl->Cl
 | .fill _ x,b,c=>if covR x.runs x.nr cx cy then fillC x cx cy b else c
 | .grp _ _ x n k,b,c=>if (List.range n).any (fun a=>(k a).cov cx cy)=true then
   (if x.iso=true then isoC b (itN (fun a st=>(k a).pnt cx cy (if x.knock=true then (fun _=>0) else st) st) (fun _=>0) n) x
    else (MixG.mk b (itN (fun a st=>(k a).pnt cx cy (if x.knock=true then b else st) st) b n) x.alpha).res) else c
def pntK (k:Nat->Nd) (kn:Bool) (cx cy:Int) (c:Cl) (m:Nat):Cl:=itN (fun a st=>(k a).pnt cx cy (if kn=true then c else st) st) c m
theorem pntK_succ (k:Nat->Nd) (kn:Bool) (cx cy:Int) (c:Cl) (m:Nat):pntK k kn cx cy c (m+1)=(k m).pnt cx cy (if kn=true then c else pntK k kn cx cy c m) (pntK k kn cx cy c m):=rfl
inductive NdOK:Nat->Nd->Prop
 | fill {d t x} (h:FillOK x) (hv:Vr x.nr x.runs):NdOK d (.fill t x)
 | grp {d t mx x n k} (hn:n<=4294967296) (hm:mx=false) (ha:0<=x.alpha/\x.alpha<=255) (hb:0<=x.blend/\x.blend<=11) (hk:∀ a,a<n->NdOK d (k a)):NdOK (d+1) (.grp t mx x n k)
theorem mxS_own (x:It) (b:Bool):noOwn (mxS x b):=by
 cases b
 ·exact mixS_own x
 ·trivial
theorem ndC_own:∀ (nd:Nd) (j:Nat),noOwn (ndC nd j):=by
 intro nd
 induction nd with
 | fill t x=>
  refine noOwn_lstL fun s hs=>?_
  rcases List.mem_append.1 hs with h1 | h1
  ·exact itL_own _ s h1
  ·simp only [List.mem_cons,List.not_mem_nil,or_false] at h1
   rcases h1 with rfl | rfl | rfl
   ·trivial
   ·exact srcX_own _
   ·exact mixS_own _
 | grp t mx x n k ih=>
  refine noOwn_lstL fun s hs=>?_
  rcases List.mem_append.1 hs with h1 | h1
  ·exact itL_own _ s h1
  ·simp only [List.mem_cons,List.not_mem_nil,or_false] at h1
   rcases h1 with rfl | rfl | rfl
   ·trivial
   ·exact mxS_own _ _
   ·exact fun a _ _ j=>ih a j
theorem ndX_own (nd:Nd) (j:Nat):noOwn (ndX nd j):=by rw [ndX_eq]; exact ndC_own nd j
theorem ndX_fill (t:Nat) (x:It):ndX (.fill t x)=fcS t x (srcX x.src):=ndX_eq _
theorem ndX_grp (t:Int) (mx:Bool) (x:It) (n:Nat) (k:Nat->Nd):ndX (.grp t mx x n k)=lst (itL x++[.int .i64 t,mxS x mx,.sl n 1 (fun a _=> .ifc (ndT (k a)) (fun _=> .ref 37 (ndX (k a))))]):=by
 rw [ndX_eq]
 have:(fun (a:Nat) (_:Nat)=>SV.ifc (ndT (k a)) (fun _=> .ref 37 (ndX (k a))))=fun a _=> .ifc (ndT (k a)) (fun _=> .ref 37 (ndC (k a))):=by
  funext a _
  rw [ndX_eq]
 rw [this]
 rfl
def Nd.n:Nd->Nat
 | .fill _ _=>0
 | .grp _ _ _ n _=>n
def Nd.k:Nd->Nat->Nd
 | .fill t x=>fun _=> .fill t x
 | .grp _ _ _ _ k=>k
def Nd.x:Nd->It
 | .fill _ x=>x
 | .grp _ _ x _ _=>x
noncomputable def kidS (n:Nat) (k:Nat->Nd):SV:= .sl n 1 (fun a _=> .ifc (ndT (k a)) (fun _=> .ref 37 (ndX (k a))))
theorem isoG_ok {b inner:Cl}{x:It}(hb:isU9 b) (hi:isU9 inner) (ha:0<=x.alpha/\x.alpha<=255) (hx:0<=x.blend/\x.blend<=11):PaintG.ok (PaintG.mk b (if mul255 (inner 0) x.alpha=0 then inkF z8 else fun j=>inner (1+j)) (mul255 (inner 0) x.alpha) (modeF x.blend.toNat) false):=by
 refine ⟨⟨hb,?_⟩,mul255_range (hi 0).1 (hi 0).2 ha.1 ha.2,x.blend.toNat,by omega,rfl⟩
 split
 ·exact inkF_u8 z8_ok
 ·exact fun j=>hi (1+j)
theorem isoC_u9 {b inner:Cl}{x:It}(hb:isU9 b) (hi:isU9 inner) (ha:0<=x.alpha/\x.alpha<=255) (hx:0<=x.blend/\x.blend<=11):isU9 (isoC b inner x):=PaintG.res_u9 (isoG_ok hb hi ha hx)
theorem zero_u9:isU9 (fun _=>0):=fun _=>⟨Int.le_refl 0,(show (0:Int)<=255 by decide)⟩
theorem itN_u9 {k:Nat->Nd}{kn:Prop} [Decidable kn] {cx cy:Int}{i0:Cl}(h0:isU9 i0) {n:Nat}(hk:∀ a,a<n->∀ b c,isU9 b->isU9 c->isU9 ((k a).pnt cx cy b c)):∀ m,m<=n->isU9 (itN (fun a st=>(k a).pnt cx cy (if kn then i0 else st) st) i0 m)
 | 0,_=>h0
 | m+1,h=>by
  have ih:=itN_u9 (kn:=kn) h0 hk m (by omega)
  refine hk m (by omega) _ _ ?_ ih
  by_cases hkn:kn
  ·rw [if_pos hkn]; exact h0
  ·rw [if_neg hkn]; exact ih
theorem pnt_u9:∀ {d:Nat}{nd:Nd},NdOK d nd->∀ {cx cy:Int},xyOK cx cy->∀ {b c:Cl},isU9 b->isU9 c->isU9 (nd.pnt cx cy b c):=by
 intro d nd h
 induction h with
 | fill h hv=>
  intro cx cy hxy b c hb hc
  unfold Nd.pnt
  split
  ·exact fillC_u9 h hxy hb
  ·exact hc
 | grp hn hm ha hx hk ih=>
  intro cx cy hxy b c hb hc
  unfold Nd.pnt
  split
  ·split
   ·exact isoC_u9 hb (itN_u9 zero_u9 (fun a h b c hb hc=>ih a h hxy hb hc) _ (Nat.le_refl _)) ha hx
   ·exact MixG.res_u8 ⟨⟨hb,itN_u9 hb (fun a h b c hb hc=>ih a h hxy hb hc) _ (Nat.le_refl _)⟩,ha⟩
  ·exact hc
theorem pntK_u9 {d:Nat}{k:Nat->Nd}{kn:Bool}{n:Nat}(hk:∀ a,a<n->NdOK d (k a)) {cx cy:Int}(hxy:xyOK cx cy) {c:Cl}(hc:isU9 c) {m:Nat}(hm:m<=n):isU9 (pntK k kn cx cy c m):=itN_u9 hc (fun a h b c hb hc=>pnt_u9 (hk a h) hxy hb hc) m hm
end Go.Proofs.Ythappngbapbkfaa.Lpn
set_option linter.unusedSimpArgs false
set_option linter.unusedVariables false
namespace Go.Proofs.Ythappngbapbkfaa.Lpc
open Go.RowKit Sx Num Aff Afi Img Imh Imp Imq Rga Blend Ble Lsg Lta Lrd Lri Luc Lck Lgr Lcs Lst Lch Lcl Lgp Lsc Cmp Lpm Lpa Lpr Lbt Lpn
set_option maxRecDepth 100000
abbrev TBl:TypeId:=4
abbrev TBs:TypeId:=126
def mkR (n:Nat) (f:Nat->Bool):SO:= .row 0 n 1 (fun i _=> .bool (f i)) TBl
def mkFD:SO->Nat->Bool
 | .row _ _ _ g _=>fun i=>boolOf (g i 0)
 | _=>fun _=>false
structure CcG where
 s:StG
 n:Nat
 mf:Nat->Bool
 a0:Int
 a1:Int
structure CcOK (g:CcG):Prop where
 x0 : -8192<=g.s.x0
 x1:g.s.x1<=8192
 n:(g.n:Int)=g.s.x1-g.s.x0
 l:g.s.x0<=g.a0
 h:g.a1<=g.s.x1
def CcG.at (g:CcG) (k:Int) (i:Nat):Bool:=g.mf i||decide (g.a0<=g.s.x0+i/\g.s.x0+i<g.a0+k)
def CcG.fin (g:CcG) (i:Nat):Bool:=g.mf i||decide (g.a0<=g.s.x0+i/\g.s.x0+i<g.a1)
theorem le_mark {c:Prop} [Decidable c] {b b':Bool}(h1:c->b'=true) (h2:¬ c->b=b'):SVle [] [] (bif decide c then .lit true else .bool b) (.bool b'):=by
 by_cases h:c
 ·rw [decide_eq_true h]
  exact ⟨(h1 h).symm⟩
 ·rw [decide_eq_false h]
  exact ⟨h2 h⟩
def ccO (s:StG) (n:Nat) (f:Nat->Bool):List SO:=[.cells 1 (lst [.osl 2 0]) TBs,.cells 3 (lst (stL s)) TRp,mkR n f]
def ccI (g:CcG):Inv:=⟨Nat,fun k=>k<=(g.a1-g.a0).toNat,fun k=>⟨[(1,.int .i64 g.a1),(2,.own 0 0),(3,.own 1 0),(6,.int .i64 (g.a0+k))],ccO g.s g.n (g.at k)⟩,fun k=>(g.a1-g.a0).toNat-k⟩
def spCc:FSpec:=mkSpecM 74 [.arg 2,.arg 3,.cell 0 0] (γ:=CcG)
 (fun | .int _ a0:: .int _ a1::_,o=>some ⟨stD (clG (o.getD 1 .dead)),rowND (o.getD 2 .dead),mkFD (o.getD 2 .dead),a0,a1⟩ | _,_=>none)
 (fun g=>[.int .i64 g.a0,.int .i64 g.a1,.own 0 0,.own 1 0]) (fun g=>ccO g.s g.n g.mf) CcOK (fun _=> .tup 0 (lst [])) (fun g=>ccO g.s g.n g.fin)
theorem ok_cc:SpecOK Try.prog spCc:=by
 refine spec_soundM (specs:=[]) (all_ok trivial) (eqs:=[]) (fun _ _ h=>(List.not_mem_nil h).elim) Aff.mixed Try.func74 rfl (by kernel_rfl) (fun _ _=>by kernel_rfl) (fun g=>(⟨[(1,.inv (ccI g))],[]⟩:Ann)) true (fun g=>Nat.le_of_ble_eq_true (by kernel_rfl)) ?_
 rintro ⟨s,n,mf,a0,a1⟩ hg
 refine vc_of (B:=let A:=Sx.Ask;let z4:=((0:Nat)=(0:Nat));let z2:=(IntKind.i64=IntKind.i64);let q2:=fun p:Int=>A z2/\A (p=p);let z1:=(CcG.mk s n mf a0 a1);let z0:=(((True/\q2 s.y)/\q2 s.x0)/\q2 s.x1);True/\True/\(∃ g:Nat,A ((ccI z1).pre g)/\True/\((q2 a1)/\A z4/\A z4/\(A z2/\A (a0=a0+(↑g:Int)))/\True)/\(True/\True)/\z0/\(A (n=n)/\∀ i:Nat,i<n->True/\A (mf i=z1.at (↑g:Int) i))/\True)/\∀ g:Nat,let z3:=(↑g:Int); (ccI z1).pre g->True/\True/\True/\Sx.Br (decide (a0+z3<a1)) (True/\True/\True/\True/\A ((-9223372036854775808:Int)<=a0+z3-s.x0/\a0+z3-s.x0<=(9223372036854775807:Int))/\A ((0:Int)<=a0+z3-s.x0/\a0+z3-s.x0<(↑n:Int))/\A ((a0+z3-s.x0).toNat<n)/\True/\A ((-9223372036854775808:Int)<=a0+z3+(1:Int)/\a0+z3+(1:Int)<=(9223372036854775807:Int))/\True/\∃ (g':Nat),A ((ccI z1).pre g')/\True/\(((q2 a1)/\A z4/\A z4/\(A z2/\A (a0+z3+(1:Int)=a0+(↑g':Int)))/\True)/\(True/\True)/\z0/\(A (n=n)/\∀ i:Nat,i<n->True/\Sx.SVle [] [] (bif decide (i=(a0+z3-s.x0).toNat/\(0:Nat)<=(0:Nat)/\(0:Nat)<(0:Nat)+(1:Nat)) then Sx.SV.lit true else Sx.SV.bool (z1.at z3 i)) (Sx.SV.bool (z1.at (↑g':Int) i)))/\True)/\A ((ccI z1).meas g'<(ccI z1).meas g)) (True/\True/\(True/\True)/\(True/\True)/\z0/\(A (n=n)/\∀ i:Nat,i<n->True/\A (z1.at z3 i=z1.fin i))/\True)) (by kernel_rfl) ?_
 simp only [ask_iff,br_iff,eq_self,true_and,and_true,implies_true,forall_const,decide_eq_true_eq,decide_eq_false_iff_not,ne_eq,Nat.mul_one,Nat.add_zero,Nat.zero_add]
 refine ⟨⟨0,Nat.zero_le _,by simp,fun i _=>by simp [CcG.at]; omega⟩,fun k hk=>⟨fun hlt=>?_,fun hge i _=>?_⟩⟩
 ·have hn:(n:Int)=s.x1-s.x0:=hg.n
  have h0 : -8192<=s.x0:=hg.x0
  have h1:s.x1<=8192:=hg.x1
  have hl:s.x0<=a0:=hg.l
  have hh:a1<=s.x1:=hg.h
  have hk:k<=(a1-a0).toNat:=hk
  have mm:k+1<=(a1-a0).toNat/\(a1-a0).toNat-(k+1)<(a1-a0).toNat-k:=by omega
  refine ⟨by omega,by omega,by omega,by omega,k+1,mm.1,⟨by omega,fun i hi=>le_mark (fun hc=>?_) (fun hc=>?_)⟩,mm.2⟩
  ·unfold CcG.at
   simp only
   rw [decide_eq_true (by omega),Bool.or_true]
  ·have hc:¬ i=(a0+k-s.x0).toNat:=fun he=>hc ⟨he,Nat.le_refl _,by decide⟩
   unfold CcG.at
   simp only
   congr 1
   exact decide_eq_decide.2 ⟨fun h=>by omega,fun h=>by omega⟩
 ·have hk:k<=(a1-a0).toNat:=hk
  unfold CcG.at CcG.fin
  simp only
  congr 1
  exact decide_eq_decide.2 ⟨fun h=>by omega,fun h=>by omega⟩
structure RvG where
 s:StG
 nr:Nat
 f:Nat->Rn
 n:Nat
 mf:Nat->Bool
structure RvOK (g:RvG):Prop where
 vr:Vr g.nr g.f
 x0 : -8192<=g.s.x0
 x1:g.s.x1<=8192
 n:(g.n:Int)=g.s.x1-g.s.x0
def RvG.ix (g:RvG):Nat:=ixB g.f g.s g.nr 0
def RvG.at (g:RvG) (m i:Nat):Bool:=g.mf i||decide (covR g.f m (g.s.x0+i) g.s.y)
theorem rv_ix {g:RvG}(h:RvOK g):g.ix<=g.nr:=by
 have:=ixB_le g.f g.s g.nr 0
 unfold RvG.ix; omega
theorem rv_at0 {g:RvG}(h:RvOK g) {i:Nat}(hi:i<g.n):g.at g.ix i=g.mf i:=by
 unfold RvG.at
 rw [decide_eq_false,Bool.or_false]
 rintro ⟨j,hj,h1,h2,h3⟩
 have hl:Bfr (g.f j) g.s:=ixB_lt g.f g.s g.nr 0 j (Nat.zero_le _) hj
 rcases hl with h4 | ⟨h4,h5⟩
 ·omega
 ·omega
theorem rv_step {g:RvG}(h:RvOK g) {k i:Nat}(hk:k<g.nr) (hy:(g.f k).y=g.s.y) (hi:i<g.n):CcG.fin ⟨g.s,g.n,g.at k,if g.s.x0>(g.f k).x0 then g.s.x0 else (g.f k).x0,if g.s.x1<(g.f k).x1 then g.s.x1 else (g.f k).x1⟩ i=g.at (k+1) i:=by
 have hn:=h.n
 unfold CcG.fin RvG.at
 rw [Bool.or_assoc]
 congr 1
 simp only
 have e:((if g.s.x0>(g.f k).x0 then g.s.x0 else (g.f k).x0)<=g.s.x0+i/\g.s.x0+i<(if g.s.x1<(g.f k).x1 then g.s.x1 else (g.f k).x1))<->((g.f k).x0<=g.s.x0+i/\g.s.x0+i<(g.f k).x1):=by
  split<;>split<;>omega
 rw [<-Bool.decide_or]
 refine decide_eq_decide.2 ?_
 rw [e,covR_succ]
 constructor
 ·rintro (h1 | h1)
  ·exact .inl h1
  ·exact .inr ⟨hy,h1⟩
 ·rintro (h1 | h1)
  ·exact .inl h1
  ·exact .inr h1.2
theorem rv_end {g:RvG}(h:RvOK g) {k i:Nat}(hk:g.ix<=k/\k<=g.nr) (hi:i<g.n) (hx:k<g.nr->¬ ((g.f k).y=g.s.y/\(g.f k).x0<g.s.x1)):g.at k i=g.at g.nr i:=by
 have hn:=h.n
 unfold RvG.at
 congr 1
 refine decide_eq_decide.2 ⟨fun ⟨j,hj,h3⟩=>⟨j,by omega,h3⟩,fun ⟨j,hj,h3,h4,h5⟩=>?_⟩
 refine Classical.byContradiction fun h2=>?_
 have hkj:k<=j:=Nat.not_lt.1 fun hc=>h2 ⟨j,hc,h3,h4,h5⟩
 have hkn:k<g.nr:=by omega
 have hnx:=hx hkn
 have hb:¬ Bfr (g.f k) g.s:=fun hc=>by
  have:=(h.vr.mono g.s).below (j:=k) hkn hc
  have:k<g.ix:=this
  omega
 unfold Bfr at hb
 by_cases e:j=k
 ·subst e
  exact hnx ⟨h3,by omega⟩
 ·rcases h.vr.far j k (by omega) hj with h6 | ⟨h6,h7⟩
  ·omega
  ·have:=h.vr.lt k hkn
   exact hnx ⟨by omega,by omega⟩
def ccF:SV:= .fn 74 2 (lst [.own 0 0,.own 1 0])
def rvPre (g:RvG) (i:Nat):Prop:=(g.ix<=i/\i<=g.nr)/\∀ j,g.ix<=j->j<i->(g.f j).y=g.s.y
def rvI (g:RvG):Inv:=⟨Nat,rvPre g,fun i=>⟨[(1,rgS ⟨g.nr,g.f⟩),(2,ccF),(3,.own 3 0),(6,.int .i64 i)],ccO g.s g.n (g.at i)++[.cells 3 (lst (stL g.s)) TRp]⟩,fun i=>g.nr-i⟩
def spRv:FSpec:=mkSpecM 41 [.part 2 0,.part 2 1,.cell 0 0] (γ:=RvG)
 (fun l o=>match l with | [_,r,_]=>some ⟨stD (clG (o.getD 1 .dead)),slLen r,rgD r,rowND (o.getD 2 .dead),mkFD (o.getD 2 .dead)⟩ | _=>none)
 (fun g=>[stS g.s,rgS ⟨g.nr,g.f⟩,ccF]) (fun g=>ccO g.s g.n g.mf) RvOK (fun _=> .tup 0 (lst [])) (fun g=>ccO g.s g.n (g.at g.nr))
theorem ok_Rv:SpecOK Try.prog spRv:=by
 refine spec_soundM (specs:=[spBs,spCc]) (all_ok (⟨ok_bs,ok_cc,trivial⟩)) (eqs:=[]) (fun _ _ h=>(List.not_mem_nil h).elim) Aff.mixed Try.func41 rfl (by kernel_rfl) (fun _ _=>by kernel_rfl) (fun g=>(⟨[(2,.inv (rvI g))],[]⟩:Ann)) true (fun g=>Nat.le_of_ble_eq_true (by kernel_rfl)) ?_
 rintro ⟨s,nr,f,n,mf⟩ hg
 refine vc_of (B:=let T5:=fun p:Prop=>True/\True/\True/\True/\True/\p;let A:=Sx.Ask;let z10:=(True/\True);let z7:=((0:Nat)=(0:Nat));let z9:=(A ((74:Go.FuncId)=(74:Go.FuncId))/\(True/\A z7)/\A z7);let z4:=(IntKind.i64=IntKind.i64);let q4:=fun p:Int=>A z4/\A (p=p);let z3:=(RvG.mk s nr f n mf);let z1:=(A (nr=nr)/\∀ i:Nat,i<nr->((True/\q4 ((f i).y))/\q4 ((f i).x0))/\q4 ((f i).x1));let z0:=(((True/\q4 s.y)/\q4 s.x0)/\q4 s.x1);True/\True/\True/\((z1/\z0/\(A ((60:Nat)=(60:Go.FuncId))/\True)/\True)/\A (Lrd.BsOK (Lrd.BsG.mk nr f s)))/\T5 ((∃ g:Nat,A ((rvI z3).pre g)/\True/\(z1/\z9/\A z7/\(A z4/\A ((↑(Lrd.ixB f s nr (0:Nat)):Int)=(↑g:Int)))/\True)/\z10/\z0/\(A (n=n)/\∀ i:Nat,i<n->True/\A (mf i=z3.at g i))/\z0/\True)/\∀ g:Nat,let z11:=(↑g:Int);let z6:=((0:Int)<=z11/\z11<(↑nr:Int));let z5:=(A (n=n)/\∀ i:Nat,i<n->True/\A (z3.at g i=z3.at nr i));let z2:=(f z11.toNat);let z13:=(if s.x1<z2.x1 then s.x1 else z2.x1);let z12:=(if s.x0>z2.x0 then s.x0 else z2.x0);let z8:=(CcG.mk s n (z3.at g) z12 z13); (rvI z3).pre g->T5 (Sx.Br (decide (z11<(↑nr:Int))) (True/\True/\A z6/\T5 (True/\True/\Sx.Br (decide (z2.y=s.y)) (True/\True/\A z6/\T5 (True/\Sx.Br (decide (z2.x0<s.x1)) (True/\True/\True/\A z6/\T5 (True/\True/\A z6/\T5 (((True/\((A z4/\A (z12=if s.x0>z2.x0 then s.x0 else z2.x0))/\(A z4/\A (z13=if s.x1<z2.x1 then s.x1 else z2.x1))/\A z7/\A z7/\True)/\z10/\z0/\(A (n=n)/\∀ i:Nat,i<n->True/\A (z3.at g i=z3.at g i))/\True)/\A (CcOK z8))/\True/\A ((-9223372036854775808:Int)<=z11+(1:Int)/\z11+(1:Int)<=(9223372036854775807:Int))/\True/\∃ (g':Nat),A ((rvI z3).pre g')/\True/\((z1/\z9/\A z7/\(A z4/\A (z11+(1:Int)=(↑g':Int)))/\True)/\z10/\z0/\(A (n=n)/\∀ i:Nat,i<n->True/\A (z8.fin i=z3.at g' i))/\z0/\True)/\A ((rvI z3).meas g'<(rvI z3).meas g)))) (True/\True/\z10/\z10/\z0/\z5/\True))) (True/\True/\True/\z10/\z10/\z0/\z5/\True))) (T5 (z10/\z10/\z0/\z5/\True))))) (by kernel_rfl) ?_
 simp only [ask_iff,br_iff,eq_self,true_and,and_true,implies_true,forall_const,decide_eq_true_eq,decide_eq_false_iff_not,ne_eq,Nat.mul_one,Nat.add_zero,Nat.zero_add]
 simp only [Int.toNat_natCast]
 have hl:nr<=4611686018427387904:=hg.vr.len
 have hn:(n:Int)=s.x1-s.x0:=hg.n
 refine ⟨hg.vr.mono s,⟨RvG.ix ⟨s,nr,f,n,mf⟩,⟨⟨Nat.le_refl _,rv_ix hg⟩,fun j h1 h2=>absurd h2 (Nat.not_lt.2 h1)⟩,rfl,fun i hi=>(rv_at0 hg hi).symm⟩,fun k hk=>?_⟩
 obtain ⟨⟨k1,k2⟩,k3⟩:=hk
 have k2:k<=nr:=k2
 refine ⟨fun hlt=>?_,fun hge=>?_⟩
 ·have hlt:k<nr:=by omega
  refine ⟨by omega,fun hy=>⟨by omega,fun hx=>?_,fun hx=>?_⟩,fun hy=>?_⟩
  ·have hp:CcOK ⟨s,n,RvG.at ⟨s,nr,f,n,mf⟩ k,if s.x0>(f k).x0 then s.x0 else (f k).x0,if s.x1<(f k).x1 then s.x1 else (f k).x1⟩:=⟨hg.x0,hg.x1,hg.n,by simp only; split<;>omega,by simp only; split<;>omega⟩
   refine ⟨by omega,by omega,hp,by omega,k+1,⟨⟨by omega,hlt⟩,fun j h1 h2=>?_⟩,⟨by simp,fun i hi=>rv_step hg hlt hy hi⟩,(show nr-(k+1)<nr-k by omega)⟩
   by_cases e:j=k
   ·subst e; exact hy
   ·exact k3 j h1 (by omega)
  ·exact fun i hi=>rv_end hg ⟨k1,k2⟩ hi (fun _ h=>hx h.2)
  ·exact fun i hi=>rv_end hg ⟨k1,k2⟩ hi (fun _ h=>hy h.1)
 ·exact fun i hi=>rv_end hg ⟨k1,k2⟩ hi (fun hc _=>hge (Int.ofNat_lt.2 hc))
def refGD:SV->Nat->SV
 | .ref _ g=>g
 | _=>fun _=> .any
structure CvG where
 s:StG
 c:Nat->SV
 nd:Nd
 n:Nat
 mf:Nat->Bool
structure CvOK (d:Nat) (g:CvG):Prop where
 c:g.c=ndX g.nd
 nd:NdOK d g.nd
 x0 : -8192<=g.s.x0
 x1:g.s.x1<=8192
 n:(g.n:Int)=g.s.x1-g.s.x0
def CvG.at (g:CvG) (m i:Nat):Bool:=g.mf i||covK g.nd.k (g.s.x0+i) g.s.y m
def CvG.fin (g:CvG) (i:Nat):Bool:=g.mf i||g.nd.cov (g.s.x0+i) g.s.y
noncomputable def cvI (g:CvG):Inv:=⟨Nat,fun i=>i<=g.nd.n,fun i=>⟨[(3,.own 1 0),(5,.own 2 0),(28,kidS g.nd.n g.nd.k),(29,.int .i64 g.nd.n),(30,.int .i64 i)],[mkR g.n (g.at i),.cells 3 (lst (stL g.s)) TRp,.cells 1 (lst [.osl 0 0]) TBs]⟩,fun i=>g.nd.n-i⟩
noncomputable def spCv (d:Nat):FSpec:=mkSpecM 62 [.arg 2] (γ:=CvG)
 (fun l o=>match l with | [.agg _ s,.ifc _ h,_]=>some ⟨stD s,refGD (h 0),ndOf (refGD (h 0)),rowND (o.getD 0 .dead),mkFD (o.getD 0 .dead)⟩ | _=>none)
 (fun g=>[stS g.s,.ifc (ndT g.nd) (fun _=> .ref 37 g.c),.osl 0 0]) (fun g=>[mkR g.n g.mf]) (CvOK d) (fun _=> .tup 0 (lst [])) (fun g=>[mkR g.n g.fin])
theorem ok_cv:∀ d,SpecOK Try.prog (spCv d):=by
 intro d
 induction d with
 | zero=>
  refine spec_soundM (specs:=[spRv]) (all_ok (⟨ok_Rv,trivial⟩)) (eqs:=[]) (fun _ _ h=>(List.not_mem_nil h).elim) Aff.mixed Try.func62 rfl (by kernel_rfl) (fun _ _=>by kernel_rfl) (fun g=>A0) true (fun g=>Nat.le_of_ble_eq_true (by kernel_rfl)) ?_
  rintro ⟨s,c,nd,n,mf⟩ hg
  have hc:c=ndX nd:=hg.c
  cases hg.nd with
  | fill h hv=>
   rename_i t x
   rw [ndX_fill] at hc
   subst hc
   refine vc_of (B:=let A:=Sx.Ask;let z0:=(IntKind.i64=IntKind.i64);let q0:=fun p:Int=>A z0/\A (p=p);let z1:=(((True/\q0 s.y)/\q0 s.x0)/\q0 s.x1);True/\True/\True/\True/\True/\True/\True/\True/\True/\True/\True/\True/\True/\True/\((True/\(z1/\(A (x.nr=x.nr)/\∀ i:Nat,i<x.nr->((True/\q0 ((x.runs i).y))/\q0 ((x.runs i).x0))/\q0 ((x.runs i).x1))/\(A ((74:Nat)=(74:Go.FuncId))/\(True/\A ((0:Nat)=(0:Nat)))/\A ((0:Nat)=(0:Nat)))/\True)/\(True/\True)/\z1/\(A (n=n)/\∀ i:Nat,i<n->True/\A (mf i=mf i))/\True)/\A (RvOK (RvG.mk s x.nr x.runs n mf)))/\True/\True/\(True/\True)/\(A (n=n)/\∀ i:Nat,i<n->True/\A ((RvG.mk s x.nr x.runs n mf).at x.nr i=(CvG.mk s (Lpa.fcS t x (Lpa.srcX x.src)) (Lpn.Nd.fill t x) n mf).fin i))/\True) (by kernel_rfl) ?_
   simp only [ask_iff,br_iff,eq_self,true_and,and_true,implies_true,forall_const,decide_eq_true_eq,decide_eq_false_iff_not,ne_eq,Nat.mul_one,Nat.add_zero,Nat.zero_add]
   exact ⟨⟨hv,hg.x0,hg.x1,hg.n⟩,fun i _=>rfl⟩
 | succ d ih=>
  refine spec_soundM (specs:=[spRv,spCv d]) (all_ok (⟨ok_Rv,ih,trivial⟩)) (eqs:=[]) (fun _ _ h=>(List.not_mem_nil h).elim) Aff.mixed Try.func62 rfl (by kernel_rfl) (fun _ _=>by kernel_rfl) (fun g=>(⟨[(8,.inv (cvI g))],[]⟩:Ann)) true (fun g=>Nat.le_of_ble_eq_true (by kernel_rfl)) ?_
  rintro ⟨s,c,nd,n,mf⟩ hg
  have hc:c=ndX nd:=hg.c
  cases hg.nd with
  | fill h hv=>
   rename_i t x
   rw [ndX_fill] at hc
   subst hc
   refine vc_of (B:=let A:=Sx.Ask;let z0:=(IntKind.i64=IntKind.i64);let q0:=fun p:Int=>A z0/\A (p=p);let z1:=(((True/\q0 s.y)/\q0 s.x0)/\q0 s.x1);True/\True/\True/\True/\True/\True/\True/\True/\True/\True/\True/\True/\True/\True/\((True/\(z1/\(A (x.nr=x.nr)/\∀ i:Nat,i<x.nr->((True/\q0 ((x.runs i).y))/\q0 ((x.runs i).x0))/\q0 ((x.runs i).x1))/\(A ((74:Nat)=(74:Go.FuncId))/\(True/\A ((0:Nat)=(0:Nat)))/\A ((0:Nat)=(0:Nat)))/\True)/\(True/\True)/\z1/\(A (n=n)/\∀ i:Nat,i<n->True/\A (mf i=mf i))/\True)/\A (RvOK (RvG.mk s x.nr x.runs n mf)))/\True/\True/\(True/\True)/\(A (n=n)/\∀ i:Nat,i<n->True/\A ((RvG.mk s x.nr x.runs n mf).at x.nr i=(CvG.mk s (Lpa.fcS t x (Lpa.srcX x.src)) (Lpn.Nd.fill t x) n mf).fin i))/\True) (by kernel_rfl) ?_
   simp only [ask_iff,br_iff,eq_self,true_and,and_true,implies_true,forall_const,decide_eq_true_eq,decide_eq_false_iff_not,ne_eq,Nat.mul_one,Nat.add_zero,Nat.zero_add]
   exact ⟨⟨hv,hg.x0,hg.x1,hg.n⟩,fun i _=>rfl⟩
  | grp hn hm ha hb hk=>
   rename_i t mx x m k
   rw [ndX_grp] at hc
   subst hc
   refine vc_of (B:=let V:=fun p:Sx.SV=>Sx.SVle [] [] p p;let K:=IntKind.i64;let A:=Sx.Ask;let z5:=(0:Nat);let z4:=(K=K);let q4:=fun p:Int=>A z4/\A (p=p);let z3:=(((True/\q4 s.y)/\q4 s.x0)/\q4 s.x1);let z0:=(Lpn.Nd.grp t mx x m k);let z7:=(↑z0.n:Int);let z1:=(CvG.mk s (Sx.lst (Lsg.itL x++[Sx.SV.int K t,Lpn.mxS x mx,Sx.SV.sl m (1:Nat) fun (a x:Nat)=>Sx.SV.ifc (Lpn.ndT (k a)) fun (x:Nat)=>Sx.SV.ref (37:Nat) (Lpn.ndX (k a))])) z0 n mf);True/\True/\True/\True/\True/\True/\True/\True/\True/\True/\True/\True/\True/\True/\True/\True/\(∃ g:Nat,A ((cvI z1).pre g)/\True/\(A (z5=z5)/\A (z5=z5)/\(A (m=z0.n)/\∀ i:Nat,i<z0.n->True/\A (Lpn.ndT (k i)=Lpn.ndT (z0.k i))/\((((((((((((((((((((((((((((((((((((True/\Sx.SVle [] [] (Lpn.ndX (k i) z5) (Lpn.ndX (z0.k i) z5))/\Sx.SVle [] [] (Lpn.ndX (k i) (1:Nat)) (Lpn.ndX (z0.k i) (1:Nat)))/\Sx.SVle [] [] (Lpn.ndX (k i) (2:Nat)) (Lpn.ndX (z0.k i) (2:Nat)))/\Sx.SVle [] [] (Lpn.ndX (k i) (3:Nat)) (Lpn.ndX (z0.k i) (3:Nat)))/\Sx.SVle [] [] (Lpn.ndX (k i) (4:Nat)) (Lpn.ndX (z0.k i) (4:Nat)))/\Sx.SVle [] [] (Lpn.ndX (k i) (5:Nat)) (Lpn.ndX (z0.k i) (5:Nat)))/\Sx.SVle [] [] (Lpn.ndX (k i) (6:Nat)) (Lpn.ndX (z0.k i) (6:Nat)))/\Sx.SVle [] [] (Lpn.ndX (k i) (7:Nat)) (Lpn.ndX (z0.k i) (7:Nat)))/\Sx.SVle [] [] (Lpn.ndX (k i) (8:Nat)) (Lpn.ndX (z0.k i) (8:Nat)))/\Sx.SVle [] [] (Lpn.ndX (k i) (9:Nat)) (Lpn.ndX (z0.k i) (9:Nat)))/\Sx.SVle [] [] (Lpn.ndX (k i) (10:Nat)) (Lpn.ndX (z0.k i) (10:Nat)))/\Sx.SVle [] [] (Lpn.ndX (k i) (11:Nat)) (Lpn.ndX (z0.k i) (11:Nat)))/\Sx.SVle [] [] (Lpn.ndX (k i) (12:Nat)) (Lpn.ndX (z0.k i) (12:Nat)))/\Sx.SVle [] [] (Lpn.ndX (k i) (13:Nat)) (Lpn.ndX (z0.k i) (13:Nat)))/\Sx.SVle [] [] (Lpn.ndX (k i) (14:Nat)) (Lpn.ndX (z0.k i) (14:Nat)))/\Sx.SVle [] [] (Lpn.ndX (k i) (15:Nat)) (Lpn.ndX (z0.k i) (15:Nat)))/\Sx.SVle [] [] (Lpn.ndX (k i) (16:Nat)) (Lpn.ndX (z0.k i) (16:Nat)))/\Sx.SVle [] [] (Lpn.ndX (k i) (17:Nat)) (Lpn.ndX (z0.k i) (17:Nat)))/\Sx.SVle [] [] (Lpn.ndX (k i) (18:Nat)) (Lpn.ndX (z0.k i) (18:Nat)))/\Sx.SVle [] [] (Lpn.ndX (k i) (19:Nat)) (Lpn.ndX (z0.k i) (19:Nat)))/\Sx.SVle [] [] (Lpn.ndX (k i) (20:Nat)) (Lpn.ndX (z0.k i) (20:Nat)))/\Sx.SVle [] [] (Lpn.ndX (k i) (21:Nat)) (Lpn.ndX (z0.k i) (21:Nat)))/\Sx.SVle [] [] (Lpn.ndX (k i) (22:Nat)) (Lpn.ndX (z0.k i) (22:Nat)))/\Sx.SVle [] [] (Lpn.ndX (k i) (23:Nat)) (Lpn.ndX (z0.k i) (23:Nat)))/\Sx.SVle [] [] (Lpn.ndX (k i) (24:Nat)) (Lpn.ndX (z0.k i) (24:Nat)))/\Sx.SVle [] [] (Lpn.ndX (k i) (25:Nat)) (Lpn.ndX (z0.k i) (25:Nat)))/\Sx.SVle [] [] (Lpn.ndX (k i) (26:Nat)) (Lpn.ndX (z0.k i) (26:Nat)))/\Sx.SVle [] [] (Lpn.ndX (k i) (27:Nat)) (Lpn.ndX (z0.k i) (27:Nat)))/\Sx.SVle [] [] (Lpn.ndX (k i) (28:Nat)) (Lpn.ndX (z0.k i) (28:Nat)))/\Sx.SVle [] [] (Lpn.ndX (k i) (29:Nat)) (Lpn.ndX (z0.k i) (29:Nat)))/\Sx.SVle [] [] (Lpn.ndX (k i) (30:Nat)) (Lpn.ndX (z0.k i) (30:Nat)))/\Sx.SVle [] [] (Lpn.ndX (k i) (31:Nat)) (Lpn.ndX (z0.k i) (31:Nat)))/\Sx.SVle [] [] (Lpn.ndX (k i) (32:Nat)) (Lpn.ndX (z0.k i) (32:Nat)))/\Sx.SVle [] [] (Lpn.ndX (k i) (33:Nat)) (Lpn.ndX (z0.k i) (33:Nat)))/\Sx.SVle [] [] (Lpn.ndX (k i) (34:Nat)) (Lpn.ndX (z0.k i) (34:Nat)))/\Sx.SVle [] [] (Lpn.ndX (k i) (35:Nat)) (Lpn.ndX (z0.k i) (35:Nat)))/\Sx.SVle [] [] (Lpn.ndX (k i) (36:Nat)) (Lpn.ndX (z0.k i) (36:Nat)))/\(A z4/\A ((↑m:Int)=z7))/\(A z4/\A ((0:Int)=(↑g:Int)))/\True)/\(A (n=n)/\∀ i:Nat,i<n->True/\A (mf i=z1.at g i))/\z3/\(True/\True)/\True)/\∀ g:Nat,let z8:=(↑g:Int);let z2:=(z0.k z8.toNat);let z6:=(CvG.mk s (Lpn.ndX z2) (Lpn.ndOf (Lpn.ndX z2)) n (z1.at g)); (cvI z1).pre g->True/\Sx.Br (decide (z8<z7)) (A ((0:Int)<=z8/\z8<z7)/\True/\True/\True/\True/\True/\((True/\(z3/\(A (Lpn.ndT z2=Lpn.ndT (Lpn.ndOf (Lpn.ndX z2)))/\((((((((((((((((((((((((((((((((((((True/\V (Lpn.ndX z2 0))/\V (Lpn.ndX z2 (1:Nat)))/\V (Lpn.ndX z2 (2:Nat)))/\V (Lpn.ndX z2 (3:Nat)))/\V (Lpn.ndX z2 (4:Nat)))/\V (Lpn.ndX z2 (5:Nat)))/\V (Lpn.ndX z2 (6:Nat)))/\V (Lpn.ndX z2 (7:Nat)))/\V (Lpn.ndX z2 (8:Nat)))/\V (Lpn.ndX z2 (9:Nat)))/\V (Lpn.ndX z2 (10:Nat)))/\V (Lpn.ndX z2 (11:Nat)))/\V (Lpn.ndX z2 (12:Nat)))/\V (Lpn.ndX z2 (13:Nat)))/\V (Lpn.ndX z2 (14:Nat)))/\V (Lpn.ndX z2 (15:Nat)))/\V (Lpn.ndX z2 (16:Nat)))/\V (Lpn.ndX z2 (17:Nat)))/\V (Lpn.ndX z2 (18:Nat)))/\V (Lpn.ndX z2 (19:Nat)))/\V (Lpn.ndX z2 (20:Nat)))/\V (Lpn.ndX z2 (21:Nat)))/\V (Lpn.ndX z2 (22:Nat)))/\V (Lpn.ndX z2 (23:Nat)))/\V (Lpn.ndX z2 (24:Nat)))/\V (Lpn.ndX z2 (25:Nat)))/\V (Lpn.ndX z2 (26:Nat)))/\V (Lpn.ndX z2 (27:Nat)))/\V (Lpn.ndX z2 (28:Nat)))/\V (Lpn.ndX z2 (29:Nat)))/\V (Lpn.ndX z2 (30:Nat)))/\V (Lpn.ndX z2 (31:Nat)))/\V (Lpn.ndX z2 (32:Nat)))/\V (Lpn.ndX z2 (33:Nat)))/\V (Lpn.ndX z2 (34:Nat)))/\V (Lpn.ndX z2 (35:Nat)))/\V (Lpn.ndX z2 (36:Nat)))/\True/\True)/\(A (n=n)/\∀ i:Nat,i<n->True/\A (z1.at g i=z1.at g i))/\True)/\A (CvOK d z6))/\A ((-9223372036854775808:Int)<=z8+(1:Int)/\z8+(1:Int)<=(9223372036854775807:Int))/\True/\∃ (g':Nat),A ((cvI z1).pre g')/\True/\((A (z5=z5)/\A (z5=z5)/\(A (z0.n=z0.n)/\∀ i:Nat,i<z0.n->True/\A (Lpn.ndT (z0.k i)=Lpn.ndT (z0.k i))/\((((((((((((((((((((((((((((((((((((True/\V (Lpn.ndX (z0.k i) 0))/\V (Lpn.ndX (z0.k i) (1:Nat)))/\V (Lpn.ndX (z0.k i) (2:Nat)))/\V (Lpn.ndX (z0.k i) (3:Nat)))/\V (Lpn.ndX (z0.k i) (4:Nat)))/\V (Lpn.ndX (z0.k i) (5:Nat)))/\V (Lpn.ndX (z0.k i) (6:Nat)))/\V (Lpn.ndX (z0.k i) (7:Nat)))/\V (Lpn.ndX (z0.k i) (8:Nat)))/\V (Lpn.ndX (z0.k i) (9:Nat)))/\V (Lpn.ndX (z0.k i) (10:Nat)))/\V (Lpn.ndX (z0.k i) (11:Nat)))/\V (Lpn.ndX (z0.k i) (12:Nat)))/\V (Lpn.ndX (z0.k i) (13:Nat)))/\V (Lpn.ndX (z0.k i) (14:Nat)))/\V (Lpn.ndX (z0.k i) (15:Nat)))/\V (Lpn.ndX (z0.k i) (16:Nat)))/\V (Lpn.ndX (z0.k i) (17:Nat)))/\V (Lpn.ndX (z0.k i) (18:Nat)))/\V (Lpn.ndX (z0.k i) (19:Nat)))/\V (Lpn.ndX (z0.k i) (20:Nat)))/\V (Lpn.ndX (z0.k i) (21:Nat)))/\V (Lpn.ndX (z0.k i) (22:Nat)))/\V (Lpn.ndX (z0.k i) (23:Nat)))/\V (Lpn.ndX (z0.k i) (24:Nat)))/\V (Lpn.ndX (z0.k i) (25:Nat)))/\V (Lpn.ndX (z0.k i) (26:Nat)))/\V (Lpn.ndX (z0.k i) (27:Nat)))/\V (Lpn.ndX (z0.k i) (28:Nat)))/\V (Lpn.ndX (z0.k i) (29:Nat)))/\V (Lpn.ndX (z0.k i) (30:Nat)))/\V (Lpn.ndX (z0.k i) (31:Nat)))/\V (Lpn.ndX (z0.k i) (32:Nat)))/\V (Lpn.ndX (z0.k i) (33:Nat)))/\V (Lpn.ndX (z0.k i) (34:Nat)))/\V (Lpn.ndX (z0.k i) (35:Nat)))/\V (Lpn.ndX (z0.k i) (36:Nat)))/\(q4 z7)/\(A z4/\A (z8+(1:Int)=(↑g':Int)))/\True)/\(A (n=n)/\∀ i:Nat,i<n->True/\A (z6.fin i=z1.at g' i))/\z3/\(True/\True)/\True)/\A ((cvI z1).meas g'<(cvI z1).meas g)) (True/\True/\(True/\True)/\(A (n=n)/\∀ i:Nat,i<n->True/\A (z1.at g i=z1.fin i))/\True)) (by kernel_rfl) ?_
   simp only [ask_iff,br_iff,eq_self,true_and,and_true,implies_true,forall_const,decide_eq_true_eq,decide_eq_false_iff_not,ne_eq,Nat.mul_one,Nat.add_zero,Nat.zero_add]
   have hs:∀ nd j,SVle [] [] (ndX nd j) (ndX nd j)=True:=fun nd j=>eq_true (SVle.refl [] [] (ndX_own nd j))
   simp only [Nd.n,Nd.k,ndOf_ndX,hs,Int.toNat_natCast,and_self,and_true,true_and,implies_true]
   refine ⟨⟨0,Nat.zero_le _,rfl,fun i _=>by simp [CvG.at,covK]⟩,fun q hq=>?_⟩
   have hq:q<=m:=hq
   refine ⟨fun hlt=>⟨by omega,⟨rfl,hk q (by omega),hg.x0,hg.x1,hg.n⟩,by omega,q+1,(show q+1<=m by omega),⟨by simp,fun i _=>?_⟩,(show m-(q+1)<m-q by omega)⟩,fun hge i _=>?_⟩
   ·show ((mf i||covK k (s.x0+i) s.y q)||(k q).cov (s.x0+i) s.y)=(mf i||covK k (s.x0+i) s.y (q+1))
    rw [covK_succ,Bool.or_assoc]
   ·have:q=m:=by omega
    subst this
    rfl
end Go.Proofs.Ythappngbapbkfaa.Lpc
namespace Go.Proofs.Ythappngbapbkfaa.Sx
open Go.RowKit
def flatS:SV->Prop
 | .int ..=>True
 | .bool _=>True
 | .lit _=>True
 | .str _=>True
 | _=>False
theorem flat_any {w w' X X' E E' sv v} (hf:flatS sv) (h:R w X E sv v):R w' X' E' sv v:=by
 cases h<;>first | exact hf.elim | constructor
def flatRow:SO->Prop
 | .row _ len n g _=>∀ i j,i<len->j<n->flatS (g i j)
 | _=>False
theorem Rep.hide {X:Nat->Prop}{w w':World}{row:SO}{E:Env}(h:Rep w (Fr.of fun _=>False) [row] E w') (hx:∀ b,X b->b<w.heap.size) (hf:flatRow row):Rep w (Fr.of X) [row] E w':=by
 refine ⟨h.below,fun b hb=>⟨hx b hb,id⟩,h.nm,h.dom,fun k e he=>?_,h.low,h.inj⟩
 have hk:k=0:=by have:=h.dom k e he; simpa using this
 subst hk
 have hok:=h.ok 0 e he
 have hrow:[row].getD 0 SO.dead=row:=rfl
 rw [hrow] at hok ⊢
 cases row<;>simp only [flatRow] at hf
 rename_i ver len n g T
 cases e with
 | blk b=>exact hok
 | slc ver' v us=>
  obtain ⟨h1,xs,h2,h3⟩:=hok
  exact ⟨h1,xs,h2,fun i j hi hj=>⟨(h3 i j hi hj).1,flat_any (hf i j hi hj) (h3 i j hi hj).2⟩⟩
def lendN (f:FuncId) {γ:Type}(dec:List SV->Option γ) (args:γ->List SV) (pre:γ->Prop) (row:γ->SO):FSpec:=
 { f:=f,eff:=false,run:=fun l H nm=>match peekAll H l with
   | some l'=>match dec l' with
     | some g=>some ⟨mkSpec.leArgs l' (args g)/\Ask (pre g),big [.dead] [nm] (.osl 0 0),.new (bigO [.dead] [nm] 0 (row g))⟩
     | none=>none
   | none=>none }
theorem spec_soundNL {P:Program}{specs:List FSpec}(hspecs:∀ s∈specs,SpecOK P s) {eqs:List (TypeId×List CK)}(heqs:∀ t n,(t,n)∈eqs->EqOK P t n) (hm:P.follows .mixedOrders=true)
  {f:FuncId}{fn:Func}{body:Code}(hf:P.funcs[f]?=some fn) (hb:fn.body=some body) (_:codeB (effS specs) body=true) (hent:∀ args w,(callFunc f args).run P w = .ok (.enter f args) w)
  {γ:Type}{dec:List SV->Option γ}{args:γ->List SV}{pre:γ->Prop}{row:γ->SO}(A:γ->Ann) (k:γ->Nat) (hlen:∀ g,(args g).length<=fn.ntmps) (hflat:∀ g,flatRow (row g))
  (h:∀ g,pre g->vc P specs eqs fn.ntmps 0 false (A g) body (retN P fn (k g) (.osl 0 0) (row g)) ⟨argsT 0 (args g),[]⟩):SpecOK P (lendN f dec args pre row):=by
 refine ⟨hent,fun l H HF nm y he _ hrun=>?_,fun l H nm y hrun hp w0 X0 E w hrep hfree vals ha=>?_⟩
 ·simp only [lendN] at hrun ⊢
  split at hrun
  case h_2=>cases hrun
  rename_i l' hl'
  rw [peekAll_ext he hl']
  exact hrun
 simp only [lendN] at hrun
 split at hrun
 case h_2=>cases hrun
 rename_i l' hl'
 split at hrun
 case h_2=>cases hrun
 rename_i g hdec
 cases hrun
 obtain ⟨hle,⟨hpre⟩⟩:=hp
 obtain ⟨hll,hle⟩:=leArgs_get hle
 obtain ⟨p1,p2⟩:=peekAll_sound hrep hl'
 have hr:∀ i,i<l'.length->R w (fun _=>False) E0 (l'.getD i .any) (vals.getD i undef):=fun i hi=>p2 i _ (by omega) (ha.2 i (by omega))
 have hsz:=ha.1
 have hxo:Xo (Fr.of fun _=>False) E0 []=fun _=>False:=by
  funext b
  apply propext
  exact ⟨fun hb=>hb.elim id (fun ⟨k,e,he,_⟩=>(nomatch he)),fun hb=>hb.elim⟩
 have hT:=argsT_look fn.ntmps vals (args g) w (fun _=>False) E0 (by omega) (hlen g) (fun i hi=>pureR (fun _ hb=>hb) (hle i hi) (hr i (by omega)))
 refine calls_of_vc (w0:=w) (X0:=Fr.of fun _=>False) (G:=vcResN P fn (k g) (.osl 0 0) (row g)) hf hb (vc_sound (w0:=w) (X0:=Fr.of fun _=>False) hspecs heqs hm body (.inl rfl) (fun _=>rfl) (fun k hk=>absurd rfl hk) _ _ _ _ (h g hpre) (fun e s a w' hk hs=>?walk) _ w ?start) (fun s a w' hk _ hs=>?fin)
 case walk=>
  cases e with
  | normal=>exact ⟨s,hk,hs⟩
  | ret=>exact ⟨s,hk,hs⟩
  | exit id=>exact hk.elim
 case fin=>
   obtain ⟨E1,hrep1,htr⟩:=hs
   unfold vcResN at hk
   split at hk
   case h_2=>exact hk.elim
   rename_i p l hres
   obtain ⟨hp,hk⟩:=hk
   obtain ⟨v,hv1,hv2⟩:=results_sound rfl hrep1 htr hres hp
   split at hk
   case h_2=>exact hk.elim
   rename_i hal
   have hal':(objsAt s.H [k g]).all aliveB=true:=by simp only [objsAt,List.map_cons,List.map_nil,List.all_cons,hal,List.all_nil,Bool.and_self]
   obtain ⟨p1,p2⟩:=hrep1.pick (ks:=[k g]) rfl hal'
   obtain ⟨p3,p4⟩:=p1.le (m:=0) hk.2 (fun k hk=>absurd rfl hk) (by simp [NmLe,Nat.ble_eq_true_of_le (Nat.zero_le _)])
   have hsv:=SVle_sound p4 (fun k ver v us he ver' hr=>EIok_ver (p1.ok k _ he) hr) (tmpLe_get hk.1 0) (R_sml p2 (hrep1.verOK hal') hv2)
   have p5:=p3.hide (X:=Xo X0 E H) (fun b hb=>hrep.xlt b hb) (hflat g)
   refine ⟨v,hv1,v,rfl,Goes.of_new hrep hfree p5 ?_⟩
   cases hsv with
   | osl he hv=>exact .osl he hv
   | oslOld he hl hv=>exact .oslOld he hl hv
 case start=>
  refine ⟨E0,⟨Bel.refl _ _,fun b hb=>hb.elim,fun k e he=>(nomatch he),fun k e he=>(nomatch he),fun k e he=>(nomatch he),fun k e b he=>(nomatch he),fun k k' e e' b he=>(nomatch he)⟩,hT.1,DefOK.nil _ _ _,fun t ht=>?_⟩
  rw [hxo]
  exact hT.2 t ht
theorem withHoles_mk {os:List SO}{ps:List NP}{a:Prop}(h:a) (h2:holesO os ps):withHoles os ps a:=by
 unfold withHoles
 split
 ·exact ⟨h,h2⟩
 ·exact h
theorem specM_case {P:Program}{f:FuncId}{paths:List NP}{γ:Type}{dec:List SV->List SO->Option γ}{args:γ->List SV}{objs:γ->List SO}{pre pre1 pre2:γ->Prop}{res:γ->SV}{post:γ->List SO}
  (h1:SpecOK P (mkSpecM f paths dec args objs pre1 res post)) (h2:SpecOK P (mkSpecM f paths dec args objs pre2 res post)) (hc:∀ g,pre g->pre1 g\/pre2 g):SpecOK P (mkSpecM f paths dec args objs pre res post):=by
 refine ⟨h1.1,fun l H HF nm y he hns hrun=>?_,fun l H nm y hrun hask w0 X0 E w hrep hf vals ha=>?_⟩
 ·simp only [mkSpecM] at hrun
  split at hrun
  case h_2=>cases hrun
  split at hrun
  case h_2=>cases hrun
  split at hrun
  case h_2=>cases hrun
  cases hrun
  exact absurd rfl (hns _)
 ·simp only [mkSpecM] at hrun
  split at hrun
  case h_2=>cases hrun
  rename_i ks hks
  split at hrun
  case h_2=>cases hrun
  rename_i hn
  split at hrun
  case h_2=>cases hrun
  rename_i g hdec
  cases hrun
  obtain ⟨⟨hle,⟨hpre⟩⟩,hholes⟩:=withHoles_get hask
  rcases hc g hpre with hp | hp
  ·exact h1.2.2 l H nm ⟨withHoles (objsAt H ks) paths (argLe (l.map (sml (objsAt H ks) ks)) ((objsAt H ks).map (smlO (objsAt H ks) ks)) (args g) (objs g)/\Ask (pre1 g)),_,_⟩ (by simp only [mkSpecM,hks,hn,hdec]) (withHoles_mk ⟨hle,⟨hp⟩⟩ hholes) w0 X0 E w hrep hf vals ha
  ·exact h2.2.2 l H nm ⟨withHoles (objsAt H ks) paths (argLe (l.map (sml (objsAt H ks) ks)) ((objsAt H ks).map (smlO (objsAt H ks) ks)) (args g) (objs g)/\Ask (pre2 g)),_,_⟩ (by simp only [mkSpecM,hks,hn,hdec]) (withHoles_mk ⟨hle,⟨hp⟩⟩ hholes) w0 X0 E w hrep hf vals ha
end Go.Proofs.Ythappngbapbkfaa.Sx
set_option linter.unusedSimpArgs false
set_option linter.unusedVariables false
namespace Go.Proofs.Ythappngbapbkfaa.Lpd
open Go.RowKit Sx Num Aff Afi Img Imh Imp Imq Rga Blend Ble Lsg Lta Lrd Lri Luc Lck Lgr Lcs Lst Lch Lcl Lgp Lsc Cmp Lpm Lpa Lpr Lbt Lpn Lpc
set_option maxRecDepth 100000
structure SsG where
 n:Nat
 f:Nat->Cl
def ssS (g:SsG):SV:= .sl g.n 9 (fun i j=> .int .u8 (g.f i j))
def ssD:SV->SsG
 | .sl n _ f=>⟨n,fun i j=>Sx.intOf (f i j)⟩
 | _=>⟨0,fun _ _=>0⟩
def spClS:FSpec:=lendN 40 (γ:=SsG) (fun | [s]=>some (ssD s) | _=>none) (fun g=>[ssS g]) (fun g=>0<g.n/\g.n<=4294967296) (fun g=>stR g.n g.f)
theorem ok_clS:SpecOK Try.prog spClS:=by
 refine spec_soundNL (specs:=[]) (all_ok trivial) (eqs:=[]) (fun _ _ h=>(List.not_mem_nil h).elim) Aff.mixed Try.func40 rfl (by kernel_rfl) (fun _ _=>by kernel_rfl) (fun g=>(⟨[],[(1,[.nilc 0])]⟩:Ann)) (fun g=>0) (fun g=>Nat.le_of_ble_eq_true (by kernel_rfl)) (fun _ _ _ _ _=>trivial) ?_
 rintro ⟨n,f⟩ ⟨h0,hn⟩
 simp only at h0 hn
 refine vc_of (B:=let A:=Sx.Ask;let z0:=(IntKind.u8=IntKind.u8);True/\(n=(0:Nat)->True/\True/\True/\True/\False)/\True/\True/\True/\True/\A ((0:Nat)+n<=(9223372036854775807:Nat)/\((0:Nat)+n)*(9:Nat)<=(140737488355328:Nat))/\True/\True/\(True/\True)/\(A ((0:Nat)+n=n)/\∀ i:Nat,let z1:=(i-(0:Nat)); i<n->((((((((True/\A z0/\A (f z1 (0:Nat)=f i (0:Nat)))/\A z0/\A (f z1 (1:Nat)=f i (1:Nat)))/\A z0/\A (f z1 (2:Nat)=f i (2:Nat)))/\A z0/\A (f z1 (3:Nat)=f i (3:Nat)))/\A z0/\A (f z1 (4:Nat)=f i (4:Nat)))/\A z0/\A (f z1 (5:Nat)=f i (5:Nat)))/\A z0/\A (f z1 (6:Nat)=f i (6:Nat)))/\A z0/\A (f z1 (7:Nat)=f i (7:Nat)))/\A z0/\A (f z1 (8:Nat)=f i (8:Nat)))/\True) (by kernel_rfl) ?_
 simp only [ask_iff,br_iff,eq_self,true_and,and_true,implies_true,forall_const,decide_eq_true_eq,decide_eq_false_iff_not,ne_eq,Nat.mul_one,Nat.add_zero,Nat.zero_add]
 exact ⟨fun h=>by omega,⟨by omega,by omega⟩,fun i _=>all9 fun j=>rfl⟩
structure BxG where
 n:Nat
 mf:Nat->Bool
def bxS (g:BxG):SV:= .sl g.n 1 (fun i _=> .bool (g.mf i))
def bxD:SV->BxG
 | .sl n _ f=>⟨n,fun i=>boolOf (f i 0)⟩
 | _=>⟨0,fun _=>false⟩
def bX (mf:Nat->Bool):Nat->Nat->Int
 | 0,_=> -1
 | m+1,k=>if mf k=true then (k:Int) else bX mf m (k+1)
theorem bX_next {mf} {n i:Nat}(h:i<n):bX mf (n-i) i=if mf i=true then (i:Int) else bX mf (n-(i+1)) (i+1):=by
 rw [show n-i=(n-(i+1))+1 by omega]; rfl
theorem bX_iff {mf}:∀ m k,0<=bX mf m k<->∃ i,k<=i/\i<k+m/\mf i=true
 | 0,k=>by simp only [bX]; exact ⟨fun h=>absurd h (by decide),fun ⟨i,h1,h2,_⟩=>by omega⟩
 | m+1,k=>by
  unfold bX
  split
  ·rename_i h
   exact ⟨fun _=>⟨k,Nat.le_refl _,by omega,h⟩,fun _=>by omega⟩
  ·rename_i h
   rw [bX_iff m (k+1)]
   exact ⟨fun ⟨i,h1,h2,h3⟩=>⟨i,by omega,by omega,h3⟩,fun ⟨i,h1,h2,h3⟩=>⟨i,by (have:i≠k:=fun e=>h (e▸h3)); omega,by omega,h3⟩⟩
def bxI (g:BxG):Inv:=⟨Nat,fun i=>i<=g.n/\bX g.mf g.n 0=bX g.mf (g.n-i) i,fun i=>⟨[(0,bxS g),(1,.bool true),(7,.int .i64 g.n),(8,.int .i64 i)],[]⟩,fun i=>g.n-i⟩
def spIdxB:FSpec:=mkSpec 75 (γ:=BxG) (fun | [m,_]=>some (bxD m) | _=>none) (fun g=>[bxS g,.bool true]) (fun g=>g.n<=4294967296) (fun g=> .int .i64 (bX g.mf g.n 0))
theorem ok_idxB:SpecOK Try.prog spIdxB:=by
 refine spec_sound (specs:=[]) (all_ok trivial) (eqs:=[]) (fun _ _ h=>(List.not_mem_nil h).elim) Aff.mixed Try.func75 rfl (by kernel_rfl) (fun _ _=>by kernel_rfl) (fun g=>(⟨[(2,.inv (bxI g))],[]⟩:Ann)) (fun g=>Nat.le_of_ble_eq_true (by kernel_rfl)) ?_
 rintro g hg
 refine vc_of (B:=let A:=Sx.Ask;let z1:=(A (g.n=g.n)/\∀ i:Nat,i<g.n->True/\A (g.mf i=g.mf i));let z0:=(IntKind.i64=IntKind.i64);let z3:=(A z0/\A ((↑g.n:Int)=(↑g.n:Int)));True/\True/\True/\True/\(∃ g_1:Nat,A ((bxI g).pre g_1)/\(z1/\A (true=true)/\z3/\(A z0/\A ((0:Int)=(↑g_1:Int)))/\True)/\True)/\∀ g_1:Nat,let z2:=(↑g_1:Int); (bxI g).pre g_1->True/\Sx.Br (decide (z2<(↑g.n:Int))) (True/\True/\True/\True/\True/\A ((0:Int)<=z2/\z2<(↑g.n:Int))/\True/\True/\Sx.Br (true==g.mf z2.toNat) (True/\True/\True/\A z0/\A (z2=bX g.mf g.n (0:Nat))) (A ((-9223372036854775808:Int)<=z2+(1:Int)/\z2+(1:Int)<=(9223372036854775807:Int))/\True/\∃ (g':Nat),A ((bxI g).pre g')/\((z1/\A (true=true)/\z3/\(A z0/\A (z2+(1:Int)=(↑g':Int)))/\True)/\True)/\A ((bxI g).meas g'<(bxI g).meas g_1))) (True/\True/\A z0/\A ((-1:Int)=bX g.mf g.n (0:Nat)))) (by kernel_rfl) ?_
 simp only [ask_iff,br_iff,eq_self,true_and,and_true,implies_true,forall_const,decide_eq_true_eq,decide_eq_false_iff_not,ne_eq,Nat.mul_one,Nat.add_zero,Nat.zero_add]
 simp only [Int.toNat_natCast]
 refine ⟨⟨0,⟨Nat.zero_le _,rfl⟩,rfl⟩,fun q hq=>?_⟩
 obtain ⟨q1,q2⟩:q<=g.n/\bX g.mf g.n 0=bX g.mf (g.n-q) q:=hq
 refine ⟨fun hlt=>?_,fun hge=>?_⟩
 ·have hlt:q<g.n:=by omega
  rw [bX_next hlt] at q2
  cases hm:g.mf q
  ·rw [hm,if_neg Bool.false_ne_true] at q2
   exact ⟨by omega,fun h=>absurd h (by decide),fun _=>⟨by omega,q+1,⟨hlt,q2⟩,by simp,(show g.n-(q+1)<g.n-q by omega)⟩⟩
  ·rw [hm,if_pos rfl] at q2
   exact ⟨by omega,fun _=>q2.symm,fun h=>absurd h (by decide)⟩
 ·have:q=g.n:=by omega
  rw [this,Nat.sub_self] at q2
  exact q2.symm
def spConB:FSpec:=mkSpec 63 (γ:=BxG) (fun | [m,_]=>some (bxD m) | _=>none) (fun g=>[bxS g,.bool true]) (fun g=>g.n<=4294967296) (fun g=> .bool (decide (0<=bX g.mf g.n 0)))
theorem ok_conB:SpecOK Try.prog spConB:=by
 refine spec_sound (specs:=[spIdxB]) (all_ok (⟨ok_idxB,trivial⟩)) (eqs:=[]) (fun _ _ h=>(List.not_mem_nil h).elim) Aff.mixed Try.func63 rfl (by kernel_rfl) (fun _ _=>by kernel_rfl) (fun g=>A0) (fun g=>Nat.le_of_ble_eq_true (by kernel_rfl)) ?_
 rintro g hg
 refine vc_of (B:=let A:=Sx.Ask;True/\True/\True/\(((A (g.n=g.n)/\∀ i:Nat,i<g.n->True/\A (g.mf i=g.mf i))/\A (true=true)/\True)/\A (g.n<=(4294967296:Nat)))/\True/\True/\True/\A (decide ((0:Int)<=bX g.mf g.n (0:Nat))=decide ((0:Int)<=bX g.mf g.n (0:Nat)))) (by kernel_rfl) ?_
 simp only [ask_iff,br_iff,eq_self,true_and,and_true,implies_true,forall_const,decide_eq_true_eq,decide_eq_false_iff_not,ne_eq,Nat.mul_one,Nat.add_zero,Nat.zero_add]
 exact hg
end Go.Proofs.Ythappngbapbkfaa.Lpd
