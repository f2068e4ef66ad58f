/- Part 8 of the texts that the law's proof leans on. -/
import Derived.Test.YtmhofgchidojoaaGreatM7
set_option linter.unusedSimpArgs false
set_option linter.unusedVariables false
namespace Go.Proofs.YtmhofgchidojoaaGreat.Flf
open Go.RowKit Sx Num Aff Con Rga Rgl Fla Flb Flc Fld Fle Flp Flq
set_option maxRecDepth 100000
def ins1 (n:Int):Bool:=decide (n≠0)
def spIn1:FSpec:=mkSpec 30 (γ:=Int) (fun | [.int _ x]=>some x | _=>none) (fun x=>[.int .i64 x]) (fun x=> -1048576<=x/\x<=1048576) (fun x=> .bool (ins1 x))
theorem ok_In1:SpecOK Tryz.prog spIn1:=by
 refine spec_sound (specs:=[]) (all_ok trivial) (eqs:=[]) (fun _ _ h=>(List.not_mem_nil h).elim) Aff.mixed Tryz.func30 rfl (by kernel_rfl) (fun _ _=>by kernel_rfl) (fun g=>A0) (fun g=>Nat.le_of_ble_eq_true (by kernel_rfl)) ?_
 rintro x hx
 refine vc_of (B:=True/\True/\True/\True/\True/\Sx.Ask (decide (x≠(0:Int))=ins1 x)) (by kernel_rfl) ?_
 simp only [ask_iff,br_iff,eq_self,true_and,and_true,implies_true,forall_const,decide_eq_true_eq,decide_eq_false_iff_not,ne_eq,Nat.mul_one,Nat.add_zero,Nat.zero_add,Int.toNat_natCast,and_self,List.append_assoc,false_and,and_false]
 unfold ins1
 by_cases h:x=0<;>simp [h]
def okG (g:SoG):Prop:=(g.n<=1048576/\∀ i,i<g.n->(g.f i).ok)/\∀ y,tot g.f g.n y=0
def rowR (L:List Rn):SO:= .row 0 L.length 3 (fun i=>lst (rnL (rI L i))) 77
def scO (g:SoG) (A:List Ed) (R:List Rn) (y:Int):List SO:=[.srow 0 g.n 6 (fun i=>lst (edL (srtE g i))),.cells 1 (lst [.osl 2 0]) 82,rowR R,edRow 0 A.length (eI A),yCell y]
def scT (F:Nat) (g:SoG) (i:Nat):Tmps:=[(0,.sl (g.n-i) 6 (fun k=>lst (edL (srtE g (i+k))))),(1,.fn F 0 (lst [])),(5,.own 1 0),(6,.osl 3 0),(7,.own 4 0)]
def scInv (ins:Int->Bool) (F:Nat) (g:SoG):Inv:=⟨ScI,ScP ins g,fun s=>⟨scT F g s.i,scO g (act (srtE g) (s.y-1) s.i) s.R s.y⟩,fun s=>(8192-s.y).toNat⟩
def scTake (F:Nat) (g:SoG) (s:ScI):Inv:=⟨Nat,fun i=>s.i<=i/\i<=g.n/\∀ k,k<i->(srtE g k).y<=s.y,fun i=>⟨scT F g i,scO g (act (srtE g) s.y i) s.R s.y⟩,fun i=>g.n-i⟩
def scCut (ins:Int->Bool) (F:Nat) (g:SoG) (s:ScI):Inv:=⟨ScI,fun t=>ScQ ins g t/\s.y<=t.y,fun t=>⟨scT F g t.i,scO g (act (srtE g) t.y t.i) t.R t.y⟩,fun _=>0⟩
def crsS (C:List Cr):SV:= .sl C.length 2 (fun i=>lst (crL (cI C i)))
def scIn (ins:Int->Bool) (F:Nat) (g:SoG) (s:ScI):Inv:=⟨ScJ,ScJP ins g s,
 fun t=>⟨scT F g t.i++[(8,.int .i64 (pre (row g s.y t.i) t.j)),(9,.int .i64 (fromI (row g s.y t.i) t.j)),(62,crsS (row g s.y t.i)),(63,.int .i64 (row g s.y t.i).length),(64,.int .i64 t.j)],scO g (act (srtE g) s.y t.i) t.R s.y⟩,fun t=>(row g s.y t.i).length-t.j⟩
def scMid (F:Nat) (g:SoG) (s:ScI):Inv:=⟨Nat,ScM g s,fun i=>⟨scT F g i,scO g (act (srtE g) s.y i) s.R s.y⟩,fun _=>0⟩
theorem run_same {A B:Rn}(h:A=B):(A.y=B.y/\A.x0=B.x0)/\A.x1=B.x1:=by rw [h]; exact ⟨⟨rfl,rfl⟩,rfl⟩
theorem addL (L:List Rn) (r:Rn):AdG.L ⟨L.length,rI L,r⟩=addR L r:=by
 show addR (Rg.L ⟨L.length,rI L⟩) r=addR L r
 rw [Rg.L_of]
theorem cro_s {f:Nat->Ed}{y:Int}:∀ {n:Nat},(∀ k,k<n->(f k).ok)->∀ c∈cro f y n,c.s=1\/c.s = -1
 | 0,_,c,hc=>(List.not_mem_nil hc).elim
 | n+1,h,c,hc=>by
  rcases List.mem_append.1 hc with hc | hc
  ·exact cro_s (fun k hk=>h k (by omega)) c hc
  ·split at hc
   ·rw [List.mem_singleton.1 hc]
    exact (h n (by omega)).2.2.2
   ·exact (List.not_mem_nil hc).elim
theorem cI_mem {L:List Cr}{k:Nat}(h:k<L.length):cI L k∈L:=by
 unfold cI
 rw [List.getD_eq_getElem?_getD,List.getElem?_eq_getElem h]
 exact List.getElem_mem h
theorem pre_in {C:List Cr}(h:∀ c∈C,c.s=1\/c.s = -1):∀ {j:Nat},j<=C.length-> -(j:Int)<=pre C j/\pre C j<=j
 | 0,_=>⟨by show -(0:Int)<=0; decide,Int.le_refl _⟩
 | j+1,hj=>by
  have:=pre_in h (j:=j) (by omega)
  have:=h _ (cI_mem (show j<C.length by omega))
  show _<=pre C j+(cI C j).s/\pre C j+(cI C j).s<=_
  omega
theorem act_ok {g:SoG}(h:okG g) {y:Int}{i:Nat}(hi:i<=g.n):∀ k,k<(act (srtE g) y i).length->(eI (act (srtE g) y i) k).ok:=fun k hk=>by
 obtain ⟨m,hm,e⟩:=act_mem (eI_mem hk)
 rw [<-e]
 exact all_srt g h.1.2 m (by omega)
theorem row_s {g:SoG}(h:okG g) {y:Int}{i:Nat}(hi:i<=g.n):∀ c∈row g y i,c.s=1\/c.s = -1:=fun c hc=>
 cro_s (act_ok h hi) c ((crs_perm _ _ _).mem_iff.1 hc)
theorem row_len {g:SoG}{y:Int}{i:Nat}(hi:i<=g.n):(row g y i).length<=g.n:=by
 have h1:(row g y i).length=_:=crs_len (eI (act (srtE g) y i)) y (act (srtE g) y i).length
 have h2:=cro_len (eI (act (srtE g) y i)) y (act (srtE g) y i).length
 have h3:=act_len (srtE g) y i
 omega
noncomputable def spScan1:FSpec:=mkSpecM 32 [.arg 0] (γ:=SoG) (fun | [_,.fn _ _ _],[.row _ n _ g _]=>some ⟨n,fun i=>edD (g i)⟩ | _,_=>none) (fun _=>[.osl 0 0,.fn 30 0 (lst [])]) (fun g=>[edRow 0 g.n g.f]) okG (fun g=>runsS (ofSet (chi ins1 g.f g.n))) (fun _=>[.dead])
theorem ok_scan1:SpecOK Tryz.prog spScan1:=by
 refine spec_soundM (specs:=[spSortE,spDel,spCross,spIn1,spAddR]) (all_ok (⟨ok_sortE,ok_del,ok_cross,ok_In1,ok_addR,trivial⟩)) (eqs:=[]) (fun _ _ h=>(List.not_mem_nil h).elim) Aff.mixed Tryz.func32 rfl (by kernel_rfl) (fun _ _=>by kernel_rfl) (fun g=>(⟨[(5,.nest (scInv ins1 30 g) (fun s=>[(8,.inv (scTake 30 g s)),(12,.cut (scMid 30 g s)),(17,.inv (scIn ins1 30 g s)),(24,.cut (scCut ins1 30 g s))]))],[(2,[.tmp 0]),(4,[.ownC 1 0 77 3,.own 6 108 6]),(1000006,[.mv 5 4])]⟩:Ann)) false (fun g=>Nat.le_of_ble_eq_true (by kernel_rfl)) ?_
 rintro g hg
 refine vc_of (B:=let U:=Int.ofNat;let J:=Int.toNat;let K:=Sx.Br;let A:=Sx.Ask;let z94:=(1:Nat);let z86:=(-8192:Int);let z72:=(8192:Int);let z70:=(1:Int);let z41:=(True/\True);let z40:=(0:Int);let z37:=(9223372036854775807:Int);let z35:=(-9223372036854775808:Int);let z34:=(Rgl.ofSet (Flp.chi ins1 g.f g.n));let z21:=(30:Nat);let z77:=(scInv ins1 z21 g);let z13:=(A (z21=z21)/\True);let z9:=((0:Nat)=(0:Nat));let z2:=(Flc.srtE g);let z0:=(IntKind.i64=IntKind.i64);let z1:=(A (g.n=g.n)/\∀ i:Nat,let z39:=(Flc.srtE g i); i<g.n->(((((True/\A z0/\A (z39.x=z39.x))/\A z0/\A (z39.y=z39.y))/\A z0/\A (z39.en=z39.en))/\A z0/\A (z39.dx=z39.dx))/\A z0/\A (z39.dy=z39.dy))/\A z0/\A (z39.s=z39.s));True/\True/\((True/\(True/\(A ((55:Nat)=(55:Go.FuncId))/\True)/\True)/\(A (g.n=g.n)/\∀ i:Nat,i<g.n->(((((True/\A z0/\A ((g.f i).x=(g.f i).x))/\A z0/\A ((g.f i).y=(g.f i).y))/\A z0/\A ((g.f i).en=(g.f i).en))/\A z0/\A ((g.f i).dx=(g.f i).dx))/\A z0/\A ((g.f i).dy=(g.f i).dy))/\A z0/\A ((g.f i).s=(g.f i).s))/\True)/\A (g.n<=(1048576:Nat)))/\True/\True/\True/\True/\(∃ g_1:Flq.ScI,A (z77.pre g_1)/\True/\((A (g.n=g.n-g_1.i)/\∀ i:Nat,let z80:=(Flc.srtE g i);let z44:=(Flc.srtE g (g_1.i+i)); i<g.n-g_1.i->(((((True/\A z0/\A (z80.x=z44.x))/\A z0/\A (z80.y=z44.y))/\A z0/\A (z80.en=z44.en))/\A z0/\A (z80.dx=z44.dx))/\A z0/\A (z80.dy=z44.dy))/\A z0/\A (z80.s=z44.s))/\(A ((30:Go.FuncId)=z21)/\True)/\A z9/\True/\A z9/\True)/\z1/\z41/\(A ((0:Nat)=g_1.R.length)/\∀ i:Nat,i<g_1.R.length->((True/\False)/\False)/\False)/\(A ((0:Nat)=(Flp.act z2 (g_1.y-z70) g_1.i).length)/\∀ i:Nat,i<(Flp.act z2 (g_1.y-z70) g_1.i).length->(((((True/\False)/\False)/\False)/\False)/\False)/\False)/\(True/\A z0/\A (z86=g_1.y))/\True)/\∀ g_1:Flq.ScI,let z106:=(A z0/\A (g_1.y=g_1.y));let z103:=(scCut ins1 z21 g g_1);let z56:=(scTake z21 g g_1);let z36:=(scIn ins1 z21 g g_1);let z16:=(True/\A z0/\A (g_1.y=g_1.y));let z10:=(True/\True/\True/\True/\True/\((A (g_1.R.length=z34.length)/\∀ i:Nat,i<z34.length->((True/\A z0/\A ((Rga.rI g_1.R i).y=(Rga.rI z34 i).y))/\A z0/\A ((Rga.rI g_1.R i).x0=(Rga.rI z34 i).x0))/\A z0/\A ((Rga.rI g_1.R i).x1=(Rga.rI z34 i).x1))/\True)/\True/\True);let z4:=(A (g_1.R.length=g_1.R.length)/\∀ i:Nat,let z75:=(Rga.rI g_1.R i); i<g_1.R.length->((True/\A z0/\A (z75.y=z75.y))/\A z0/\A (z75.x0=z75.x0))/\A z0/\A (z75.x1=z75.x1));let z3:=(Flp.act z2 (g_1.y-z70) g_1.i);let z15:=(Flb.kept (Flb.DeG.mk z3.length (Fla.eI z3) g_1.y) z3.length); z77.pre g_1->True/\True/\K (decide (g_1.y<z72)) ((True/\True/\((True/\(True/\(A ((58:Nat)=(58:Go.FuncId))/\True/\A z9)/\True)/\(A (z3.length=z3.length)/\∀ i:Nat,let z53:=(Fla.eI z3 i); i<z3.length->(((((True/\A z0/\A (z53.x=z53.x))/\A z0/\A (z53.y=z53.y))/\A z0/\A (z53.en=z53.en))/\A z0/\A (z53.dx=z53.dx))/\A z0/\A (z53.dy=z53.dy))/\A z0/\A (z53.s=z53.s))/\z16/\True)/\A (z3.length<=(4294967296:Nat)))/\True/\((∃ g_2:Nat,let z100:=(Flp.act z2 g_1.y g_2); A (z56.pre g_2)/\True/\((A (g.n-g_1.i=g.n-g_2)/\∀ i:Nat,let z60:=(Flc.srtE g (g_2+i));let z45:=(Flc.srtE g (g_1.i+i)); i<g.n-g_2->(((((True/\A z0/\A (z45.x=z60.x))/\A z0/\A (z45.y=z60.y))/\A z0/\A (z45.en=z60.en))/\A z0/\A (z45.dx=z60.dx))/\A z0/\A (z45.dy=z60.dy))/\A z0/\A (z45.s=z60.s))/\z13/\A z9/\True/\A z9/\True)/\z1/\z41/\z4/\(A (z15.length=z100.length)/\∀ i:Nat,let z81:=(Fla.eI z15 i);let z29:=(Fla.eI z100 i); i<z100.length->(((((True/\A z0/\A (z81.x=z29.x))/\A z0/\A (z81.y=z29.y))/\A z0/\A (z81.en=z29.en))/\A z0/\A (z81.dx=z29.dx))/\A z0/\A (z81.dy=z29.dy))/\A z0/\A (z81.s=z29.s))/\z16/\True)/\∀ g_2:Nat,let z78:=(g.n-g_2);let z73:=(z40<=z40/\z40<(↑z78:Int));let z22:=(z40<=U z94/\U z94<=U z78/\U z78<=U z78/\U z78<=(↑z78:Int));let z17:=(Flc.srtE g (g_2+J z40));let z8:=(Flp.act z2 g_1.y g_2); z56.pre g_2->True/\True/\True/\True/\K (decide (z40<(↑z78:Int))) (True/\A z73/\True/\True/\True/\True/\True/\K (decide (z17.y<=g_1.y)) (True/\A z73/\True/\True/\True/\True/\K (decide (g_1.y<z17.en)) (True/\True/\A z73/\True/\True/\A (z8.length+z94<=(9223372036854775807:Nat)/\(z8.length+z94)*(48:Nat)<=(140737488355328:Nat))/\True/\True/\A z22/\True/\∃ (g':Nat),let z104:=(Flp.act z2 g_1.y g'); A (z56.pre g')/\True/\(((A ((U z78-U z94).toNat=g.n-g')/\∀ i:Nat,let z68:=(Flc.srtE g (g'+i));let z18:=(Flc.srtE g (g_2+((U z94).toNat+i))); i<g.n-g'->(((((True/\A z0/\A (z18.x=z68.x))/\A z0/\A (z18.y=z68.y))/\A z0/\A (z18.en=z68.en))/\A z0/\A (z18.dx=z68.dx))/\A z0/\A (z18.dy=z68.dy))/\A z0/\A (z18.s=z68.s))/\z13/\A z9/\True/\A z9/\True)/\z1/\z41/\z4/\(A (z8.length+z94=z104.length)/\∀ i:Nat,let z87:=(Fla.eI z8 i);let z79:=(i<z8.length);let z32:=(Fla.eI z104 i); i<z104.length->(((((True/\A z0/\A ((bif decide z79 then z87.x else z17.x)=z32.x))/\A z0/\A ((bif decide z79 then z87.y else z17.y)=z32.y))/\A z0/\A ((bif decide z79 then z87.en else z17.en)=z32.en))/\A z0/\A ((bif decide z79 then z87.dx else z17.dx)=z32.dx))/\A z0/\A ((bif decide z79 then z87.dy else z17.dy)=z32.dy))/\A z0/\A ((bif decide z79 then z87.s else z17.s)=z32.s))/\z16/\True)/\A (z56.meas g'<z56.meas g_2)) (True/\A z22/\True/\∃ (g':Nat),let z105:=(Flp.act z2 g_1.y g'); A (z56.pre g')/\True/\(((A ((U z78-U z94).toNat=g.n-g')/\∀ i:Nat,let z69:=(Flc.srtE g (g'+i));let z19:=(Flc.srtE g (g_2+((U z94).toNat+i))); i<g.n-g'->(((((True/\A z0/\A (z19.x=z69.x))/\A z0/\A (z19.y=z69.y))/\A z0/\A (z19.en=z69.en))/\A z0/\A (z19.dx=z69.dx))/\A z0/\A (z19.dy=z69.dy))/\A z0/\A (z19.s=z69.s))/\z13/\A z9/\True/\A z9/\True)/\z1/\z41/\z4/\(A (z8.length=z105.length)/\∀ i:Nat,let z88:=(Fla.eI z8 i);let z33:=(Fla.eI z105 i); i<z105.length->(((((True/\A z0/\A (z88.x=z33.x))/\A z0/\A (z88.y=z33.y))/\A z0/\A (z88.en=z33.en))/\A z0/\A (z88.dx=z33.dx))/\A z0/\A (z88.dy=z33.dy))/\A z0/\A (z88.s=z33.s))/\z16/\True)/\A (z56.meas g'<z56.meas g_2))) (∃ g_3:Nat,let z101:=(Flp.act z2 g_1.y g_3); A ((scMid z21 g g_1).pre g_3)/\True/\((A (g.n-g_2=g.n-g_3)/\∀ i:Nat,let z62:=(Flc.srtE g (g_3+i));let z61:=(Flc.srtE g (g_2+i)); i<g.n-g_3->(((((True/\A z0/\A (z61.x=z62.x))/\A z0/\A (z61.y=z62.y))/\A z0/\A (z61.en=z62.en))/\A z0/\A (z61.dx=z62.dx))/\A z0/\A (z61.dy=z62.dy))/\A z0/\A (z61.s=z62.s))/\z13/\A z9/\True/\A z9/\True)/\z1/\z41/\z4/\(A (z8.length=z101.length)/\∀ i:Nat,let z89:=(Fla.eI z8 i);let z30:=(Fla.eI z101 i); i<z101.length->(((((True/\A z0/\A (z89.x=z30.x))/\A z0/\A (z89.y=z30.y))/\A z0/\A (z89.en=z30.en))/\A z0/\A (z89.dx=z30.dx))/\A z0/\A (z89.dy=z30.dy))/\A z0/\A (z89.s=z30.s))/\z16/\True)) (True/\∃ g_3:Nat,let z102:=(Flp.act z2 g_1.y g_3); A ((scMid z21 g g_1).pre g_3)/\True/\((A (g.n-g_2=g.n-g_3)/\∀ i:Nat,let z64:=(Flc.srtE g (g_3+i));let z63:=(Flc.srtE g (g_2+i)); i<g.n-g_3->(((((True/\A z0/\A (z63.x=z64.x))/\A z0/\A (z63.y=z64.y))/\A z0/\A (z63.en=z64.en))/\A z0/\A (z63.dx=z64.dx))/\A z0/\A (z63.dy=z64.dy))/\A z0/\A (z63.s=z64.s))/\z13/\A z9/\True/\A z9/\True)/\z1/\z41/\z4/\(A (z8.length=z102.length)/\∀ i:Nat,let z90:=(Fla.eI z8 i);let z31:=(Fla.eI z102 i); i<z102.length->(((((True/\A z0/\A (z90.x=z31.x))/\A z0/\A (z90.y=z31.y))/\A z0/\A (z90.en=z31.en))/\A z0/\A (z90.dx=z31.dx))/\A z0/\A (z90.dy=z31.dy))/\A z0/\A (z90.s=z31.s))/\z16/\True))/\∀ g_2:Nat,let z12:=(if z72<(Flc.srtE g (g_2+J z40)).y then z72 else (Flc.srtE g (g_2+J z40)).y);let z7:=(Flp.act z2 g_1.y g_2);let z55:=(Fle.crs (Fla.eI z7) g_1.y z7.length); (scMid z21 g g_1).pre g_2->True/\True/\True/\K (decide ((↑z7.length:Int)=z40)) (True/\True/\True/\K (decide ((↑(g.n-g_2):Int)=z40)) z10 (True/\True/\A (z40<=z40/\z40<(↑(g.n-g_2):Int))/\True/\True/\True/\A (z35<=z12-z70/\z12-z70<=z37)/\True/\True/\∃ g_3:Flq.ScI,let z95:=(Flp.act z2 g_3.y g_3.i); A (z103.pre g_3)/\True/\((A (g.n-g_2=g.n-g_3.i)/\∀ i:Nat,let z65:=(Flc.srtE g (g_2+i));let z46:=(Flc.srtE g (g_3.i+i)); i<g.n-g_3.i->(((((True/\A z0/\A (z65.x=z46.x))/\A z0/\A (z65.y=z46.y))/\A z0/\A (z65.en=z46.en))/\A z0/\A (z65.dx=z46.dx))/\A z0/\A (z65.dy=z46.dy))/\A z0/\A (z65.s=z46.s))/\z13/\A z9/\True/\A z9/\True)/\z1/\z41/\(A (g_1.R.length=g_3.R.length)/\∀ i:Nat,i<g_3.R.length->((True/\A z0/\A ((Rga.rI g_1.R i).y=(Rga.rI g_3.R i).y))/\A z0/\A ((Rga.rI g_1.R i).x0=(Rga.rI g_3.R i).x0))/\A z0/\A ((Rga.rI g_1.R i).x1=(Rga.rI g_3.R i).x1))/\(A (z7.length=z95.length)/\∀ i:Nat,let z91:=(Fla.eI z7 i);let z23:=(Fla.eI z95 i); i<z95.length->(((((True/\A z0/\A (z91.x=z23.x))/\A z0/\A (z91.y=z23.y))/\A z0/\A (z91.en=z23.en))/\A z0/\A (z91.dx=z23.dx))/\A z0/\A (z91.dy=z23.dy))/\A z0/\A (z91.s=z23.s))/\(True/\A z0/\A ((if z12-z70>g_1.y then z12-z70 else g_1.y)=g_3.y))/\True)) (True/\True/\True/\True/\((True/\(True/\z106/\True)/\(A (z7.length=z7.length)/\∀ i:Nat,let z54:=(Fla.eI z7 i); i<z7.length->(((((True/\A z0/\A (z54.x=z54.x))/\A z0/\A (z54.y=z54.y))/\A z0/\A (z54.en=z54.en))/\A z0/\A (z54.dx=z54.dx))/\A z0/\A (z54.dy=z54.dy))/\A z0/\A (z54.s=z54.s))/\True)/\A ((∀ i:Nat,i<z7.length->(Fla.eI z7 i).ok)/\z7.length<=(4294967296:Nat)/\z86<=g_1.y/\g_1.y<=z72))/\True/\True/\(∃ g_3:Flq.ScJ,let z96:=(Flp.act z2 g_1.y g_3.i);let z38:=(Flp.row g g_1.y g_3.i); A (z36.pre g_3)/\True/\((A (g.n-g_2=g.n-g_3.i)/\∀ i:Nat,let z66:=(Flc.srtE g (g_2+i));let z47:=(Flc.srtE g (g_3.i+i)); i<g.n-g_3.i->(((((True/\A z0/\A (z66.x=z47.x))/\A z0/\A (z66.y=z47.y))/\A z0/\A (z66.en=z47.en))/\A z0/\A (z66.dx=z47.dx))/\A z0/\A (z66.dy=z47.dy))/\A z0/\A (z66.s=z47.s))/\z13/\A z9/\True/\A z9/\(A z0/\A (z40=Flp.pre z38 g_3.j))/\(A z0/\A (z40=Flq.fromI z38 g_3.j))/\(A (z55.length=z38.length)/\∀ i:Nat,i<z38.length->(True/\A z0/\A ((Fld.cI z55 i).x=(Fld.cI z38 i).x))/\A z0/\A ((Fld.cI z55 i).s=(Fld.cI z38 i).s))/\(A z0/\A ((↑z55.length:Int)=(↑z38.length:Int)))/\(A z0/\A (z40=(↑g_3.j:Int)))/\True)/\z1/\z41/\(A (g_1.R.length=g_3.R.length)/\∀ i:Nat,i<g_3.R.length->((True/\A z0/\A ((Rga.rI g_1.R i).y=(Rga.rI g_3.R i).y))/\A z0/\A ((Rga.rI g_1.R i).x0=(Rga.rI g_3.R i).x0))/\A z0/\A ((Rga.rI g_1.R i).x1=(Rga.rI g_3.R i).x1))/\(A (z7.length=z96.length)/\∀ i:Nat,let z92:=(Fla.eI z7 i);let z24:=(Fla.eI z96 i); i<z96.length->(((((True/\A z0/\A (z92.x=z24.x))/\A z0/\A (z92.y=z24.y))/\A z0/\A (z92.en=z24.en))/\A z0/\A (z92.dx=z24.dx))/\A z0/\A (z92.dy=z24.dy))/\A z0/\A (z92.s=z24.s))/\z16/\True)/\∀ g_3:Flq.ScJ,let z67:=(↑g_3.j:Int);let z11:=(Flp.act z2 g_1.y g_3.i);let z6:=(Flp.row g g_1.y g_3.i);let z93:=(↑z6.length:Int);let z71:=(if z86>Flq.fromI z6 g_3.j then z86 else Flq.fromI z6 g_3.j);let z14:=(Fld.cI z6 z67.toNat);let z107:=(if z72<z14.x then z72 else z14.x);let z74:=(z35<=Flp.pre z6 g_3.j+z14.s/\Flp.pre z6 g_3.j+z14.s<=z37);let z5:=(Rga.AdG.mk g_3.R.length (Rga.rI g_3.R) (Rga.Rn.mk g_1.y z71 z107)); z36.pre g_3->True/\K (decide (z67<z93)) (A (z40<=z67/\z67<z93)/\True/\True/\True/\True/\True/\(((A z0/\A (Flp.pre z6 g_3.j=Flp.pre z6 g_3.j))/\True)/\A ((-1048576:Int)<=Flp.pre z6 g_3.j/\Flp.pre z6 g_3.j<=(1048576:Int)))/\K (ins1 (Flp.pre z6 g_3.j)) (True/\True/\True/\True/\True/\True/\((True/\(A z9/\z106/\(A z0/\A (z71=if z86>Flq.fromI z6 g_3.j then z86 else Flq.fromI z6 g_3.j))/\(A z0/\A (z107=if z72<z14.x then z72 else z14.x))/\True)/\z41/\(A (g_3.R.length=g_3.R.length)/\∀ i:Nat,let z76:=(Rga.rI g_3.R i); i<g_3.R.length->((True/\A z0/\A (z76.y=z76.y))/\A z0/\A (z76.x0=z76.x0))/\A z0/\A (z76.x1=z76.x1))/\True)/\A (g_3.R.length<=(4294967296:Nat)))/\True/\True/\True/\A z74/\True/\True/\True/\True/\A (z35<=z67+z70/\z67+z70<=z37)/\True/\∃ (g':Flq.ScJ),let z98:=(Flp.act z2 g_1.y g'.i);let z42:=(Flp.row g g_1.y g'.i); A (z36.pre g')/\True/\(((A (g.n-g_3.i=g.n-g'.i)/\∀ i:Nat,let z57:=(Flc.srtE g (g'.i+i));let z48:=(Flc.srtE g (g_3.i+i)); i<g.n-g'.i->(((((True/\A z0/\A (z48.x=z57.x))/\A z0/\A (z48.y=z57.y))/\A z0/\A (z48.en=z57.en))/\A z0/\A (z48.dx=z57.dx))/\A z0/\A (z48.dy=z57.dy))/\A z0/\A (z48.s=z57.s))/\z13/\A z9/\True/\A z9/\(A z0/\A (Flp.pre z6 g_3.j+z14.s=Flp.pre z42 g'.j))/\(A z0/\A (z14.x=Flq.fromI z42 g'.j))/\(A (z6.length=z42.length)/\∀ i:Nat,i<z42.length->(True/\A z0/\A ((Fld.cI z6 i).x=(Fld.cI z42 i).x))/\A z0/\A ((Fld.cI z6 i).s=(Fld.cI z42 i).s))/\(A z0/\A (z93=(↑z42.length:Int)))/\(A z0/\A (z67+z70=(↑g'.j:Int)))/\True)/\z1/\z41/\(A (z5.L.length=g'.R.length)/\∀ i:Nat,i<g'.R.length->((True/\A z0/\A ((Rga.rI z5.L i).y=(Rga.rI g'.R i).y))/\A z0/\A ((Rga.rI z5.L i).x0=(Rga.rI g'.R i).x0))/\A z0/\A ((Rga.rI z5.L i).x1=(Rga.rI g'.R i).x1))/\(A (z11.length=z98.length)/\∀ i:Nat,let z82:=(Fla.eI z11 i);let z27:=(Fla.eI z98 i); i<z98.length->(((((True/\A z0/\A (z82.x=z27.x))/\A z0/\A (z82.y=z27.y))/\A z0/\A (z82.en=z27.en))/\A z0/\A (z82.dx=z27.dx))/\A z0/\A (z82.dy=z27.dy))/\A z0/\A (z82.s=z27.s))/\z16/\True)/\A (z36.meas g'<z36.meas g_3)) (True/\True/\True/\A z74/\True/\True/\True/\True/\A (z35<=z67+z70/\z67+z70<=z37)/\True/\∃ (g':Flq.ScJ),let z99:=(Flp.act z2 g_1.y g'.i);let z43:=(Flp.row g g_1.y g'.i); A (z36.pre g')/\True/\(((A (g.n-g_3.i=g.n-g'.i)/\∀ i:Nat,let z58:=(Flc.srtE g (g'.i+i));let z49:=(Flc.srtE g (g_3.i+i)); i<g.n-g'.i->(((((True/\A z0/\A (z49.x=z58.x))/\A z0/\A (z49.y=z58.y))/\A z0/\A (z49.en=z58.en))/\A z0/\A (z49.dx=z58.dx))/\A z0/\A (z49.dy=z58.dy))/\A z0/\A (z49.s=z58.s))/\z13/\A z9/\True/\A z9/\(A z0/\A (Flp.pre z6 g_3.j+z14.s=Flp.pre z43 g'.j))/\(A z0/\A (z14.x=Flq.fromI z43 g'.j))/\(A (z6.length=z43.length)/\∀ i:Nat,i<z43.length->(True/\A z0/\A ((Fld.cI z6 i).x=(Fld.cI z43 i).x))/\A z0/\A ((Fld.cI z6 i).s=(Fld.cI z43 i).s))/\(A z0/\A (z93=(↑z43.length:Int)))/\(A z0/\A (z67+z70=(↑g'.j:Int)))/\True)/\z1/\z41/\(A (g_3.R.length=g'.R.length)/\∀ i:Nat,i<g'.R.length->((True/\A z0/\A ((Rga.rI g_3.R i).y=(Rga.rI g'.R i).y))/\A z0/\A ((Rga.rI g_3.R i).x0=(Rga.rI g'.R i).x0))/\A z0/\A ((Rga.rI g_3.R i).x1=(Rga.rI g'.R i).x1))/\(A (z11.length=z99.length)/\∀ i:Nat,let z83:=(Fla.eI z11 i);let z28:=(Fla.eI z99 i); i<z99.length->(((((True/\A z0/\A (z83.x=z28.x))/\A z0/\A (z83.y=z28.y))/\A z0/\A (z83.en=z28.en))/\A z0/\A (z83.dx=z28.dx))/\A z0/\A (z83.dy=z28.dy))/\A z0/\A (z83.s=z28.s))/\z16/\True)/\A (z36.meas g'<z36.meas g_3))) (∃ g_4:Flq.ScI,let z97:=(Flp.act z2 g_4.y g_4.i); A (z103.pre g_4)/\True/\((A (g.n-g_3.i=g.n-g_4.i)/\∀ i:Nat,let z51:=(Flc.srtE g (g_4.i+i));let z50:=(Flc.srtE g (g_3.i+i)); i<g.n-g_4.i->(((((True/\A z0/\A (z50.x=z51.x))/\A z0/\A (z50.y=z51.y))/\A z0/\A (z50.en=z51.en))/\A z0/\A (z50.dx=z51.dx))/\A z0/\A (z50.dy=z51.dy))/\A z0/\A (z50.s=z51.s))/\z13/\A z9/\True/\A z9/\True)/\z1/\z41/\(A (g_3.R.length=g_4.R.length)/\∀ i:Nat,i<g_4.R.length->((True/\A z0/\A ((Rga.rI g_3.R i).y=(Rga.rI g_4.R i).y))/\A z0/\A ((Rga.rI g_3.R i).x0=(Rga.rI g_4.R i).x0))/\A z0/\A ((Rga.rI g_3.R i).x1=(Rga.rI g_4.R i).x1))/\(A (z11.length=z97.length)/\∀ i:Nat,let z84:=(Fla.eI z11 i);let z25:=(Fla.eI z97 i); i<z97.length->(((((True/\A z0/\A (z84.x=z25.x))/\A z0/\A (z84.y=z25.y))/\A z0/\A (z84.en=z25.en))/\A z0/\A (z84.dx=z25.dx))/\A z0/\A (z84.dy=z25.dy))/\A z0/\A (z84.s=z25.s))/\(True/\A z0/\A (g_1.y=g_4.y))/\True)))/\∀ g_2:Flq.ScI,z103.pre g_2->True/\True/\True/\True/\A (z35<=g_2.y+z70/\g_2.y+z70<=z37)/\True/\∃ (g':Flq.ScI),let z20:=(Flp.act z2 (g'.y-z70) g'.i); A (z77.pre g')/\True/\(((A (g.n-g_2.i=g.n-g'.i)/\∀ i:Nat,let z59:=(Flc.srtE g (g'.i+i));let z52:=(Flc.srtE g (g_2.i+i)); i<g.n-g'.i->(((((True/\A z0/\A (z52.x=z59.x))/\A z0/\A (z52.y=z59.y))/\A z0/\A (z52.en=z59.en))/\A z0/\A (z52.dx=z59.dx))/\A z0/\A (z52.dy=z59.dy))/\A z0/\A (z52.s=z59.s))/\z13/\A z9/\True/\A z9/\True)/\z1/\z41/\(A (g_2.R.length=g'.R.length)/\∀ i:Nat,i<g'.R.length->((True/\A z0/\A ((Rga.rI g_2.R i).y=(Rga.rI g'.R i).y))/\A z0/\A ((Rga.rI g_2.R i).x0=(Rga.rI g'.R i).x0))/\A z0/\A ((Rga.rI g_2.R i).x1=(Rga.rI g'.R i).x1))/\(A ((Flp.act z2 g_2.y g_2.i).length=z20.length)/\∀ i:Nat,let z85:=(Fla.eI z20 i);let z26:=(Fla.eI (Flp.act z2 g_2.y g_2.i) i); i<z20.length->(((((True/\A z0/\A (z26.x=z85.x))/\A z0/\A (z26.y=z85.y))/\A z0/\A (z26.en=z85.en))/\A z0/\A (z26.dx=z85.dx))/\A z0/\A (z26.dy=z85.dy))/\A z0/\A (z26.s=z85.s))/\(True/\A z0/\A (g_2.y+z70=g'.y))/\True)/\A (z77.meas g'<z77.meas g_1)) z10) (by kernel_rfl) ?_
 simp only [ask_iff,br_iff,eq_self,true_and,and_true,implies_true,forall_const,decide_eq_true_eq,decide_eq_false_iff_not,ne_eq,Nat.mul_one,Nat.add_zero,Nat.zero_add,Int.toNat_natCast,and_self,List.append_assoc,false_and,and_false]
 have hz1:ins1 0=false:=rfl
 obtain ⟨⟨hn,hok⟩,hb⟩:=id hg
 have e0:Int.toNat 0=0:=rfl
 have e1:(Int.ofNat 1).toNat=1:=rfl
 have e2:∀ m:Nat,Int.ofNat m=(m:Int):=fun _=>rfl
 refine ⟨hn,⟨⟨-8192,0,[]⟩,sc_start,⟨rfl,fun k _=>same_of (by rw [Nat.zero_add])⟩,⟨rfl,fun k hk=>absurd hk (Nat.not_lt_zero _)⟩,⟨rfl,fun k hk=>absurd hk (Nat.not_lt_zero _)⟩,rfl⟩,fun s hs=>⟨fun hy=>⟨⟨?_,⟨⟨s.i,?_,⟨rfl,fun k _=>same_of rfl⟩,?_,fun k hk=>same_of ?_⟩,fun i hi=>⟨fun hlt=>⟨?_,fun hle=>⟨?_,fun hen=>?_,fun hen=>?_⟩,fun hgt=>?_⟩,fun hge=>?_⟩⟩,fun i hm=>⟨fun ha=>⟨fun hni=>?_,fun hni=>?_⟩,fun ha=>?_⟩⟩,fun t ht=>?_⟩,fun hy=>?_⟩⟩
 ·have hs:ScP ins1 g s:=hs
  have:=act_len (srtE g) (s.y-1) s.i
  have:=hs.hi
  omega
 ·have hs:ScP ins1 g s:=hs
  exact ⟨Nat.le_refl _,hs.hi,hs.low⟩
 ·rw [kept_act]
 ·rw [kept_act]
 ·omega
 ·omega
 ·
  have hi:s.i<=i/\i<=g.n/\∀ k,k<i->(srtE g k).y<=s.y:=hi
  have hal:=act_len (srtE g) s.y i
  rw [e0,Nat.add_zero] at hle hen
  have hA:act (srtE g) s.y (i+1)=act (srtE g) s.y i++[srtE g i]:=by rw [act_succ,if_pos hen]
  have hpre:(scTake 30 g s).pre (i+1):=⟨by omega,by show i+1<=g.n; omega,fun k hk=>by
   by_cases c:k=i
   ·rw [c]; exact hle
   ·exact hi.2.2 k (by omega)⟩
  refine ⟨by omega,by omega,by simp only [e2]; omega,i+1,hpre,⟨⟨by simp only [e2]; omega,fun k _=>same_of (by rw [e1]; congr 1; omega)⟩,by rw [hA]; simp,?_⟩,by show g.n-(i+1)<g.n-i; omega⟩
  rw [e0,Nat.add_zero]
  exact app_of hA
 ·have hi:s.i<=i/\i<=g.n/\∀ k,k<i->(srtE g k).y<=s.y:=hi
  rw [e0,Nat.add_zero] at hle hen
  have hA:act (srtE g) s.y (i+1)=act (srtE g) s.y i:=by rw [act_succ,if_neg hen,List.append_nil]
  have hpre:(scTake 30 g s).pre (i+1):=⟨by omega,by show i+1<=g.n; omega,fun k hk=>by
   by_cases c:k=i
   ·rw [c]; exact hle
   ·exact hi.2.2 k (by omega)⟩
  refine ⟨by simp only [e2]; omega,i+1,hpre,⟨⟨by simp only [e2]; omega,fun k _=>same_of (by rw [e1]; congr 1; omega)⟩,by rw [hA],fun k _=>same_of (by rw [hA])⟩,by show g.n-(i+1)<g.n-i; omega⟩
 ·have hi:s.i<=i/\i<=g.n/\∀ k,k<i->(srtE g k).y<=s.y:=hi
  rw [e0,Nat.add_zero] at hgt
  refine ⟨i,⟨hi.1,hi.2.1,hi.2.2,fun k hk hkn=>?_⟩,⟨rfl,fun k _=>same_of rfl⟩,rfl,fun k _=>same_of rfl⟩
  by_cases c:k=i
  ·rw [c]; omega
  ·have:=srt_sorted g (show i<k by omega) hkn
   omega
 ·have hi:s.i<=i/\i<=g.n/\∀ k,k<i->(srtE g k).y<=s.y:=hi
  exact ⟨i,⟨hi.1,hi.2.1,hi.2.2,fun k hk hkn=>by omega⟩,⟨rfl,fun k _=>same_of rfl⟩,rfl,fun k _=>same_of rfl⟩
 ·have hm:ScM g s i:=hm
  have hR:=sc_break hz1 hs hm (by omega) (by omega)
  exact ⟨by rw [<-hR],fun k _=>run_same (by rw [<-hR])⟩
 ·have hm:ScM g s i:=hm
  have hs':ScP ins1 g s:=hs
  have hin:i<g.n:=by omega
  rw [e0,Nat.add_zero]
  have hF:=(all_srt (P:=Ed.ok) g hok i hin).1.2.1
  have hY:=hs'.hy
  have hup:=hm.up i (Nat.le_refl _) hin
  generalize hq:(if 8192<(srtE g i).y then 8192 else (srtE g i).y)-1=q
  have hq1:q<8192/\q<(srtE g i).y:=by rw [<-hq]; split<;>omega
  have hq2 : -9223372036854775808<=q/\q<=9223372036854775807:=by rw [<-hq]; split<;>omega
  have hsk:∀ Y,Y=(if q>s.y then q else s.y)->(scCut ins1 30 g s).pre ⟨Y,i,s.R⟩:=fun Y e=>by
   have y1:s.y<=Y:=by rw [e]; split<;>omega
   have y2:Y<8192:=by rw [e]; split<;>omega
   have y3:Y=s.y\/Y<(srtE g i).y:=by rw [e]; split<;>omega
   exact ⟨sc_skip hz1 hs hm (by omega) hin hy y1 y2 y3,y1⟩
  have hae:act (srtE g) (if q>s.y then q else s.y) i=act (srtE g) s.y i:=by
   have h0:(act (srtE g) s.y i).length=0:=by omega
   rw [List.length_eq_zero_iff.1 h0]
   refine List.filter_eq_nil_iff.2 fun e he hc=>?_
   obtain ⟨k,hk,rfl⟩:=List.mem_map.1 he
   have h1:=act_nil h0 (List.mem_range.1 hk)
   have h2:=of_decide_eq_true hc
   split at h2<;>omega
  refine ⟨by omega,hq2,⟨if q>s.y then q else s.y,i,s.R⟩,hsk _ rfl,⟨rfl,fun k _=>same_of rfl⟩,⟨rfl,fun k _=>run_same rfl⟩,⟨by show _=(act (srtE g) (if q>s.y then q else s.y) i).length; rw [hae],fun k _=>same_of (by show _=eI (act (srtE g) (if q>s.y then q else s.y) i) k; rw [hae])⟩,rfl⟩
 ·have hm:ScM g s i:=hm
  have hs':ScP ins1 g s:=hs
  have hY:=hs'.hy
  have hal:=act_len (srtE g) s.y i
  refine ⟨⟨act_ok hg hm.hi,by have:=hm.hi; omega,by omega,by omega⟩,⟨⟨i,0,s.R⟩,sc_in0 hs hm,⟨⟨rfl,fun k _=>same_of rfl⟩,rfl,rfl,⟨rfl,fun k _=>⟨rfl,rfl⟩⟩,rfl,rfl⟩,⟨rfl,fun k _=>run_same rfl⟩,rfl,fun k _=>same_of rfl⟩,fun t ht=>?_⟩
  have ht:ScJP ins1 g s t:=ht
  have hY2 : -8192<=s.y/\s.y<8192:=⟨hY.1,hy⟩
  have hrl:=row_len (y:=s.y) ht.mid.hi
  refine ⟨fun hj=>?_,fun hj=>?_⟩
  ·have hj:t.j<(row g s.y t.i).length:=by omega
   have p1:=pre_in (row_s (y:=s.y) hg ht.mid.hi) (j:=t.j) (by omega)
   have p2:=pre_in (row_s (y:=s.y) hg ht.mid.hi) (j:=t.j+1) hj
   have p3:pre (row g s.y t.i) (t.j+1)=pre (row g s.y t.i) t.j+(cI (row g s.y t.i) t.j).s:=rfl
   have hmeas:∀ R,(scIn ins1 30 g s).meas ⟨t.i,t.j+1,R⟩<(scIn ins1 30 g s).meas t:=fun R=>by
    show (row g s.y t.i).length-(t.j+1)<(row g s.y t.i).length-t.j
    omega
   refine ⟨by omega,by omega,fun hin=>?_,fun hin=>?_⟩
   ·have hvl:=vld_len ht.vl
    refine ⟨by omega,by omega,by omega,⟨t.i,t.j+1,_⟩,sc_in1 hz1 ht hY2 hj hin rfl rfl,⟨⟨⟨rfl,fun k _=>same_of rfl⟩,rfl,rfl,⟨rfl,fun k _=>⟨rfl,rfl⟩⟩,rfl,rfl⟩,⟨by rw [addL],fun k _=>run_same (by rw [addL])⟩,rfl,fun k _=>same_of rfl⟩,hmeas _⟩
   ·exact ⟨by omega,by omega,⟨t.i,t.j+1,t.R⟩,sc_in2 ht hY2 hj hin,⟨⟨⟨rfl,fun k _=>same_of rfl⟩,rfl,rfl,⟨rfl,fun k _=>⟨rfl,rfl⟩⟩,rfl,rfl⟩,⟨rfl,fun k _=>run_same rfl⟩,rfl,fun k _=>same_of rfl⟩,hmeas _⟩
  ·have hj:¬ t.j<(row g s.y t.i).length:=by omega
   exact ⟨⟨s.y,t.i,t.R⟩,⟨sc_out hz1 hb ht hY2 hj,Int.le_refl _⟩,⟨rfl,fun k _=>same_of rfl⟩,⟨rfl,fun k _=>run_same rfl⟩,⟨rfl,fun k _=>same_of rfl⟩,rfl⟩
 ·have ht:ScQ ins1 g t/\s.y<=t.y:=ht
  have hty:=ht.1.hy
  have ea:t.y+1-1=t.y:=by omega
  refine ⟨by omega,⟨t.y+1,t.i,t.R⟩,sc_next ht.1,⟨⟨rfl,fun k _=>same_of rfl⟩,⟨rfl,fun k _=>run_same rfl⟩,⟨by show _=(act (srtE g) (t.y+1-1) t.i).length; rw [ea],fun k _=>same_of (by show _=eI (act (srtE g) (t.y+1-1) t.i) k; rw [ea])⟩,rfl⟩,?_⟩
  show (8192-(t.y+1)).toNat<(8192-s.y).toNat
  omega
 ·have hR:=sc_done hs hy
  exact ⟨by rw [<-hR],fun k _=>run_same (by rw [<-hR])⟩
theorem cyc (φ:Nat->Int):∀ n,sumN (fun i=>φ ((i+1) % n)) n=sumN φ n
 | 0=>rfl
 | m+1=>by
  rw [sumN_head φ m]
  show sumN (fun i=>φ ((i+1) % (m+1))) m+φ ((m+1) % (m+1))=_
  rw [Nat.mod_self,sumN_congr (ψ:=fun k=>φ (k+1)) (fun k hk=>by show φ ((k+1) % (m+1))=φ (k+1); rw [Nat.mod_eq_of_lt (by omega)])]
  omega
theorem sumN_sub (φ ψ:Nat->Int):∀ n,sumN (fun i=>φ i-ψ i) n=sumN φ n-sumN ψ n
 | 0=>rfl
 | n+1=>by
  show sumN (fun i=>φ i-ψ i) n+(φ n-ψ n)=sumN φ n+φ n-(sumN ψ n+ψ n)
  rw [sumN_sub φ ψ n]
  omega
def up (y:Int) (p:Pt):Int:=if p.y<=y then 1 else 0
def onS (y:Int) (e:Ed):Int:=if Ed.on e y=true then e.s else 0
theorem sl_mkE (y:Int) (a b:Pt):sl (onS y) (mkE a b)=up y a-up y b:=by
 unfold mkE
 split
 ·show onS y _+0=_
  unfold onS up Ed.on
  simp only [decide_eq_true_eq]
  split<;>split<;>split<;>omega
 ·split
  ·show onS y _+0=_
   unfold onS up Ed.on
   simp only [decide_eq_true_eq]
   split<;>split<;>split<;>omega
  ·show (0:Int)=_
   unfold up
   split<;>split<;>omega
theorem sl_ed (y:Int) (l:Li):∀ j,sl (onS y) (l.ed j)=sumN (fun i=>up y (l.f i)-up y (l.f ((i+1) % l.n))) j
 | 0=>rfl
 | j+1=>by
  show sl (onS y) (l.ed j++_)=_+_
  rw [sl_app,sl_ed y l j,sl_mkE]
theorem sl_li (y:Int) (l:Li):sl (onS y) (l.ed l.n)=0:=by
 rw [sl_ed,sumN_sub (fun i=>up y (l.f i)) (fun i=>up y (l.f ((i+1) % l.n))),cyc (fun i=>up y (l.f i))]
 omega
theorem sl_lns (y:Int) (g:Lns):∀ i,sl (onS y) (g.ed i)=0
 | 0=>rfl
 | i+1=>by
  show sl (onS y) (g.ed i++_)=0
  rw [sl_app,sl_lns y g i,sl_li]
  rfl
theorem bal (g:Lns) (y:Int):tot (eI g.E) g.E.length y=0:=(sl_eI (onS y) g.E).trans (sl_lns y g g.n)
theorem okE {g:Lns}(h:g.fin) (h2:g.E.length<=1048576):okG ⟨g.E.length,eI g.E⟩:=
 ⟨⟨h2,fun i hi=>Lns.ed_ok h g.n (Nat.le_refl _) _ (eI_mem hi)⟩,bal g⟩
noncomputable def fillL (ins:Int->Bool) (g:Lns):List Rn:=ofSet (chi ins (eI g.E) g.E.length)
noncomputable def spFill1:FSpec:=mkSpec 15 (γ:=Lns) (fun | [s,_]=>some ⟨slLen s,lnsD s⟩ | _=>none) (fun g=>[lnsS g,.int .i64 0]) (fun g=>g.fin/\g.E.length<=1048576) (fun g=> .tup 2 (lst [runsS (fillL ins1 g),.int .i64 0]))
theorem ok_fill1:SpecOK Tryz.prog spFill1:=by
 refine spec_sound (specs:=[spChkFi,Fla.spEdges,spScan1]) (all_ok (⟨ok_chkFi,Fla.ok_edges,ok_scan1,trivial⟩)) (eqs:=[]) (fun _ _ h=>(List.not_mem_nil h).elim) Aff.mixed Tryz.func15 rfl (by kernel_rfl) (fun _ _=>by kernel_rfl) (fun g=>A0) (fun g=>Nat.le_of_ble_eq_true (by kernel_rfl)) ?_
 rintro g hg
 refine vc_of (B:=let A:=Sx.Ask;let z2:=(Rgl.ofSet (Flp.chi ins1 (Fla.eI g.E) g.E.length));let z1:=(IntKind.i64=IntKind.i64);let z0:=(((A (g.n=g.n)/\∀ i:Nat,i<g.n->(True/\A ((g.f i).n=(g.f i).n)/\∀ i_1:Nat,let z5:=((g.f i).f i_1); i_1<(g.f i).n->(True/\A z1/\A (z5.x=z5.x))/\A z1/\A (z5.y=z5.y))/\A ((g.f i).c=(g.f i).c))/\True)/\A g.fin);True/\True/\True/\z0/\True/\True/\True/\True/\True/\True/\True/\True/\True/\z0/\True/\((True/\(True/\(A ((30:Nat)=(30:Go.FuncId))/\True)/\True)/\(A (g.E.length=g.E.length)/\∀ i:Nat,let z3:=(Fla.eI g.E i); i<g.E.length->(((((True/\A z1/\A (z3.x=z3.x))/\A z1/\A (z3.y=z3.y))/\A z1/\A (z3.en=z3.en))/\A z1/\A (z3.dx=z3.dx))/\A z1/\A (z3.dy=z3.dy))/\A z1/\A (z3.s=z3.s))/\True)/\A (okG (Flc.SoG.mk g.E.length (Fla.eI g.E))))/\True/\True/\True/\(True/\A (z2.length=(fillL ins1 g).length)/\∀ i:Nat,let z4:=(Rga.rI (fillL ins1 g) i); i<(fillL ins1 g).length->((True/\A z1/\A ((Rga.rI z2 i).y=z4.y))/\A z1/\A ((Rga.rI z2 i).x0=z4.x0))/\A z1/\A ((Rga.rI z2 i).x1=z4.x1))/\A z1/\A ((0:Int)=(0:Int))) (by kernel_rfl) ?_
 simp only [ask_iff,br_iff,eq_self,true_and,and_true,implies_true,forall_const,decide_eq_true_eq,decide_eq_false_iff_not,ne_eq,Nat.mul_one,Nat.add_zero,Nat.zero_add,Int.toNat_natCast,and_self,List.append_assoc,false_and,and_false]
 exact ⟨hg.1,hg.1,okE hg.1 hg.2,rfl,fun k _=>run_same rfl⟩
end Go.Proofs.YtmhofgchidojoaaGreat.Flf
set_option linter.unusedSimpArgs false
set_option linter.unusedVariables false
namespace Go.Proofs.YtmhofgchidojoaaGreat.Cop
open Go.RowKit Sx Num Aff Con
set_option maxRecDepth 100000
instance (x:Int):Decidable (inC x):=by unfold inC; infer_instance
structure WiG where
 n:Nat
 f:Nat->Int
structure Seg where
 k:Int
 x:Int
 y:Int
 u:Int
 v:Int
 w:Int
structure PsG where
 p:Pt
 s:Seg
def PsG.cur (g:PsG):Cur:=⟨g.p.x,g.p.y,g.s.u,g.s.v,g.s.x,g.s.y,g.s.w⟩
def PsG.n (g:PsG):Int:=if g.s.k=2 then 1 else divN g.cur
def PsG.pt (g:PsG) (i:Int):Pt:=if g.s.k=2 then ⟨g.s.x,g.s.y⟩ else g.cur.at (i+1) (divN g.cur)
def PsG.ok (g:PsG):Prop:=g.s.k=2\/(g.s.k=3/\g.cur.ok)
def ptsS (n:Nat) (f:Nat->Pt):SV:= .sl n 2 (fun i=>lst (ptL (f i)))
end Go.Proofs.YtmhofgchidojoaaGreat.Cop
set_option linter.unusedSimpArgs false
set_option linter.unusedVariables false
namespace Go.Proofs.YtmhofgchidojoaaGreat.Coh
open Go.RowKit Sx Num Aff Con Cop
set_option maxRecDepth 100000
def hi3 (a b c:Int):Int:=max (max a b) c
end Go.Proofs.YtmhofgchidojoaaGreat.Coh
set_option linter.unusedSimpArgs false
set_option linter.unusedVariables false
namespace Go.Proofs.YtmhofgchidojoaaGreat.Flg
open Go.RowKit Sx Num Aff Con Fla Flb Flc Fld Fle Flp Flf
set_option maxRecDepth 100000
structure FwG where
 g:Lns
 most:Int
def FwG.ok (h:FwG):Prop:=(h.g.n<=9223372036854775807/\∀ i,i<h.g.n->(h.g.f i).n<=9223372036854775807)/\0<=h.most/\h.most<=32767
def cutP (m:Int) (p:Pt):Pt:=⟨cutI p.x (-m) m,cutI p.y (-m) m⟩
def fwL (m:Int) (l:Li):Li:=⟨min l.n 8,fun j=>cutP m (l.f j),l.c⟩
def FwG.out (h:FwG):Lns:=⟨min h.g.n 4,fun i=>fwL h.most (h.g.f i)⟩
def cr (a b:Pt):Int:=b.x*a.y-a.x*b.y
def liAr (l:Li):Nat->Int
 | 0=>0
 | j+1=>liAr l j+cr (l.f j) (l.f ((j+1) % l.n))
def lnAr (g:Lns):Nat->Int
 | 0=>0
 | i+1=>lnAr g i+liAr (g.f i) (g.f i).n
theorem cr_in {a b:Pt}(ha:small 32767 a) (hb:small 32767 b) : -2147352578<=cr a b/\cr a b<=2147352578:=by
 have h1:=Fla.mul_in (A:=32767) (X:=32767) hb.1 ha.2
 have h2:=Fla.mul_in (A:=32767) (X:=32767) ha.1 hb.2
 unfold cr
 omega
theorem ar_in {l:Li}(h:l.fin):∀ j,j<=l.n-> -(2147352578*(j:Int))<=liAr l j/\liAr l j<=2147352578*(j:Int)
 | 0,_=>⟨Int.le_refl _,Int.le_refl _⟩
 | j+1,hj=>by
  have:=ar_in h j (by omega)
  have:=cr_in (h.2 j (by omega)) (h.2 _ (Nat.mod_lt (j+1) (by omega)))
  show _<=liAr l j+cr _ _/\liAr l j+cr _ _<=_
  omega
theorem lar_in {g:Lns}(h:g.fin):∀ i,i<=g.n-> -(2198889039872*(i:Int))<=lnAr g i/\lnAr g i<=2198889039872*(i:Int)
 | 0,_=>⟨Int.le_refl _,Int.le_refl _⟩
 | i+1,hi=>by
  have:=lar_in h i (by omega)
  have h2:=(h.2 i (by omega)).1
  have:=ar_in (h.2 i (by omega)) _ (Nat.le_refl _)
  show _<=lnAr g i+liAr (g.f i) _/\lnAr g i+liAr (g.f i) _<=_
  omega
def arOut (g:Lns):Inv:=⟨Nat,fun i=>i<=g.n,fun i=>⟨[(5,.int .i64 (lnAr g i)),(16,lnsS g),(17,.int .i64 g.n),(18,.int .i64 i)],[]⟩,fun i=>g.n-i⟩
def arIn (g:Lns) (i:Nat):Inv:=⟨Nat,fun j=>j<=(g.f i).n,fun j=>⟨[(5,.int .i64 (lnAr g i+liAr (g.f i) j)),(7,.own 0 0),(16,lnsS g),(17,.int .i64 g.n),(18,.int .i64 i),(23,.sl (g.f i).n 2 (fun j=>lst (ptL ((g.f i).f j)))),(24,.int .i64 (g.f i).n),(25,.int .i64 j)],
 [.cells 2 (lst (liL (g.f i))) 31]⟩,fun j=>(g.f i).n-j⟩
def spArea2:FSpec:=mkSpec 52 (γ:=Lns) (fun | [s]=>some ⟨slLen s,lnsD s⟩ | _=>none) (fun g=>[lnsS g]) Lns.fin (fun g=> .tup 2 (lst [.int .i64 (lnAr g g.n),.int .i64 0]))
theorem ok_area2:SpecOK Tryz.prog spArea2:=by
 refine spec_sound (specs:=[spChkFi]) (all_ok (⟨ok_chkFi,trivial⟩)) (eqs:=[]) (fun _ _ h=>(List.not_mem_nil h).elim) Aff.mixed Tryz.func52 rfl (by kernel_rfl) (fun _ _=>by kernel_rfl) (fun g=>(⟨[(6,.nest (arOut g) (fun i=>[(9,.inv (arIn g i))]))],[]⟩:Ann)) (fun g=>Nat.le_of_ble_eq_true (by kernel_rfl)) ?_
 rintro g hg
 refine vc_of (B:=let A:=Sx.Ask;let z14:=(0:Int);let z12:=(1:Int);let z8:=(9223372036854775807:Int);let z5:=(-9223372036854775808:Int);let z2:=(IntKind.i64=IntKind.i64);let z7:=(A z2/\A ((↑g.n:Int)=(↑g.n:Int)));let z0:=(A (g.n=g.n)/\∀ i:Nat,i<g.n->(True/\A ((g.f i).n=(g.f i).n)/\∀ i_1:Nat,let z15:=((g.f i).f i_1); i_1<(g.f i).n->(True/\A z2/\A (z15.x=z15.x))/\A z2/\A (z15.y=z15.y))/\A ((g.f i).c=(g.f i).c));True/\True/\True/\((z0/\True)/\A g.fin)/\True/\True/\True/\True/\True/\True/\True/\(∃ g_1:Nat,A ((arOut g).pre g_1)/\((A z2/\A (z14=lnAr g g_1))/\z0/\z7/\(A z2/\A (z14=(↑g_1:Int)))/\True)/\True)/\∀ g_1:Nat,let z16:=(arIn g g_1);let z11:=(↑g_1:Int);let z6:=(g.f z11.toNat);let z4:=(g.f g_1);let z10:=(↑z4.n:Int); (arOut g).pre g_1->True/\Sx.Br (decide (z11<(↑g.n:Int))) (A (z14<=z11/\z11<(↑g.n:Int))/\True/\True/\True/\True/\True/\True/\True/\(∃ g_2:Nat,A (z16.pre g_2)/\((A z2/\A (lnAr g g_1=lnAr g g_1+liAr z4 g_2))/\A ((0:Nat)=(0:Nat))/\z0/\z7/\(A z2/\A (z11=z11))/\(A (z6.n=z4.n)/\∀ i:Nat,i<z4.n->(True/\A z2/\A ((z6.f i).x=(z4.f i).x))/\A z2/\A ((z6.f i).y=(z4.f i).y))/\(A z2/\A ((↑z6.n:Int)=z10))/\(A z2/\A (z14=(↑g_2:Int)))/\True)/\((True/\A (z6.n=z4.n)/\∀ i:Nat,i<z4.n->(True/\A z2/\A ((z6.f i).x=(z4.f i).x))/\A z2/\A ((z6.f i).y=(z4.f i).y))/\A (z6.c=z4.c))/\True)/\∀ g_2:Nat,let z9:=(↑g_2:Int);let z3:=(z4.f z9.toNat);let z1:=(z4.f ((z9+z12).tmod z10).toNat);let z13:=(z1.x*z3.y-z3.x*z1.y); z16.pre g_2->True/\Sx.Br (decide (z9<z10)) (True/\A (z14<=z9/\z9<z10)/\True/\True/\True/\True/\True/\True/\True/\A (z5<=z9+z12/\z9+z12<=z8)/\True/\True/\True/\A (z10≠z14)/\A (z14<=(z9+z12).tmod z10/\(z9+z12).tmod z10<z10)/\True/\True/\True/\True/\True/\True/\True/\True/\A (z5<=z1.x*z3.y/\z1.x*z3.y<=z8)/\True/\True/\True/\True/\A (z5<=z3.x*z1.y/\z3.x*z1.y<=z8)/\A (z5<=z1.x*z3.y-z3.x*z1.y/\z1.x*z3.y-z3.x*z1.y<=z8)/\A (z5<=lnAr g g_1+liAr z4 g_2+z13/\lnAr g g_1+liAr z4 g_2+z13<=z8)/\True/\A (z5<=z9+z12/\z9+z12<=z8)/\True/\∃ (g':Nat),A (z16.pre g')/\(((A z2/\A (lnAr g g_1+liAr z4 g_2+z13=lnAr g g_1+liAr z4 g'))/\A ((0:Nat)=(0:Nat))/\z0/\z7/\(A z2/\A (z11=z11))/\(A (z4.n=z4.n)/\∀ i:Nat,i<z4.n->(True/\A z2/\A ((z4.f i).x=(z4.f i).x))/\A z2/\A ((z4.f i).y=(z4.f i).y))/\(A z2/\A (z10=z10))/\(A z2/\A (z9+z12=(↑g':Int)))/\True)/\((True/\A (z4.n=z4.n)/\∀ i:Nat,i<z4.n->(True/\A z2/\A ((z4.f i).x=(z4.f i).x))/\A z2/\A ((z4.f i).y=(z4.f i).y))/\A (z4.c=z4.c))/\True)/\A (z16.meas g'<z16.meas g_2)) (A (z5<=z11+z12/\z11+z12<=z8)/\True/\∃ (g':Nat),A ((arOut g).pre g')/\(((A z2/\A (lnAr g g_1+liAr z4 g_2=lnAr g g'))/\z0/\z7/\(A z2/\A (z11+z12=(↑g':Int)))/\True)/\True)/\A ((arOut g).meas g'<(arOut g).meas g_1))) (True/\True/\True/\True/\(True/\A z2/\A (lnAr g g_1=lnAr g g.n))/\A z2/\A (z14=z14))) (by kernel_rfl) ?_
 simp only [ask_iff,br_iff,eq_self,true_and,and_true,implies_true,forall_const,decide_eq_true_eq,decide_eq_false_iff_not,ne_eq,Nat.mul_one,Nat.add_zero,Nat.zero_add,Int.toNat_natCast,and_self,List.append_assoc,false_and,and_false]
 have hn:=hg.1
 refine ⟨hg,⟨0,Nat.zero_le _,rfl,rfl⟩,fun i hi=>⟨fun hlt=>?_,fun hge=>?_⟩⟩
 ·have hi:i<=g.n:=hi
  have hp:=hg.2 i (by omega)
  have hn2:=hp.1
  have hl1:=lar_in hg i hi
  refine ⟨by omega,⟨0,Nat.zero_le _,by show _=_+(0:Int); omega,rfl⟩,fun j hj=>⟨fun hjn=>?_,fun hjn=>?_⟩⟩
  ·have hj:j<=(g.f i).n:=hj
   have hjl:j<(g.f i).n:=by omega
   have hm:(j+1) % (g.f i).n<(g.f i).n:=Nat.mod_lt _ (by omega)
   have ht:((j:Int)+1).tmod ((g.f i).n:Int)=(((j+1) % (g.f i).n:Nat):Int):=rfl
   have ha:=hp.2 j hjl
   have hb:=hp.2 _ hm
   have hl2:=ar_in hp j hj
   have hpre:(arIn g i).pre (j+1):=by show j+1<=(g.f i).n; omega
   have hmeas:(arIn g i).meas (j+1)<(arIn g i).meas j:=by
    show (g.f i).n-(j+1)<(g.f i).n-j
    omega
   have h0:liAr (g.f i) (j+1)=liAr (g.f i) j+cr ((g.f i).f j) ((g.f i).f ((j+1) % (g.f i).n)):=rfl
   have hm0:(0:Int)<=(((j+1) % (g.f i).n:Nat):Int)/\(((j+1) % (g.f i).n:Nat):Int)<((g.f i).n:Int):=by omega
   rw [ht,Int.toNat_natCast]
   clear ht hm
   generalize (j+1) % (g.f i).n=q at *
   generalize (g.f i).f j=a at *
   generalize (g.f i).f q=b at *
   have hc:=cr_in ha hb
   have h1:=Fla.mul_in (A:=32767) (X:=32767) hb.1 ha.2
   have h2:=Fla.mul_in (A:=32767) (X:=32767) ha.1 hb.2
   unfold cr at hc h0
   refine ⟨by omega,by omega,by omega,hm0,by omega,by omega,by omega,by omega,by omega,j+1,hpre,⟨by rw [h0]; omega,rfl⟩,hmeas⟩
  ·have hj:j<=(g.f i).n:=hj
   obtain rfl:j=(g.f i).n:=by omega
   exact ⟨by omega,i+1,(show i+1<=g.n by omega),⟨rfl,rfl⟩,by show g.n-(i+1)<g.n-i; omega⟩
 ·have hi:i<=g.n:=hi
  rw [show i=g.n by omega]
structure WiG where
 g:Lns
 x:Int
 y:Int
def WiG.C (h:WiG):List Cr:=crs (eI h.g.E) h.y h.g.E.length
end Go.Proofs.YtmhofgchidojoaaGreat.Flg
set_option linter.unusedSimpArgs false
set_option linter.unusedVariables false
namespace Go.Proofs.YtmhofgchidojoaaGreat.Stb
open Go.RowKit Sx Num Aff Con Fla Sta
set_option maxRecDepth 100000
theorem sm {M x y:Int}(h1 : -M<=x/\x<=M) (h2 : -M<=y/\y<=M):small M ⟨x,y⟩:=⟨h1,h2⟩
theorem sm_le {M K:Int}{p:Pt}(h:small M p) (hk:M<=K):small K p:=by
 obtain ⟨⟨a1,a2⟩,a3,a4⟩:=h
 exact ⟨⟨by omega,by omega⟩,by omega,by omega⟩
theorem nr_in {x b M:Int}(hb:1<=b) (hM:0<=M) (h : -M<=x/\x<=M) : -M<=nr x b/\nr x b<=M:=by
 have h1:M*1<=M*b:=Int.mul_le_mul_of_nonneg_left hb hM
 rw [Int.mul_one] at h1
 exact nr_between hb (by rw [Int.neg_mul]; omega) (by omega)
structure Olr where
 w:Int
 cap:Int
 join:Int
 limit:Int
 n:Nat
 m:Nat->Nat
 p:Nat->Nat->Pt
 k:Nat
 d:Nat->Pt
def oCells (v:Nat) (o:Olr):SO:= .cells 6 (lst [.int .i64 o.w,.int .i64 o.cap,.int .i64 o.join,.int .i64 o.limit,.osl 1 v,.osl 2 v]) 54
def oParts (v:Nat) (o:Olr):SO:= .deep v o.n 2 2 o.m (fun i j=>lst (ptL (o.p i j))) (fun _=>lst [.any,.lit true]) 31 28 none
def oDiscs (v:Nat) (o:Olr):SO:= .row v o.k 2 (fun i=>lst (ptL (o.d i))) 28
def oO (v:Nat) (o:Olr):List SO:=[oCells v o,oParts v o,oDiscs v o]
def olD (g:Nat->SV) (n:Nat) (m:Nat->Nat) (p:Nat->Nat->Nat->SV) (k:Nat) (d:Nat->Nat->SV):Olr:=⟨Sx.intOf (g 0),Sx.intOf (g 1),Sx.intOf (g 2),Sx.intOf (g 3),n,m,fun i j=>ptD (p i j),k,fun i=>ptD (d i)⟩
def Olr.add (o:Olr) (l:Nat) (f:Nat->Pt):Olr:=⟨o.w,o.cap,o.join,o.limit,o.n+1,fun i=>bif decide (i=o.n) then l else o.m i,fun i j=>⟨bif decide (i=o.n) then (f j).x else (o.p i j).x,bif decide (i=o.n) then (f j).y else (o.p i j).y⟩,o.k,o.d⟩
def Olr.ok (o:Olr):Prop:=o.n<=1048576/\o.k<=1048576
def Olr.low (o:Olr):Prop:=o.n<=1048000/\o.k<=1048000
structure PaG where
 o:Olr
 l:Nat
 f:Nat->Pt
def paI (g:PaG):Inv:=⟨Nat,fun i=>i<=g.l,fun i=>⟨[(0,.own 0 0),(4,.osl 3 0),(10,.sl g.l 2 (fun i=>lst (ptL (g.f i)))),(11,.int .i64 g.l),(12,.int .i64 i)],[oCells 0 g.o,oParts 0 g.o,oDiscs 0 g.o,
 .row 0 g.l 2 (fun j=>lst [.int .i64 (bif decide (j<i) then (g.f j).x else 0),.int .i64 (bif decide (j<i) then (g.f j).y else 0)]) 28]⟩,fun i=>g.l-i⟩
def spPart:FSpec:=mkSpecM 47 [.arg 0,.cell 0 4,.cell 0 5] (γ:=PaG) (fun | [_,s],[.cells _ g _,.deep _ n _ _ m p _ _ _ _,.row _ k _ d _]=>some ⟨olD g n m p k d,slLen s,pxD s⟩ | _,_=>none) (fun g=>[.own 0 0,.sl g.l 2 (fun i=>lst (ptL (g.f i)))])
 (fun g=>oO 0 g.o) (fun g=>g.o.ok/\g.l<=1048576) (fun _=> .tup 0 (lst [])) (fun g=>oO 1 (g.o.add g.l g.f))
theorem ok_part:SpecOK Tryz.prog spPart:=by
 refine spec_soundM (specs:=[]) (all_ok trivial) (eqs:=[]) (fun _ _ h=>(List.not_mem_nil h).elim) Aff.mixed Tryz.func47 rfl (by kernel_rfl) (fun _ _=>by kernel_rfl) (fun g=>(⟨[(2,.inv (paI g))],[(1000006,[.unfocus 1])]⟩:Ann)) true (fun g=>Nat.le_of_ble_eq_true (by kernel_rfl)) ?_
 rintro ⟨o,l,f⟩ ⟨ho,hl⟩
 refine vc_of (B:=let A:=Sx.Ask;let z10:=(1:Nat);let z9:=(0:Nat);let z8:=(paI (PaG.mk o l f));let z7:=(0:Int);let z5:=(↑l:Int);let z0:=(IntKind.i64=IntKind.i64);let z4:=(A (l=l)/\∀ i:Nat,i<l->(True/\A z0/\A ((f i).x=(f i).x))/\A z0/\A ((f i).y=(f i).y));let z3:=(A (o.k=o.k)/\∀ i:Nat,i<o.k->(True/\A z0/\A ((o.d i).x=(o.d i).x))/\A z0/\A ((o.d i).y=(o.d i).y));let z2:=(A (o.n=o.n)/\(∀ i:Nat,i<o.n->A (o.m i=o.m i)/\∀ (i':Nat),i'<o.m i->(True/\A z0/\A ((o.p i i').x=(o.p i i').x))/\A z0/\A ((o.p i i').y=(o.p i i').y))/\∀ i:Nat,i<o.n->True/\A (true=true));let z1:=((((((True/\A z0/\A (o.w=o.w))/\A z0/\A (o.cap=o.cap))/\A z0/\A (o.join=o.join))/\A z0/\A (o.limit=o.limit))/\True)/\True);True/\True/\A (z7<=z5/\z5<=z5/\(↑(16:Nat):Int)*z5<=(140737488355328:Int)/\z5<=(9223372036854775807:Int))/\True/\True/\True/\True/\(∃ g:Nat,A (z8.pre g)/\True/\(A (z9=z9)/\True/\z4/\(A z0/\A (z5=z5))/\(A z0/\A (z7=(↑g:Int)))/\True)/\z1/\z2/\z3/\(A (z5.toNat=l)/\∀ i:Nat,i<l->(True/\A z0/\A (z7=bif decide (i<g) then (f i).x else z7))/\A z0/\A (z7=bif decide (i<g) then (f i).y else z7))/\True)/\∀ g:Nat,let z6:=(↑g:Int); z8.pre g->True/\Sx.Br (decide (z6<z5)) (True/\A (z7<=z6/\z6<z5)/\True/\True/\True/\True/\True/\True/\True/\True/\A (z7<=z6/\z6<z5)/\A (z6.toNat<l)/\A ((-9223372036854775808:Int)<=z6+(1:Int)/\z6+(1:Int)<=(9223372036854775807:Int))/\True/\∃ (g':Nat),A (z8.pre g')/\True/\((A (z9=z9)/\True/\z4/\(A z0/\A (z5=z5))/\(A z0/\A (z6+(1:Int)=(↑g':Int)))/\True)/\z1/\z2/\z3/\(A (l=l)/\∀ i:Nat,i<l->(True/\A z0/\A ((bif decide (i=z6.toNat/\z9<=z9/\z9<z9+(2:Nat)) then (f z6.toNat).x else bif decide (i<g) then (f i).x else z7)=bif decide (i<g') then (f i).x else z7))/\A z0/\A ((bif decide (i=z6.toNat/\z9<=z10/\z10<z9+(2:Nat)) then (f z6.toNat).y else bif decide (i<g) then (f i).y else z7)=bif decide (i<g') then (f i).y else z7))/\True)/\A (z8.meas g'<z8.meas g)) (True/\True/\True/\True/\True/\True/\True/\True/\A (o.n+z10<=(9223372036854775807:Nat)/\(o.n+z10)*(32:Nat)<=(140737488355328:Nat))/\True/\True/\True/\True/\True/\(True/\True)/\z1/\(A (o.n+z10=o.n+z10)/\(∀ i:Nat,i<o.n+z10->A ((bif decide (i=o.n) then l else o.m i)=(o.add l f).m i)/\∀ (i':Nat),i'<(o.add l f).m i->(True/\A z0/\A ((bif decide (i=o.n) then bif decide (i'<g) then (f i').x else z7 else (o.p i i').x)=bif decide (i=o.n) then (f i').x else (o.p i i').x))/\A z0/\A ((bif decide (i=o.n) then bif decide (i'<g) then (f i').y else z7 else (o.p i i').y)=bif decide (i=o.n) then (f i').y else (o.p i i').y))/\∀ i:Nat,i<o.n+z10->True/\A (true=true))/\(A (o.k=o.k)/\∀ i:Nat,i<o.k->(True/\A z0/\A ((o.d i).x=((o.add l f).d i).x))/\A z0/\A ((o.d i).y=((o.add l f).d i).y))/\True)) (by kernel_rfl) ?_
 simp only [ask_iff,br_iff,eq_self,true_and,and_true,implies_true,forall_const,decide_eq_true_eq,decide_eq_false_iff_not,ne_eq,Nat.mul_one,Nat.add_zero,Nat.zero_add,Int.toNat_natCast,and_self,false_and,and_false]
 obtain ⟨hn,hk⟩:o.n<=1048576/\o.k<=1048576:=ho
 have hl:l<=1048576:=hl
 refine ⟨by omega,⟨0,Nat.zero_le _,rfl,fun i _=>by rw [decide_eq_false (Nat.not_lt_zero i)]; exact ⟨rfl,rfl⟩⟩,fun g hg=>⟨fun hlt=>?_,fun hge=>⟨by omega,fun i hi=>⟨rfl,fun j hj=>?_⟩,fun i _=>⟨rfl,rfl⟩⟩⟩⟩
 ·have hg:g<=l:=hg
  refine ⟨by omega,by omega,by omega,by omega,g+1,show g+1<=l by omega,⟨by omega,fun i hi=>?_⟩,show l-(g+1)<l-g by omega⟩
  by_cases h:i=g
  ·rw [decide_eq_true (show i=g/\0<=0/\0<2 by omega),decide_eq_true (show i=g/\0<=1/\1<2 by omega),decide_eq_true (show i<g+1 by omega),h]
   exact ⟨rfl,rfl⟩
  ·rw [decide_eq_false (show ¬ (i=g/\0<=0/\0<2) by omega),decide_eq_false (show ¬ (i=g/\0<=1/\1<2) by omega),decide_eq_decide.2 (show i<g+1<->i<g by omega)]
   exact ⟨rfl,rfl⟩
 ·have hg:g<=l:=hg
  by_cases h:i=o.n
  ·have hj:j<bif decide (i=o.n) then l else o.m i:=hj
   rw [decide_eq_true h] at hj ⊢
   have hj:j<l:=hj
   rw [decide_eq_true (show j<g by omega)]
   exact ⟨rfl,rfl⟩
  ·rw [decide_eq_false h]
   exact ⟨rfl,rfl⟩
def Olr.dsc (o:Olr) (c:Pt):Olr:=⟨o.w,o.cap,o.join,o.limit,o.n,o.m,o.p,o.k+1,fun i=>⟨bif decide (i<o.k) then (o.d i).x else c.x,bif decide (i<o.k) then (o.d i).y else c.y⟩⟩
def tipP (a b:Sid):Pt:=⟨nr (dotP a.n a.n*(addP a.n b.n).x) (dotP a.n a.n+dotP a.n b.n),nr (dotP a.n a.n*(addP a.n b.n).y) (dotP a.n a.n+dotP a.n b.n)⟩
def p3 (a b c:Pt) (i:Nat):Pt:=⟨bif decide (i=2) then c.x else bif decide (i=1) then b.x else a.x,bif decide (i=2) then c.y else bif decide (i=1) then b.y else a.y⟩
def p4 (a b c d:Pt) (i:Nat):Pt:=⟨bif decide (i=3) then d.x else bif decide (i=2) then c.x else bif decide (i=1) then b.x else a.x,bif decide (i=3) then d.y else bif decide (i=2) then c.y else bif decide (i=1) then b.y else a.y⟩
def sgn (a b:Sid):Int:=if crP a.d b.d>0 then -1 else 1
def jMiter (o:Olr) (a b:Sid):Prop:=o.join=0/\dotP a.n a.n+dotP a.n b.n>0/\512*dotP a.n a.n<=o.limit*o.limit*(dotP a.n a.n+dotP a.n b.n)
instance (o a b):Decidable (jMiter o a b):=by unfold jMiter; infer_instance
def Olr.jn (o:Olr) (a b:Sid):Olr:=
 if o.join=1 then o.dsc b.p else if crP a.d b.d=0 then o
 else if jMiter o a b then o.add 4 (p4 b.p (addP b.p (mulP (sgn a b) a.n)) (addP b.p (mulP (sgn a b) (tipP a b))) (addP b.p (mulP (sgn a b) b.n)))
 else o.add 3 (p3 b.p (addP b.p (mulP (sgn a b) a.n)) (addP b.p (mulP (sgn a b) b.n)))
structure JnG where
 o:Olr
 a:Sid
 b:Sid
def Sid.ok (s:Sid):Prop:=(small 32767 s.p/\small 32767 s.q)/\small 65536 s.d/\small 600 s.n/\small 600 s.e
def JnG.ok (g:JnG):Prop:=(g.o.low/\0<=g.o.limit/\g.o.limit<=1024)/\Sid.ok g.a/\Sid.ok g.b
def spJn:FSpec:=mkSpecM 50 [.arg 0,.cell 0 4,.cell 0 5] (γ:=JnG) (fun | [_,.agg _ a,.agg _ b],[.cells _ g _,.deep _ n _ _ m p _ _ _ _,.row _ k _ d _]=>some ⟨olD g n m p k d,sidD a,sidD b⟩ | _,_=>none) (fun g=>[.own 0 0,sidS g.a,sidS g.b])
 (fun g=>oO 0 g.o) JnG.ok (fun _=> .tup 0 (lst [])) (fun g=>oO 1 (g.o.jn g.a g.b))
theorem ok_jn:SpecOK Tryz.prog spJn:=by
 refine spec_soundM (specs:=[spCrossV,spTimes,spPlus,spDot,spNear,spVec,spPart]) (all_ok (⟨ok_crossV,ok_times,ok_plus,ok_dot,ok_near,ok_vec,ok_part,trivial⟩)) (eqs:=[]) (fun _ _ h=>(List.not_mem_nil h).elim) Aff.mixed Tryz.func50 rfl (by kernel_rfl) (fun _ _=>by kernel_rfl) (fun g=>A0) true (fun g=>Nat.le_of_ble_eq_true (by kernel_rfl)) ?_
 rintro ⟨o,a,b⟩ hg
 refine vc_of (B:=let K:=Sx.Br;let A:=Sx.Ask;let z53:=(1048576:Nat);let z52:=(4:Nat);let z50:=(65536:Int);let z49:=(true=true);let z47:=(decide ((0:Int)<Sta.dotP a.n a.n+Sta.dotP a.n b.n));let z41:=((0:Nat)=(0:Nat));let z38:=(4611686018427387904:Int);let z36:=(True/\True);let z33:=(a.n.x+b.n.x);let z32:=(a.n.y+b.n.y);let z28:=(3:Nat);let z27:=(2:Nat);let z26:=(1:Nat);let z25:=(9223372036854775807:Int);let z24:=(-9223372036854775808:Int);let z48:=(z24<=o.limit*o.limit/\o.limit*o.limit<=z25);let z44:=(z24<=Sta.dotP a.n a.n*z32/\Sta.dotP a.n a.n*z32<=z25);let z43:=(z24<=Sta.dotP a.n a.n*z33/\Sta.dotP a.n a.n*z33<=z25);let z37:=(z24<=(512:Int)*Sta.dotP a.n a.n/\(512:Int)*Sta.dotP a.n a.n<=z25);let z23:=(o.jn a b);let z51:=(o.n+z26=z23.n);let z22:=(1073741824:Int);let z18:=(1:Int);let z16:=(-1:Int);let z11:=(Sta.dotP a.n a.n*z32);let z10:=(Sta.dotP a.n a.n*z33);let z8:=(z24<=Sta.dotP a.n a.n+Sta.dotP a.n b.n/\Sta.dotP a.n a.n+Sta.dotP a.n b.n<=z25);let z6:=(Sta.dotP a.n a.n+Sta.dotP a.n b.n);let z42:=(z24<=o.limit*o.limit*z6/\o.limit*o.limit*z6<=z25);let z40:=(decide ((512:Int)*Sta.dotP a.n a.n<=o.limit*o.limit*z6));let z0:=(IntKind.i64=IntKind.i64);let z46:=(A z0/\A (z18=z18));let z45:=(A z0/\A (z16=z16));let z31:=(A z0/\A (Sta.dotP a.n a.n+Sta.dotP a.n b.n=Sta.dotP a.n a.n+Sta.dotP a.n b.n));let z30:=((True/\A z0/\A (nr z10 z6=nr z10 z6))/\A z0/\A (nr z11 z6=nr z11 z6));let z29:=(((A z0/\A (nr z10 z6=nr z10 z6))/\(A z0/\A (nr z11 z6=nr z11 z6))/\True)/\A True);let z21:=(A (o.n=z23.n)/\(∀ i:Nat,i<z23.n->A (o.m i=z23.m i)/\∀ (i':Nat),i'<z23.m i->(True/\A z0/\A ((o.p i i').x=(z23.p i i').x))/\A z0/\A ((o.p i i').y=(z23.p i i').y))/\∀ i:Nat,i<z23.n->True/\A z49);let z20:=((True/\A z0/\A (b.n.x=b.n.x))/\A z0/\A (b.n.y=b.n.y));let z19:=((True/\A z0/\A (b.p.x=b.p.x))/\A z0/\A (b.p.y=b.p.y));let z17:=(A (o.k=o.k)/\∀ i:Nat,i<o.k->(True/\A z0/\A ((o.d i).x=(o.d i).x))/\A z0/\A ((o.d i).y=(o.d i).y));let z15:=(((A z0/\A (Sta.dotP a.n a.n*z32=Sta.dotP a.n a.n*z32))/\z31/\True)/\A (((-4611686018427387904:Int)<=Sta.dotP a.n a.n*z32/\Sta.dotP a.n a.n*z32<=z38)/\z18<=Sta.dotP a.n a.n+Sta.dotP a.n b.n/\Sta.dotP a.n a.n+Sta.dotP a.n b.n<=z38));let z14:=(((A z0/\A (Sta.dotP a.n a.n*z33=Sta.dotP a.n a.n*z33))/\z31/\True)/\A (((-4611686018427387904:Int)<=Sta.dotP a.n a.n*z33/\Sta.dotP a.n a.n*z33<=z38)/\z18<=Sta.dotP a.n a.n+Sta.dotP a.n b.n/\Sta.dotP a.n a.n+Sta.dotP a.n b.n<=z38));let z13:=((((((True/\A z0/\A (o.w=o.w))/\A z0/\A (o.cap=o.cap))/\A z0/\A (o.join=o.join))/\A z0/\A (o.limit=o.limit))/\True)/\True);let z12:=((True/\A z0/\A (a.n.x=a.n.x))/\A z0/\A (a.n.y=a.n.y));let z39:=((z12/\z20/\True)/\A (Fla.small z22 a.n/\Fla.small z22 b.n));let z35:=((z12/\z20/\True)/\A (Fla.small z50 a.n/\Fla.small z50 b.n));let z34:=((z12/\z12/\True)/\A (Fla.small z50 a.n/\Fla.small z50 a.n));let z9:=(A (o.n=o.n)/\(∀ i:Nat,i<o.n->A (o.m i=o.m i)/\∀ (i':Nat),i'<o.m i->(True/\A z0/\A ((o.p i i').x=(o.p i i').x))/\A z0/\A ((o.p i i').y=(o.p i i').y))/\∀ i:Nat,i<o.n->True/\A z49);let z7:=(A (o.k=z23.k)/\∀ i:Nat,i<z23.k->(True/\A z0/\A ((o.d i).x=(z23.d i).x))/\A z0/\A ((o.d i).y=(z23.d i).y));let z5:=((((((True/\A z0/\A (o.w=z23.w))/\A z0/\A (o.cap=z23.cap))/\A z0/\A (o.join=z23.join))/\A z0/\A (o.limit=z23.limit))/\True)/\True);let z4:=(A z51/\(∀ i:Nat,i<z23.n->A ((o.add z28 fun (i:Nat)=>Con.Pt.mk (bif decide (i=z27) then b.p.x+z18*b.n.x else bif decide (i=z26) then b.p.x+z18*a.n.x else b.p.x) (bif decide (i=z27) then b.p.y+z18*b.n.y else bif decide (i=z26) then b.p.y+z18*a.n.y else b.p.y)).m i=z23.m i)/\∀ (i':Nat),i'<z23.m i->(True/\A z0/\A ((bif decide (i=o.n) then bif decide (i'=z27) then b.p.x+z18*b.n.x else bif decide (i'=z26) then b.p.x+z18*a.n.x else b.p.x else (o.p i i').x)=(z23.p i i').x))/\A z0/\A ((bif decide (i=o.n) then bif decide (i'=z27) then b.p.y+z18*b.n.y else bif decide (i'=z26) then b.p.y+z18*a.n.y else b.p.y else (o.p i i').y)=(z23.p i i').y))/\∀ i:Nat,i<z23.n->True/\A z49);let z3:=(A z51/\(∀ i:Nat,i<z23.n->A ((o.add z28 fun (i:Nat)=>Con.Pt.mk (bif decide (i=z27) then b.p.x+z16*b.n.x else bif decide (i=z26) then b.p.x+z16*a.n.x else b.p.x) (bif decide (i=z27) then b.p.y+z16*b.n.y else bif decide (i=z26) then b.p.y+z16*a.n.y else b.p.y)).m i=z23.m i)/\∀ (i':Nat),i'<z23.m i->(True/\A z0/\A ((bif decide (i=o.n) then bif decide (i'=z27) then b.p.x+z16*b.n.x else bif decide (i'=z26) then b.p.x+z16*a.n.x else b.p.x else (o.p i i').x)=(z23.p i i').x))/\A z0/\A ((bif decide (i=o.n) then bif decide (i'=z27) then b.p.y+z16*b.n.y else bif decide (i'=z26) then b.p.y+z16*a.n.y else b.p.y else (o.p i i').y)=(z23.p i i').y))/\∀ i:Nat,i<z23.n->True/\A z49);let z2:=((True/\(A z41/\(A (z28=z28)/\∀ i:Nat,i<z28->(True/\A z0/\A ((bif decide (i=z27) then b.p.x+z18*b.n.x else bif decide (i=z26) then b.p.x+z18*a.n.x else b.p.x)=bif decide (i=z27) then b.p.x+z18*b.n.x else bif decide (i=z26) then b.p.x+z18*a.n.x else b.p.x))/\A z0/\A ((bif decide (i=z27) then b.p.y+z18*b.n.y else bif decide (i=z26) then b.p.y+z18*a.n.y else b.p.y)=bif decide (i=z27) then b.p.y+z18*b.n.y else bif decide (i=z26) then b.p.y+z18*a.n.y else b.p.y))/\True)/\z13/\z9/\z17/\True)/\A (o.ok/\z28<=z53));let z1:=((True/\(A z41/\(A (z28=z28)/\∀ i:Nat,i<z28->(True/\A z0/\A ((bif decide (i=z27) then b.p.x+z16*b.n.x else bif decide (i=z26) then b.p.x+z16*a.n.x else b.p.x)=bif decide (i=z27) then b.p.x+z16*b.n.x else bif decide (i=z26) then b.p.x+z16*a.n.x else b.p.x))/\A z0/\A ((bif decide (i=z27) then b.p.y+z16*b.n.y else bif decide (i=z26) then b.p.y+z16*a.n.y else b.p.y)=bif decide (i=z27) then b.p.y+z16*b.n.y else bif decide (i=z26) then b.p.y+z16*a.n.y else b.p.y))/\True)/\z13/\z9/\z17/\True)/\A (o.ok/\z28<=z53));True/\True/\True/\True/\True/\True/\True/\True/\True/\True/\True/\True/\K (decide (o.join=z18)) (True/\True/\True/\True/\True/\True/\True/\True/\A (o.k+z26<=(9223372036854775807:Nat)/\(o.k+z26)*(16:Nat)<=(140737488355328:Nat))/\True/\True/\True/\True/\True/\z36/\z5/\z21/\(A (o.k+z26=z23.k)/\∀ i:Nat,i<z23.k->(True/\A z0/\A ((bif decide (i<o.k) then (o.d i).x else b.p.x)=(z23.d i).x))/\A z0/\A ((bif decide (i<o.k) then (o.d i).y else b.p.y)=(z23.d i).y))/\True) (True/\True/\True/\True/\((((True/\A z0/\A (a.d.x=a.d.x))/\A z0/\A (a.d.y=a.d.y))/\((True/\A z0/\A (b.d.x=b.d.x))/\A z0/\A (b.d.y=b.d.y))/\True)/\A (Fla.small z50 a.d/\Fla.small z50 b.d))/\True/\True/\True/\True/\K (decide (Sta.crP a.d b.d=(0:Int))) (True/\True/\z36/\z5/\z21/\z7/\True) (True/\True/\K (decide ((0:Int)<Sta.crP a.d b.d)) (True/\True/\True/\True/\True/\((z12/\z45/\True)/\A (Fla.small z22 a.n/\z16<=z16/\z16<=z18))/\((z19/\((True/\A z0/\A (z16*a.n.x=z16*a.n.x))/\A z0/\A (z16*a.n.y=z16*a.n.y))/\True)/\A (Fla.small z22 b.p/\Fla.small z22 (Con.Pt.mk (z16*a.n.x) (z16*a.n.y))))/\True/\True/\True/\True/\((z20/\z45/\True)/\A (Fla.small z22 b.n/\z16<=z16/\z16<=z18))/\((z19/\((True/\A z0/\A (z16*b.n.x=z16*b.n.x))/\A z0/\A (z16*b.n.y=z16*b.n.y))/\True)/\A (Fla.small z22 b.p/\Fla.small z22 (Con.Pt.mk (z16*b.n.x) (z16*b.n.y))))/\True/\True/\True/\True/\True/\True/\True/\True/\z34/\True/\True/\True/\True/\z35/\True/\True/\True/\True/\True/\True/\True/\True/\True/\K (decide (o.join=(0:Int))) (True/\True/\A z8/\True/\True/\True/\K z47 (True/\A z37/\True/\True/\True/\True/\True/\True/\True/\True/\True/\True/\A z48/\True/\True/\A z8/\A z42/\True/\True/\K z40 (True/\True/\True/\True/\z39/\True/\True/\True/\True/\True/\True/\A z43/\True/\True/\A z8/\z14/\True/\True/\True/\True/\A z44/\True/\True/\A z8/\z15/\z29/\True/\True/\True/\True/\True/\True/\True/\True/\((z30/\z45/\True)/\A (Fla.small z22 (Con.Pt.mk (nr z10 z6) (nr z11 z6))/\z16<=z16/\z16<=z18))/\((z19/\((True/\A z0/\A (z16*nr z10 z6=z16*nr z10 z6))/\A z0/\A (z16*nr z11 z6=z16*nr z11 z6))/\True)/\A (Fla.small z22 b.p/\Fla.small z22 (Con.Pt.mk (z16*nr z10 z6) (z16*nr z11 z6))))/\True/\True/\((True/\(A z41/\(A (z52=z52)/\∀ i:Nat,i<z52->(True/\A z0/\A ((bif decide (i=z28) then b.p.x+z16*b.n.x else bif decide (i=z27) then b.p.x+z16*nr z10 z6 else bif decide (i=z26) then b.p.x+z16*a.n.x else b.p.x)=bif decide (i=z28) then b.p.x+z16*b.n.x else bif decide (i=z27) then b.p.x+z16*nr z10 z6 else bif decide (i=z26) then b.p.x+z16*a.n.x else b.p.x))/\A z0/\A ((bif decide (i=z28) then b.p.y+z16*b.n.y else bif decide (i=z27) then b.p.y+z16*nr z11 z6 else bif decide (i=z26) then b.p.y+z16*a.n.y else b.p.y)=bif decide (i=z28) then b.p.y+z16*b.n.y else bif decide (i=z27) then b.p.y+z16*nr z11 z6 else bif decide (i=z26) then b.p.y+z16*a.n.y else b.p.y))/\True)/\z13/\z9/\z17/\True)/\A (o.ok/\z52<=z53))/\True/\True/\z36/\z5/\(A z51/\(∀ i:Nat,i<z23.n->A ((o.add z52 fun (i:Nat)=>Con.Pt.mk (bif decide (i=z28) then b.p.x+z16*b.n.x else bif decide (i=z27) then b.p.x+z16*nr z10 z6 else bif decide (i=z26) then b.p.x+z16*a.n.x else b.p.x) (bif decide (i=z28) then b.p.y+z16*b.n.y else bif decide (i=z27) then b.p.y+z16*nr z11 z6 else bif decide (i=z26) then b.p.y+z16*a.n.y else b.p.y)).m i=z23.m i)/\∀ (i':Nat),i'<z23.m i->(True/\A z0/\A ((bif decide (i=o.n) then bif decide (i'=z28) then b.p.x+z16*b.n.x else bif decide (i'=z27) then b.p.x+z16*nr z10 z6 else bif decide (i'=z26) then b.p.x+z16*a.n.x else b.p.x else (o.p i i').x)=(z23.p i i').x))/\A z0/\A ((bif decide (i=o.n) then bif decide (i'=z28) then b.p.y+z16*b.n.y else bif decide (i'=z27) then b.p.y+z16*nr z11 z6 else bif decide (i'=z26) then b.p.y+z16*a.n.y else b.p.y else (o.p i i').y)=(z23.p i i').y))/\∀ i:Nat,i<z23.n->True/\A z49)/\z7/\True) (True/\True/\True/\True/\True/\z1/\True/\True/\z36/\z5/\z3/\z7/\True)) (True/\True/\True/\True/\True/\True/\z1/\True/\True/\z36/\z5/\z3/\z7/\True)) (True/\True/\True/\True/\True/\True/\True/\True/\z1/\True/\True/\z36/\z5/\z3/\z7/\True)) (True/\True/\True/\True/\((z12/\z46/\True)/\A (Fla.small z22 a.n/\z16<=z18/\z18<=z18))/\((z19/\((True/\A z0/\A (z18*a.n.x=z18*a.n.x))/\A z0/\A (z18*a.n.y=z18*a.n.y))/\True)/\A (Fla.small z22 b.p/\Fla.small z22 (Con.Pt.mk (z18*a.n.x) (z18*a.n.y))))/\True/\True/\True/\True/\((z20/\z46/\True)/\A (Fla.small z22 b.n/\z16<=z18/\z18<=z18))/\((z19/\((True/\A z0/\A (z18*b.n.x=z18*b.n.x))/\A z0/\A (z18*b.n.y=z18*b.n.y))/\True)/\A (Fla.small z22 b.p/\Fla.small z22 (Con.Pt.mk (z18*b.n.x) (z18*b.n.y))))/\True/\True/\True/\True/\True/\True/\True/\True/\z34/\True/\True/\True/\True/\z35/\True/\True/\True/\True/\True/\True/\True/\True/\True/\K (decide (o.join=(0:Int))) (True/\True/\A z8/\True/\True/\True/\K z47 (True/\A z37/\True/\True/\True/\True/\True/\True/\True/\True/\True/\True/\A z48/\True/\True/\A z8/\A z42/\True/\True/\K z40 (True/\True/\True/\True/\z39/\True/\True/\True/\True/\True/\True/\A z43/\True/\True/\A z8/\z14/\True/\True/\True/\True/\A z44/\True/\True/\A z8/\z15/\z29/\True/\True/\True/\True/\True/\True/\True/\True/\((z30/\z46/\True)/\A (Fla.small z22 (Con.Pt.mk (nr z10 z6) (nr z11 z6))/\z16<=z18/\z18<=z18))/\((z19/\((True/\A z0/\A (z18*nr z10 z6=z18*nr z10 z6))/\A z0/\A (z18*nr z11 z6=z18*nr z11 z6))/\True)/\A (Fla.small z22 b.p/\Fla.small z22 (Con.Pt.mk (z18*nr z10 z6) (z18*nr z11 z6))))/\True/\True/\((True/\(A z41/\(A (z52=z52)/\∀ i:Nat,i<z52->(True/\A z0/\A ((bif decide (i=z28) then b.p.x+z18*b.n.x else bif decide (i=z27) then b.p.x+z18*nr z10 z6 else bif decide (i=z26) then b.p.x+z18*a.n.x else b.p.x)=bif decide (i=z28) then b.p.x+z18*b.n.x else bif decide (i=z27) then b.p.x+z18*nr z10 z6 else bif decide (i=z26) then b.p.x+z18*a.n.x else b.p.x))/\A z0/\A ((bif decide (i=z28) then b.p.y+z18*b.n.y else bif decide (i=z27) then b.p.y+z18*nr z11 z6 else bif decide (i=z26) then b.p.y+z18*a.n.y else b.p.y)=bif decide (i=z28) then b.p.y+z18*b.n.y else bif decide (i=z27) then b.p.y+z18*nr z11 z6 else bif decide (i=z26) then b.p.y+z18*a.n.y else b.p.y))/\True)/\z13/\z9/\z17/\True)/\A (o.ok/\z52<=z53))/\True/\True/\z36/\z5/\(A z51/\(∀ i:Nat,i<z23.n->A ((o.add z52 fun (i:Nat)=>Con.Pt.mk (bif decide (i=z28) then b.p.x+z18*b.n.x else bif decide (i=z27) then b.p.x+z18*nr z10 z6 else bif decide (i=z26) then b.p.x+z18*a.n.x else b.p.x) (bif decide (i=z28) then b.p.y+z18*b.n.y else bif decide (i=z27) then b.p.y+z18*nr z11 z6 else bif decide (i=z26) then b.p.y+z18*a.n.y else b.p.y)).m i=z23.m i)/\∀ (i':Nat),i'<z23.m i->(True/\A z0/\A ((bif decide (i=o.n) then bif decide (i'=z28) then b.p.x+z18*b.n.x else bif decide (i'=z27) then b.p.x+z18*nr z10 z6 else bif decide (i'=z26) then b.p.x+z18*a.n.x else b.p.x else (o.p i i').x)=(z23.p i i').x))/\A z0/\A ((bif decide (i=o.n) then bif decide (i'=z28) then b.p.y+z18*b.n.y else bif decide (i'=z27) then b.p.y+z18*nr z11 z6 else bif decide (i'=z26) then b.p.y+z18*a.n.y else b.p.y else (o.p i i').y)=(z23.p i i').y))/\∀ i:Nat,i<z23.n->True/\A z49)/\z7/\True) (True/\True/\True/\True/\True/\z2/\True/\True/\z36/\z5/\z4/\z7/\True)) (True/\True/\True/\True/\True/\True/\z2/\True/\True/\z36/\z5/\z4/\z7/\True)) (True/\True/\True/\True/\True/\True/\True/\True/\z2/\True/\True/\z36/\z5/\z4/\z7/\True))))) (by kernel_rfl) ?_
 simp only [ask_iff,br_iff,eq_self,true_and,and_true,implies_true,forall_const,decide_eq_true_eq,decide_eq_false_iff_not,ne_eq,Nat.mul_one,Nat.add_zero,Nat.zero_add,Int.toNat_natCast,and_self,false_and,and_false]
 obtain ⟨⟨⟨hn,hk⟩,l0,l1⟩,⟨⟨pa,qa⟩,da,na,ea⟩,⟨pb,qb⟩,db,nb,eb⟩:((o.n<=1048000/\o.k<=1048000)/\0<=o.limit/\o.limit<=1024)/\Sid.ok a/\Sid.ok b:=hg
 have hok:o.ok:=⟨by omega,by omega⟩
 have sna:=sm_le na (show (600:Int)<=65536 by omega)
 have snb:=sm_le nb (show (600:Int)<=65536 by omega)
 have wna:=sm_le na (show (600:Int)<=1073741824 by omega)
 have wnb:=sm_le nb (show (600:Int)<=1073741824 by omega)
 have wpb:=sm_le pb (show (32767:Int)<=1073741824 by omega)
 obtain ⟨⟨u1,u2⟩,u3,u4⟩:=id na
 obtain ⟨⟨v1,v2⟩,v3,v4⟩:=id nb
 have d1:=Fla.mul_in (a:=a.n.x) (x:=a.n.x) (A:=600) (X:=600) ⟨u1,u2⟩ ⟨u1,u2⟩
 have d2:=Fla.mul_in (a:=a.n.y) (x:=a.n.y) (A:=600) (X:=600) ⟨u3,u4⟩ ⟨u3,u4⟩
 have d3:=Fla.mul_in (a:=a.n.x) (x:=b.n.x) (A:=600) (X:=600) ⟨u1,u2⟩ ⟨v1,v2⟩
 have d4:=Fla.mul_in (a:=a.n.y) (x:=b.n.y) (A:=600) (X:=600) ⟨u3,u4⟩ ⟨v3,v4⟩
 have hq : -720000<=dotP a.n a.n/\dotP a.n a.n<=720000:=by unfold dotP; omega
 have hr : -720000<=dotP a.n b.n/\dotP a.n b.n<=720000:=by unfold dotP; omega
 have ll:=Fla.mul_in (a:=o.limit) (x:=o.limit) (A:=1024) (X:=1024) ⟨by omega,by omega⟩ ⟨by omega,by omega⟩
 have lq:=Fla.mul_in (a:=o.limit*o.limit) (x:=dotP a.n a.n+dotP a.n b.n) (A:=1048576) (X:=1440000) ⟨by omega,by omega⟩ ⟨by omega,by omega⟩
 have tx:=Fla.mul_in (a:=dotP a.n a.n) (x:=a.n.x+b.n.x) (A:=720000) (X:=1200) ⟨by omega,by omega⟩ ⟨by omega,by omega⟩
 have ty:=Fla.mul_in (a:=dotP a.n a.n) (x:=a.n.y+b.n.y) (A:=720000) (X:=1200) ⟨by omega,by omega⟩ ⟨by omega,by omega⟩
 have three:∀ s:Int,s=sgn a b->¬ o.join=1->¬ crP a.d b.d=0->¬ jMiter o a b->o.jn a b=o.add 3 (p3 b.p (addP b.p (mulP s a.n)) (addP b.p (mulP s b.n))):=fun s hs h1 h2 h3=>by
  unfold Olr.jn
  rw [if_neg h1,if_neg h2,if_neg h3,hs]
 have four:∀ s:Int,s=sgn a b->¬ o.join=1->¬ crP a.d b.d=0->jMiter o a b->o.jn a b=o.add 4 (p4 b.p (addP b.p (mulP s a.n)) (addP b.p (mulP s (tipP a b))) (addP b.p (mulP s b.n))):=fun s hs h1 h2 h3=>by
  unfold Olr.jn
  rw [if_neg h1,if_neg h2,if_pos h3,hs]
 refine ⟨fun hj=>⟨by omega,?_⟩,fun hj=>⟨⟨da,db⟩,fun hc=>?_,fun hc=>?_⟩⟩
 ·have e:o.jn a b=o.dsc b.p:=if_pos hj
  rw [e]
  exact ⟨⟨⟨⟨rfl,rfl⟩,rfl⟩,rfl⟩,⟨rfl,fun i _=>⟨rfl,fun j _=>⟨rfl,rfl⟩⟩⟩,rfl,fun i _=>⟨rfl,rfl⟩⟩
 ·have e:o.jn a b=o:=by unfold Olr.jn; rw [if_neg hj,if_pos hc]
  rw [e]
  exact ⟨⟨⟨⟨rfl,rfl⟩,rfl⟩,rfl⟩,⟨rfl,fun i _=>⟨rfl,fun j _=>⟨rfl,rfl⟩⟩⟩,rfl,fun i _=>⟨rfl,rfl⟩⟩
 ·refine ⟨fun hp=>?_,fun hp=>?_⟩
  ·have hs : -1=sgn a b:=(if_pos hp).symm
   refine ⟨⟨wna,by omega,by omega⟩,⟨wpb,sm (by omega) (by omega)⟩,⟨wnb,by omega,by omega⟩,⟨wpb,sm (by omega) (by omega)⟩,sna,⟨sna,snb⟩,fun h0=>⟨by omega,fun hpos=>⟨by omega,by omega,by omega,by omega,fun hm=>?_,fun hm=>?_⟩,fun hpos=>?_⟩,fun h0=>?_⟩
   ·have nx:=nr_in (show 1<=dotP a.n a.n+dotP a.n b.n by omega) (by omega) tx
    have ny:=nr_in (show 1<=dotP a.n a.n+dotP a.n b.n by omega) (by omega) ty
    refine ⟨⟨wna,wnb⟩,by omega,by omega,by omega,by omega,by omega,by omega,⟨sm (by omega) (by omega),by omega,by omega⟩,⟨wpb,sm (by omega) (by omega)⟩,⟨hok,by omega⟩,?_⟩
    rw [four (-1) hs hj hc ⟨h0,hpos,hm⟩]
    exact ⟨⟨⟨⟨rfl,rfl⟩,rfl⟩,rfl⟩,⟨rfl,fun i _=>⟨rfl,fun j _=>⟨rfl,rfl⟩⟩⟩,rfl,fun i _=>⟨rfl,rfl⟩⟩
   ·refine ⟨⟨hok,by omega⟩,?_⟩
    rw [three (-1) hs hj hc fun h=>hm h.2.2]
    exact ⟨⟨⟨⟨rfl,rfl⟩,rfl⟩,rfl⟩,⟨rfl,fun i _=>⟨rfl,fun j _=>⟨rfl,rfl⟩⟩⟩,rfl,fun i _=>⟨rfl,rfl⟩⟩
   ·refine ⟨⟨hok,by omega⟩,?_⟩
    rw [three (-1) hs hj hc fun h=>hpos h.2.1]
    exact ⟨⟨⟨⟨rfl,rfl⟩,rfl⟩,rfl⟩,⟨rfl,fun i _=>⟨rfl,fun j _=>⟨rfl,rfl⟩⟩⟩,rfl,fun i _=>⟨rfl,rfl⟩⟩
   ·refine ⟨⟨hok,by omega⟩,?_⟩
    rw [three (-1) hs hj hc fun h=>h0 h.1]
    exact ⟨⟨⟨⟨rfl,rfl⟩,rfl⟩,rfl⟩,⟨rfl,fun i _=>⟨rfl,fun j _=>⟨rfl,rfl⟩⟩⟩,rfl,fun i _=>⟨rfl,rfl⟩⟩
  ·have hs:1=sgn a b:=(if_neg hp).symm
   refine ⟨⟨wna,by omega,by omega⟩,⟨wpb,sm (by omega) (by omega)⟩,⟨wnb,by omega,by omega⟩,⟨wpb,sm (by omega) (by omega)⟩,sna,⟨sna,snb⟩,fun h0=>⟨by omega,fun hpos=>⟨by omega,by omega,by omega,by omega,fun hm=>?_,fun hm=>?_⟩,fun hpos=>?_⟩,fun h0=>?_⟩
   ·have nx:=nr_in (show 1<=dotP a.n a.n+dotP a.n b.n by omega) (by omega) tx
    have ny:=nr_in (show 1<=dotP a.n a.n+dotP a.n b.n by omega) (by omega) ty
    refine ⟨⟨wna,wnb⟩,by omega,by omega,by omega,by omega,by omega,by omega,⟨sm (by omega) (by omega),by omega,by omega⟩,⟨wpb,sm (by omega) (by omega)⟩,⟨hok,by omega⟩,?_⟩
    rw [four 1 hs hj hc ⟨h0,hpos,hm⟩]
    exact ⟨⟨⟨⟨rfl,rfl⟩,rfl⟩,rfl⟩,⟨rfl,fun i _=>⟨rfl,fun j _=>⟨rfl,rfl⟩⟩⟩,rfl,fun i _=>⟨rfl,rfl⟩⟩
   ·refine ⟨⟨hok,by omega⟩,?_⟩
    rw [three 1 hs hj hc fun h=>hm h.2.2]
    exact ⟨⟨⟨⟨rfl,rfl⟩,rfl⟩,rfl⟩,⟨rfl,fun i _=>⟨rfl,fun j _=>⟨rfl,rfl⟩⟩⟩,rfl,fun i _=>⟨rfl,rfl⟩⟩
   ·refine ⟨⟨hok,by omega⟩,?_⟩
    rw [three 1 hs hj hc fun h=>hpos h.2.1]
    exact ⟨⟨⟨⟨rfl,rfl⟩,rfl⟩,rfl⟩,⟨rfl,fun i _=>⟨rfl,fun j _=>⟨rfl,rfl⟩⟩⟩,rfl,fun i _=>⟨rfl,rfl⟩⟩
   ·refine ⟨⟨hok,by omega⟩,?_⟩
    rw [three 1 hs hj hc fun h=>h0 h.1]
    exact ⟨⟨⟨⟨rfl,rfl⟩,rfl⟩,rfl⟩,⟨rfl,fun i _=>⟨rfl,fun j _=>⟨rfl,rfl⟩⟩⟩,rfl,fun i _=>⟨rfl,rfl⟩⟩
def Olr.dt (o:Olr) (v:Pt):Olr:=
 if o.cap=1 then o.dsc v else if o.cap=2 then o.add 4 (p4 (addP v ⟨0-nr o.w 2,0-nr o.w 2⟩) (addP v ⟨0-nr o.w 2,nr o.w 2⟩) (addP v ⟨nr o.w 2,nr o.w 2⟩) (addP v ⟨nr o.w 2,0-nr o.w 2⟩)) else o
structure DtG where
 o:Olr
 v:Pt
def DtG.ok (g:DtG):Prop:=(g.o.low/\1<=g.o.w/\g.o.w<=1024)/\small 32767 g.v
def spDt:FSpec:=mkSpecM 45 [.arg 0,.cell 0 4,.cell 0 5] (γ:=DtG) (fun | [_,.agg _ a],[.cells _ g _,.deep _ n _ _ m p _ _ _ _,.row _ k _ d _]=>some ⟨olD g n m p k d,ptD a⟩ | _,_=>none) (fun g=>[.own 0 0,ptS g.v])
 (fun g=>oO 0 g.o) DtG.ok (fun _=> .tup 0 (lst [])) (fun g=>oO 1 (g.o.dt g.v))
theorem ok_dt:SpecOK Tryz.prog spDt:=by
 refine spec_soundM (specs:=[spPlus,spNear,spVec,spPart]) (all_ok (⟨ok_plus,ok_near,ok_vec,ok_part,trivial⟩)) (eqs:=[]) (fun _ _ h=>(List.not_mem_nil h).elim) Aff.mixed Tryz.func45 rfl (by kernel_rfl) (fun _ _=>by kernel_rfl) (fun g=>A0) true (fun g=>Nat.le_of_ble_eq_true (by kernel_rfl)) ?_
 rintro ⟨o,v⟩ hg
 refine vc_of (B:=let A:=Sx.Ask;let z15:=(2:Nat);let z14:=(3:Nat);let z13:=(1:Nat);let z10:=(1073741824:Int);let z9:=(2:Int);let z6:=(nr o.w z9=nr o.w z9);let z4:=((-9223372036854775808:Int)<=(0:Int)-nr o.w z9/\(0:Int)-nr o.w z9<=(9223372036854775807:Int));let z3:=((0:Int)-nr o.w z9=(0:Int)-nr o.w z9);let z1:=((0:Int)-nr o.w z9);let z0:=(IntKind.i64=IntKind.i64);let z12:=(A z0/\A z6);let z11:=(A z0/\A z3);let z8:=(A (o.k=(o.dt v).k)/\∀ i:Nat,i<(o.dt v).k->(True/\A z0/\A ((o.d i).x=((o.dt v).d i).x))/\A z0/\A ((o.d i).y=((o.dt v).d i).y));let z7:=((True/\A z0/\A (v.x=v.x))/\A z0/\A (v.y=v.y));let z5:=(A (o.n=(o.dt v).n)/\(∀ i:Nat,i<(o.dt v).n->A (o.m i=(o.dt v).m i)/\∀ (i':Nat),i'<(o.dt v).m i->(True/\A z0/\A ((o.p i i').x=((o.dt v).p i i').x))/\A z0/\A ((o.p i i').y=((o.dt v).p i i').y))/\∀ i:Nat,i<(o.dt v).n->True/\A (true=true));let z2:=((((((True/\A z0/\A (o.w=(o.dt v).w))/\A z0/\A (o.cap=(o.dt v).cap))/\A z0/\A (o.join=(o.dt v).join))/\A z0/\A (o.limit=(o.dt v).limit))/\True)/\True);True/\True/\True/\True/\True/\True/\(((A z0/\A (o.w=o.w))/\(A z0/\A (z9=z9))/\True)/\A (((-4611686018427387904:Int)<=o.w/\o.w<=(4611686018427387904:Int))/\(1:Int)<=z9/\z9<=(4611686018427387904:Int)))/\True/\True/\True/\True/\True/\True/\True/\True/\Sx.Br (decide (o.cap=(1:Int))) (True/\True/\True/\True/\True/\True/\True/\True/\A (o.k+z13<=(9223372036854775807:Nat)/\(o.k+z13)*(16:Nat)<=(140737488355328:Nat))/\True/\True/\True/\True/\True/\(True/\True)/\z2/\z5/\(A (o.k+z13=(o.dt v).k)/\∀ i:Nat,i<(o.dt v).k->(True/\A z0/\A ((bif decide (i<o.k) then (o.d i).x else v.x)=((o.dt v).d i).x))/\A z0/\A ((bif decide (i<o.k) then (o.d i).y else v.y)=((o.dt v).d i).y))/\True) (True/\True/\Sx.Br (decide (o.cap=z9)) (True/\True/\True/\A z4/\True/\A z4/\((z11/\z11/\True)/\A True)/\((z7/\((True/\A z0/\A z3)/\A z0/\A z3)/\True)/\A (Fla.small z10 v/\Fla.small z10 (Con.Pt.mk z1 z1)))/\True/\True/\A z4/\True/\((z11/\z12/\True)/\A True)/\((z7/\((True/\A z0/\A z3)/\A z0/\A z6)/\True)/\A (Fla.small z10 v/\Fla.small z10 (Con.Pt.mk z1 (nr o.w z9))))/\True/\True/\True/\((z12/\z12/\True)/\A True)/\((z7/\((True/\A z0/\A z6)/\A z0/\A z6)/\True)/\A (Fla.small z10 v/\Fla.small z10 (Con.Pt.mk (nr o.w z9) (nr o.w z9))))/\True/\True/\True/\A z4/\((z12/\z11/\True)/\A True)/\((z7/\((True/\A z0/\A z6)/\A z0/\A z3)/\True)/\A (Fla.small z10 v/\Fla.small z10 (Con.Pt.mk (nr o.w z9) z1)))/\True/\((True/\(A ((0:Nat)=(0:Nat))/\(A ((4:Nat)=(4:Nat))/\∀ i:Nat,i<(4:Nat)->(True/\A z0/\A ((bif decide (i=z14) then v.x+nr o.w z9 else bif decide (i=z15) then v.x+nr o.w z9 else bif decide (i=z13) then v.x+z1 else v.x+z1)=bif decide (i=z14) then v.x+nr o.w z9 else bif decide (i=z15) then v.x+nr o.w z9 else bif decide (i=z13) then v.x+z1 else v.x+z1))/\A z0/\A ((bif decide (i=z14) then v.y+z1 else bif decide (i=z15) then v.y+nr o.w z9 else bif decide (i=z13) then v.y+nr o.w z9 else v.y+z1)=bif decide (i=z14) then v.y+z1 else bif decide (i=z15) then v.y+nr o.w z9 else bif decide (i=z13) then v.y+nr o.w z9 else v.y+z1))/\True)/\((((((True/\A z0/\A (o.w=o.w))/\A z0/\A (o.cap=o.cap))/\A z0/\A (o.join=o.join))/\A z0/\A (o.limit=o.limit))/\True)/\True)/\(A (o.n=o.n)/\(∀ i:Nat,i<o.n->A (o.m i=o.m i)/\∀ (i':Nat),i'<o.m i->(True/\A z0/\A ((o.p i i').x=(o.p i i').x))/\A z0/\A ((o.p i i').y=(o.p i i').y))/\∀ i:Nat,i<o.n->True/\A (true=true))/\(A (o.k=o.k)/\∀ i:Nat,i<o.k->(True/\A z0/\A ((o.d i).x=(o.d i).x))/\A z0/\A ((o.d i).y=(o.d i).y))/\True)/\A (o.ok/\(4:Nat)<=(1048576:Nat)))/\True/\True/\(True/\True)/\z2/\(A (o.n+z13=(o.dt v).n)/\(∀ i:Nat,i<(o.dt v).n->A ((o.add (4:Nat) fun (i:Nat)=>Con.Pt.mk (bif decide (i=z14) then v.x+nr o.w z9 else bif decide (i=z15) then v.x+nr o.w z9 else bif decide (i=z13) then v.x+z1 else v.x+z1) (bif decide (i=z14) then v.y+z1 else bif decide (i=z15) then v.y+nr o.w z9 else bif decide (i=z13) then v.y+nr o.w z9 else v.y+z1)).m i=(o.dt v).m i)/\∀ (i':Nat),i'<(o.dt v).m i->(True/\A z0/\A ((bif decide (i=o.n) then bif decide (i'=z14) then v.x+nr o.w z9 else bif decide (i'=z15) then v.x+nr o.w z9 else bif decide (i'=z13) then v.x+z1 else v.x+z1 else (o.p i i').x)=((o.dt v).p i i').x))/\A z0/\A ((bif decide (i=o.n) then bif decide (i'=z14) then v.y+z1 else bif decide (i'=z15) then v.y+nr o.w z9 else bif decide (i'=z13) then v.y+nr o.w z9 else v.y+z1 else (o.p i i').y)=((o.dt v).p i i').y))/\∀ i:Nat,i<(o.dt v).n->True/\A (true=true))/\z8/\True) (True/\True/\(True/\True)/\z2/\z5/\z8/\True))) (by kernel_rfl) ?_
 simp only [ask_iff,br_iff,eq_self,true_and,and_true,implies_true,forall_const,decide_eq_true_eq,decide_eq_false_iff_not,ne_eq,Nat.mul_one,Nat.add_zero,Nat.zero_add,Int.toNat_natCast,and_self,false_and,and_false]
 obtain ⟨⟨⟨hn,hk⟩,w0,w1⟩,hv⟩:((o.n<=1048000/\o.k<=1048000)/\1<=o.w/\o.w<=1024)/\small 32767 v:=hg
 have hok:o.ok:=⟨by omega,by omega⟩
 have wv:=sm_le hv (show (32767:Int)<=1073741824 by omega)
 have h:=nr_in (b:=2) (x:=o.w) (M:=1024) (by omega) (by omega) ⟨by omega,by omega⟩
 refine ⟨by omega,fun hc=>⟨by omega,?_⟩,fun hc=>⟨fun h2=>?_,fun h2=>?_⟩⟩
 ·rw [show o.dt v=o.dsc v from if_pos hc]
  exact ⟨⟨⟨⟨rfl,rfl⟩,rfl⟩,rfl⟩,⟨rfl,fun i _=>⟨rfl,fun j _=>⟨rfl,rfl⟩⟩⟩,rfl,fun i _=>⟨rfl,rfl⟩⟩
 ·have e:o.dt v=o.add 4 (p4 (addP v ⟨0-nr o.w 2,0-nr o.w 2⟩) (addP v ⟨0-nr o.w 2,nr o.w 2⟩) (addP v ⟨nr o.w 2,nr o.w 2⟩) (addP v ⟨nr o.w 2,0-nr o.w 2⟩)):=by unfold Olr.dt; rw [if_neg hc,if_pos h2]
  rw [e]
  refine ⟨by omega,by omega,⟨wv,sm (by omega) (by omega)⟩,by omega,⟨wv,sm (by omega) (by omega)⟩,⟨wv,sm (by omega) (by omega)⟩,by omega,⟨wv,sm (by omega) (by omega)⟩,⟨hok,by omega⟩,?_⟩
  exact ⟨⟨⟨⟨rfl,rfl⟩,rfl⟩,rfl⟩,⟨rfl,fun i _=>⟨rfl,fun j _=>⟨rfl,rfl⟩⟩⟩,rfl,fun i _=>⟨rfl,rfl⟩⟩
 ·rw [show o.dt v=o by unfold Olr.dt; rw [if_neg hc,if_neg h2]]
  exact ⟨⟨⟨⟨rfl,rfl⟩,rfl⟩,rfl⟩,⟨rfl,fun i _=>⟨rfl,fun j _=>⟨rfl,rfl⟩⟩⟩,rfl,fun i _=>⟨rfl,rfl⟩⟩
def Olr.dsc2 (o:Olr) (a b:Pt):Olr:=⟨o.w,o.cap,o.join,o.limit,o.n,o.m,o.p,o.k+2,fun i=>⟨bif decide (i<o.k) then (o.d i).x else bif decide (i-o.k=1) then b.x else a.x,bif decide (i<o.k) then (o.d i).y else bif decide (i-o.k=1) then b.y else a.y⟩⟩
def Olr.cp (o:Olr) (a b:Sid):Olr:=
 if o.cap=1 then o.dsc2 a.p b.q else if o.cap=2 then (o.add 4 (p4 (addP a.p a.n) (subP a.p a.n) (subP (subP a.p a.n) a.e) (subP (addP a.p a.n) a.e))).add 4 (p4 (addP b.q b.n) (subP b.q b.n) (addP (subP b.q b.n) b.e) (addP (addP b.q b.n) b.e)) else o
def spCp:FSpec:=mkSpecM 51 [.arg 0,.cell 0 4,.cell 0 5] (γ:=JnG) (fun | [_,.agg _ a,.agg _ b],[.cells _ g _,.deep _ n _ _ m p _ _ _ _,.row _ k _ d _]=>some ⟨olD g n m p k d,sidD a,sidD b⟩ | _,_=>none) (fun g=>[.own 0 0,sidS g.a,sidS g.b])
 (fun g=>oO 0 g.o) JnG.ok (fun _=> .tup 0 (lst [])) (fun g=>oO 2 (g.o.cp g.a g.b))
theorem ok_cp:SpecOK Tryz.prog spCp:=by
 refine spec_soundM (specs:=[spPlus,spMinus,spPart]) (all_ok (⟨ok_plus,ok_minus,ok_part,trivial⟩)) (eqs:=[]) (fun _ _ h=>(List.not_mem_nil h).elim) Aff.mixed Tryz.func51 rfl (by kernel_rfl) (fun _ _=>by kernel_rfl) (fun g=>A0) true (fun g=>Nat.le_of_ble_eq_true (by kernel_rfl)) ?_
 rintro ⟨o,a,b⟩ hg
 refine vc_of (B:=let A:=Sx.Ask;let z16:=(4:Nat);let z13:=(3:Nat);let z12:=(2:Nat);let z9:=(1073741824:Int);let z8:=(1:Nat);let z7:=(o.cp a b);let z1:=(Olr.mk o.w o.cap o.join o.limit (o.n+z8) (fun (i:Nat)=>bif decide (i=o.n) then z16 else o.m i) (fun (i j:Nat)=>Con.Pt.mk (bif decide (i=o.n) then bif decide (j=z13) then a.p.x+a.n.x-a.e.x else bif decide (j=z12) then a.p.x-a.n.x-a.e.x else bif decide (j=z8) then a.p.x-a.n.x else a.p.x+a.n.x else (o.p i j).x) (bif decide (i=o.n) then bif decide (j=z13) then a.p.y+a.n.y-a.e.y else bif decide (j=z12) then a.p.y-a.n.y-a.e.y else bif decide (j=z8) then a.p.y-a.n.y else a.p.y+a.n.y else (o.p i j).y)) o.k o.d);let z0:=(IntKind.i64=IntKind.i64);let z15:=((True/\A z0/\A (b.e.x=b.e.x))/\A z0/\A (b.e.y=b.e.y));let z14:=((True/\A z0/\A (a.e.x=a.e.x))/\A z0/\A (a.e.y=a.e.y));let z11:=(A (o.k=o.k)/\∀ i:Nat,i<o.k->(True/\A z0/\A ((o.d i).x=(o.d i).x))/\A z0/\A ((o.d i).y=(o.d i).y));let z10:=(A (o.k=z7.k)/\∀ i:Nat,i<z7.k->(True/\A z0/\A ((o.d i).x=(z7.d i).x))/\A z0/\A ((o.d i).y=(z7.d i).y));let z6:=((((((True/\A z0/\A (o.w=o.w))/\A z0/\A (o.cap=o.cap))/\A z0/\A (o.join=o.join))/\A z0/\A (o.limit=o.limit))/\True)/\True);let z5:=((((True/\A z0/\A (b.q.x=b.q.x))/\A z0/\A (b.q.y=b.q.y))/\((True/\A z0/\A (b.n.x=b.n.x))/\A z0/\A (b.n.y=b.n.y))/\True)/\A (Fla.small z9 b.q/\Fla.small z9 b.n));let z4:=((((True/\A z0/\A (a.p.x=a.p.x))/\A z0/\A (a.p.y=a.p.y))/\((True/\A z0/\A (a.n.x=a.n.x))/\A z0/\A (a.n.y=a.n.y))/\True)/\A (Fla.small z9 a.p/\Fla.small z9 a.n));let z3:=(A (o.n=z7.n)/\(∀ i:Nat,i<z7.n->A (o.m i=z7.m i)/\∀ (i':Nat),i'<z7.m i->(True/\A z0/\A ((o.p i i').x=(z7.p i i').x))/\A z0/\A ((o.p i i').y=(z7.p i i').y))/\∀ i:Nat,i<z7.n->True/\A (true=true));let z2:=((((((True/\A z0/\A (o.w=z7.w))/\A z0/\A (o.cap=z7.cap))/\A z0/\A (o.join=z7.join))/\A z0/\A (o.limit=z7.limit))/\True)/\True);True/\True/\True/\True/\True/\True/\True/\True/\True/\True/\True/\True/\True/\True/\True/\True/\True/\Sx.Br (decide (o.cap=(1:Int))) (True/\True/\True/\True/\True/\True/\True/\True/\True/\True/\A (o.k+z12<=(9223372036854775807:Nat)/\(o.k+z12)*(16:Nat)<=(140737488355328:Nat))/\True/\True/\True/\True/\True/\(True/\True)/\z2/\z3/\(A (o.k+z12=z7.k)/\∀ i:Nat,i<z7.k->(True/\A z0/\A ((bif decide (i<o.k) then (o.d i).x else bif decide (i-o.k=z8) then b.q.x else a.p.x)=(z7.d i).x))/\A z0/\A ((bif decide (i<o.k) then (o.d i).y else bif decide (i-o.k=z8) then b.q.y else a.p.y)=(z7.d i).y))/\True) (True/\True/\Sx.Br (decide (o.cap=(2:Int))) (True/\True/\True/\z4/\True/\True/\True/\z4/\True/\True/\True/\True/\True/\True/\True/\True/\True/\True/\((((True/\A z0/\A (a.p.x-a.n.x=a.p.x-a.n.x))/\A z0/\A (a.p.y-a.n.y=a.p.y-a.n.y))/\z14/\True)/\A (Fla.small z9 (Con.Pt.mk (a.p.x-a.n.x) (a.p.y-a.n.y))/\Fla.small z9 a.e))/\True/\True/\True/\((((True/\A z0/\A (a.p.x+a.n.x=a.p.x+a.n.x))/\A z0/\A (a.p.y+a.n.y=a.p.y+a.n.y))/\z14/\True)/\A (Fla.small z9 (Con.Pt.mk (a.p.x+a.n.x) (a.p.y+a.n.y))/\Fla.small z9 a.e))/\True/\((True/\(A ((0:Nat)=(0:Nat))/\(A (z16=z16)/\∀ i:Nat,i<z16->(True/\A z0/\A ((bif decide (i=z13) then a.p.x+a.n.x-a.e.x else bif decide (i=z12) then a.p.x-a.n.x-a.e.x else bif decide (i=z8) then a.p.x-a.n.x else a.p.x+a.n.x)=bif decide (i=z13) then a.p.x+a.n.x-a.e.x else bif decide (i=z12) then a.p.x-a.n.x-a.e.x else bif decide (i=z8) then a.p.x-a.n.x else a.p.x+a.n.x))/\A z0/\A ((bif decide (i=z13) then a.p.y+a.n.y-a.e.y else bif decide (i=z12) then a.p.y-a.n.y-a.e.y else bif decide (i=z8) then a.p.y-a.n.y else a.p.y+a.n.y)=bif decide (i=z13) then a.p.y+a.n.y-a.e.y else bif decide (i=z12) then a.p.y-a.n.y-a.e.y else bif decide (i=z8) then a.p.y-a.n.y else a.p.y+a.n.y))/\True)/\z6/\(A (o.n=o.n)/\(∀ i:Nat,i<o.n->A (o.m i=o.m i)/\∀ (i':Nat),i'<o.m i->(True/\A z0/\A ((o.p i i').x=(o.p i i').x))/\A z0/\A ((o.p i i').y=(o.p i i').y))/\∀ i:Nat,i<o.n->True/\A (true=true))/\z11/\True)/\A (o.ok/\z16<=(1048576:Nat)))/\True/\True/\True/\z5/\True/\True/\True/\z5/\True/\True/\True/\True/\True/\True/\True/\True/\((((True/\A z0/\A (b.q.x-b.n.x=b.q.x-b.n.x))/\A z0/\A (b.q.y-b.n.y=b.q.y-b.n.y))/\z15/\True)/\A (Fla.small z9 (Con.Pt.mk (b.q.x-b.n.x) (b.q.y-b.n.y))/\Fla.small z9 b.e))/\True/\True/\True/\((((True/\A z0/\A (b.q.x+b.n.x=b.q.x+b.n.x))/\A z0/\A (b.q.y+b.n.y=b.q.y+b.n.y))/\z15/\True)/\A (Fla.small z9 (Con.Pt.mk (b.q.x+b.n.x) (b.q.y+b.n.y))/\Fla.small z9 b.e))/\True/\((True/\(A ((0:Nat)=(0:Nat))/\(A (z16=z16)/\∀ i:Nat,i<z16->(True/\A z0/\A ((bif decide (i=z13) then b.q.x+b.n.x+b.e.x else bif decide (i=z12) then b.q.x-b.n.x+b.e.x else bif decide (i=z8) then b.q.x-b.n.x else b.q.x+b.n.x)=bif decide (i=z13) then b.q.x+b.n.x+b.e.x else bif decide (i=z12) then b.q.x-b.n.x+b.e.x else bif decide (i=z8) then b.q.x-b.n.x else b.q.x+b.n.x))/\A z0/\A ((bif decide (i=z13) then b.q.y+b.n.y+b.e.y else bif decide (i=z12) then b.q.y-b.n.y+b.e.y else bif decide (i=z8) then b.q.y-b.n.y else b.q.y+b.n.y)=bif decide (i=z13) then b.q.y+b.n.y+b.e.y else bif decide (i=z12) then b.q.y-b.n.y+b.e.y else bif decide (i=z8) then b.q.y-b.n.y else b.q.y+b.n.y))/\True)/\z6/\(A (o.n+z8=o.n+z8)/\(∀ i:Nat,i<o.n+z8->A ((o.add z16 fun (i:Nat)=>Con.Pt.mk (bif decide (i=z13) then a.p.x+a.n.x-a.e.x else bif decide (i=z12) then a.p.x-a.n.x-a.e.x else bif decide (i=z8) then a.p.x-a.n.x else a.p.x+a.n.x) (bif decide (i=z13) then a.p.y+a.n.y-a.e.y else bif decide (i=z12) then a.p.y-a.n.y-a.e.y else bif decide (i=z8) then a.p.y-a.n.y else a.p.y+a.n.y)).m i=bif decide (i=o.n) then z16 else o.m i)/\∀ (i':Nat),(i'<bif decide (i=o.n) then z16 else o.m i)->(True/\A z0/\A ((bif decide (i=o.n) then bif decide (i'=z13) then a.p.x+a.n.x-a.e.x else bif decide (i'=z12) then a.p.x-a.n.x-a.e.x else bif decide (i'=z8) then a.p.x-a.n.x else a.p.x+a.n.x else (o.p i i').x)=bif decide (i=o.n) then bif decide (i'=z13) then a.p.x+a.n.x-a.e.x else bif decide (i'=z12) then a.p.x-a.n.x-a.e.x else bif decide (i'=z8) then a.p.x-a.n.x else a.p.x+a.n.x else (o.p i i').x))/\A z0/\A ((bif decide (i=o.n) then bif decide (i'=z13) then a.p.y+a.n.y-a.e.y else bif decide (i'=z12) then a.p.y-a.n.y-a.e.y else bif decide (i'=z8) then a.p.y-a.n.y else a.p.y+a.n.y else (o.p i i').y)=bif decide (i=o.n) then bif decide (i'=z13) then a.p.y+a.n.y-a.e.y else bif decide (i'=z12) then a.p.y-a.n.y-a.e.y else bif decide (i'=z8) then a.p.y-a.n.y else a.p.y+a.n.y else (o.p i i').y))/\∀ i:Nat,i<o.n+z8->True/\A (true=true))/\z11/\True)/\A (z1.ok/\z16<=(1048576:Nat)))/\True/\True/\(True/\True)/\z2/\(A (o.n+z8+z8=z7.n)/\(∀ i:Nat,i<z7.n->A ((z1.add z16 fun (i:Nat)=>Con.Pt.mk (bif decide (i=z13) then b.q.x+b.n.x+b.e.x else bif decide (i=z12) then b.q.x-b.n.x+b.e.x else bif decide (i=z8) then b.q.x-b.n.x else b.q.x+b.n.x) (bif decide (i=z13) then b.q.y+b.n.y+b.e.y else bif decide (i=z12) then b.q.y-b.n.y+b.e.y else bif decide (i=z8) then b.q.y-b.n.y else b.q.y+b.n.y)).m i=z7.m i)/\∀ (i':Nat),i'<z7.m i->(True/\A z0/\A ((bif decide (i=o.n+z8) then bif decide (i'=z13) then b.q.x+b.n.x+b.e.x else bif decide (i'=z12) then b.q.x-b.n.x+b.e.x else bif decide (i'=z8) then b.q.x-b.n.x else b.q.x+b.n.x else bif decide (i=o.n) then bif decide (i'=z13) then a.p.x+a.n.x-a.e.x else bif decide (i'=z12) then a.p.x-a.n.x-a.e.x else bif decide (i'=z8) then a.p.x-a.n.x else a.p.x+a.n.x else (o.p i i').x)=(z7.p i i').x))/\A z0/\A ((bif decide (i=o.n+z8) then bif decide (i'=z13) then b.q.y+b.n.y+b.e.y else bif decide (i'=z12) then b.q.y-b.n.y+b.e.y else bif decide (i'=z8) then b.q.y-b.n.y else b.q.y+b.n.y else bif decide (i=o.n) then bif decide (i'=z13) then a.p.y+a.n.y-a.e.y else bif decide (i'=z12) then a.p.y-a.n.y-a.e.y else bif decide (i'=z8) then a.p.y-a.n.y else a.p.y+a.n.y else (o.p i i').y)=(z7.p i i').y))/\∀ i:Nat,i<z7.n->True/\A (true=true))/\z10/\True) (True/\True/\(True/\True)/\z2/\z3/\z10/\True))) (by kernel_rfl) ?_
 simp only [ask_iff,br_iff,eq_self,true_and,and_true,implies_true,forall_const,decide_eq_true_eq,decide_eq_false_iff_not,ne_eq,Nat.mul_one,Nat.add_zero,Nat.zero_add,Int.toNat_natCast,and_self,false_and,and_false]
 obtain ⟨⟨⟨hn,hk⟩,l0,l1⟩,⟨⟨pa,qa⟩,da,na,ea⟩,⟨pb,qb⟩,db,nb,eb⟩:((o.n<=1048000/\o.k<=1048000)/\0<=o.limit/\o.limit<=1024)/\Sid.ok a/\Sid.ok b:=hg
 have hok:o.ok:=⟨by omega,by omega⟩
 have wna:=sm_le na (show (600:Int)<=1073741824 by omega)
 have wnb:=sm_le nb (show (600:Int)<=1073741824 by omega)
 have wea:=sm_le ea (show (600:Int)<=1073741824 by omega)
 have web:=sm_le eb (show (600:Int)<=1073741824 by omega)
 have wpa:=sm_le pa (show (32767:Int)<=1073741824 by omega)
 have wqb:=sm_le qb (show (32767:Int)<=1073741824 by omega)
 obtain ⟨⟨u1,u2⟩,u3,u4⟩:=id na
 obtain ⟨⟨v1,v2⟩,v3,v4⟩:=id nb
 obtain ⟨⟨x1,x2⟩,x3,x4⟩:=id pa
 obtain ⟨⟨y1,y2⟩,y3,y4⟩:=id qb
 refine ⟨fun hc=>⟨by omega,?_⟩,fun hc=>⟨fun h2=>?_,fun h2=>?_⟩⟩
 ·rw [show o.cp a b=o.dsc2 a.p b.q from if_pos hc]
  exact ⟨⟨⟨⟨rfl,rfl⟩,rfl⟩,rfl⟩,⟨rfl,fun i _=>⟨rfl,fun j _=>⟨rfl,rfl⟩⟩⟩,rfl,fun i _=>⟨rfl,rfl⟩⟩
 ·have e:o.cp a b=(o.add 4 (p4 (addP a.p a.n) (subP a.p a.n) (subP (subP a.p a.n) a.e) (subP (addP a.p a.n) a.e))).add 4 (p4 (addP b.q b.n) (subP b.q b.n) (addP (subP b.q b.n) b.e) (addP (addP b.q b.n) b.e)):=by unfold Olr.cp; rw [if_neg hc,if_pos h2]
  rw [e]
  refine ⟨⟨wpa,wna⟩,⟨wpa,wna⟩,⟨sm (by omega) (by omega),wea⟩,⟨sm (by omega) (by omega),wea⟩,⟨hok,by omega⟩,⟨wqb,wnb⟩,⟨wqb,wnb⟩,⟨sm (by omega) (by omega),web⟩,⟨sm (by omega) (by omega),web⟩,⟨fun i _=>rfl,⟨show o.n+1<=1048576 by omega,show o.k<=1048576 by omega⟩,by omega⟩,?_⟩
  exact ⟨⟨⟨⟨rfl,rfl⟩,rfl⟩,rfl⟩,⟨rfl,fun i _=>⟨rfl,fun j _=>⟨rfl,rfl⟩⟩⟩,rfl,fun i _=>⟨rfl,rfl⟩⟩
 ·rw [show o.cp a b=o by unfold Olr.cp; rw [if_neg hc,if_neg h2]]
  exact ⟨⟨⟨⟨rfl,rfl⟩,rfl⟩,rfl⟩,⟨rfl,fun i _=>⟨rfl,fun j _=>⟨rfl,rfl⟩⟩⟩,rfl,fun i _=>⟨rfl,rfl⟩⟩
end Go.Proofs.YtmhofgchidojoaaGreat.Stb
set_option linter.unusedSimpArgs false
set_option linter.unusedVariables false
namespace Go.Proofs.YtmhofgchidojoaaGreat.Stc
open Go.RowKit Sx Num Aff Con Fla Sta Stb
set_option maxRecDepth 100000
theorem dd_mem (f:Nat->Pt):∀ k i,i<(dd f k).length->∃ j,j<k/\gP (dd f k) i=f j
 | 0,i,h=>absurd h (Nat.not_lt_zero _)
 | k+1,i,h=>by
  have e:dd f (k+1)=if (dd f k).length=0\/¬ eqPt (lastP (dd f k)) (f k) then dd f k++[f k] else dd f k:=rfl
  rw [e] at h ⊢
  split at h
  ·rename_i hc
   rw [if_pos hc]
   rw [List.length_append] at h
   have h:i<(dd f k).length+1:=h
   rw [gP_app _ _ h]
   by_cases hi:i<(dd f k).length
   ·rw [if_pos hi]
    obtain ⟨j,h1,h2⟩:=dd_mem f k i hi
    exact ⟨j,by omega,h2⟩
   ·rw [if_neg hi]
    exact ⟨k,by omega,rfl⟩
  ·rename_i hc
   rw [if_neg hc]
   obtain ⟨j,h1,h2⟩:=dd_mem f k i h
   exact ⟨j,by omega,h2⟩
theorem dd_adj (f:Nat->Pt):∀ k i,i+1<(dd f k).length->¬ eqPt (gP (dd f k) i) (gP (dd f k) (i+1))
 | 0,i,h=>absurd h (Nat.not_lt_zero _)
 | k+1,i,h=>by
  have e:dd f (k+1)=if (dd f k).length=0\/¬ eqPt (lastP (dd f k)) (f k) then dd f k++[f k] else dd f k:=rfl
  rw [e] at h ⊢
  split at h
  ·rename_i hc
   rw [if_pos hc]
   rw [List.length_append] at h
   have h:i+1<(dd f k).length+1:=h
   rw [gP_app _ _ (show i<(dd f k).length+1 by omega),gP_app _ _ h,if_pos (show i<(dd f k).length by omega)]
   by_cases hi:i+1<(dd f k).length
   ·rw [if_pos hi]
    exact dd_adj f k i hi
   ·rw [if_neg hi]
    have hc:¬ eqPt (lastP (dd f k)) (f k):=hc.resolve_left (by omega)
    have el:lastP (dd f k)=gP (dd f k) i:=by unfold lastP; rw [show (dd f k).length-1=i by omega]
    rwa [el] at hc
  ·rename_i hc
   rw [if_neg hc]
   exact dd_adj f k i h
theorem trm_pre:∀ n (L:List Pt),(trm n L).length<=L.length/\(∀ i,i<(trm n L).length->gP (trm n L) i=gP L i)/\(L.length<=n->1<(trm n L).length->¬ eqPt (gP (trm n L) 0) (lastP (trm n L)))
 | 0,L=>⟨Nat.le_refl _,fun _ _=>rfl,fun h h1=>by have h1:1<L.length:=h1; omega⟩
 | n+1,L=>by
  have e:trm (n+1) L=if 1<L.length/\eqPt (gP L 0) (lastP L) then trm n L.dropLast else L:=rfl
  rw [e]
  split
  ·rename_i hc
   obtain ⟨a,b,c⟩:=trm_pre n L.dropLast
   have hd:L.dropLast.length=L.length-1:=List.length_dropLast
   exact ⟨by omega,fun i hi=>by rw [b i hi,gP_drop L (by omega)],fun h=>c (by omega)⟩
  ·rename_i hc
   exact ⟨Nat.le_refl _,fun _ _=>rfl,fun _ h1 he=>hc ⟨h1,he⟩⟩
theorem cl_len (l:Li):(clean l).length<=l.n:=by
 have h:=dd_len l.f l.n
 unfold clean
 split
 ·have:=(trm_pre (dd l.f l.n).length (dd l.f l.n)).1; omega
 ·exact h
theorem cl_mem (l:Li) (i:Nat) (h:i<(clean l).length):∃ j,j<l.n/\gP (clean l) i=l.f j:=by
 unfold clean at h ⊢
 split at h
 ·rename_i hc
  rw [if_pos hc]
  obtain ⟨a,b,-⟩:=trm_pre (dd l.f l.n).length (dd l.f l.n)
  rw [b i h]
  exact dd_mem l.f l.n i (by omega)
 ·rename_i hc
  rw [if_neg hc]
  exact dd_mem l.f l.n i h
theorem cl_adj (l:Li) (i:Nat) (h:i+1<(clean l).length):¬ eqPt (gP (clean l) i) (gP (clean l) (i+1)):=by
 unfold clean at h ⊢
 split at h
 ·rename_i hc
  rw [if_pos hc]
  obtain ⟨a,b,-⟩:=trm_pre (dd l.f l.n).length (dd l.f l.n)
  rw [b i (by omega),b (i+1) h]
  exact dd_adj l.f l.n i (by omega)
 ·rename_i hc
  rw [if_neg hc]
  exact dd_adj l.f l.n i h
theorem cl_end (l:Li) (hc:l.c=true) (h:1<(clean l).length):¬ eqPt (gP (clean l) 0) (gP (clean l) ((clean l).length-1)):=by
 unfold clean at h ⊢
 rw [if_pos hc] at h ⊢
 exact (trm_pre (dd l.f l.n).length (dd l.f l.n)).2.2 (Nat.le_refl _) h
def sdN (l:Li) (i:Nat):Nat:=if i<(clean l).length then i else if l.c=true then (clean l).length else (clean l).length-1
noncomputable def sdA (w:Int) (l:Li) (k:Nat):Sid:=Classical.choose (⟨_,rfl⟩:∃ s,s=mkSid w (gP (clean l) k) (gP (clean l) (if k+1<(clean l).length then k+1 else 0)))
theorem sdA_eq (w:Int) (l:Li) (k:Nat):sdA w l k=mkSid w (gP (clean l) k) (gP (clean l) (if k+1<(clean l).length then k+1 else 0)):=Classical.choose_spec (⟨_,rfl⟩:∃ s,s=mkSid w (gP (clean l) k) (gP (clean l) (if k+1<(clean l).length then k+1 else 0)))
theorem half_in {w l x:Int}(hw:0<=w/\w<=1024) (hl:1<=l) (h : -l<=1024*x/\1024*x<=l) : -600<=half w l x/\half w l x<=600:=by
 have h1:w*(1024*x)<=w*l:=Int.mul_le_mul_of_nonneg_left h.2 hw.1
 have h2:w * -l<=w*(1024*x):=Int.mul_le_mul_of_nonneg_left h.1 hw.1
 have h3:w*l<=1024*l:=Int.mul_le_mul_of_nonneg_right hw.2 (by omega)
 have e:w*(1024*x)=2*(512*w*x):=by grind
 have e2:w * -l = -(w*l):=Int.mul_neg _ _
 unfold half
 exact nr_between hl (by omega) (by omega)
theorem sid_ok {w:Int}{p q:Pt}(hw:0<=w/\w<=1024) (hp:small 32767 p) (hq:small 32767 q) (h:¬ eqPt p q):Sid.ok (mkSid w p q):=by
 have hd:small 65536 (subP q p):=by
  obtain ⟨⟨a1,a2⟩,a3,a4⟩:=hp
  obtain ⟨⟨b1,b2⟩,b3,b4⟩:=hq
  exact sm (by omega) (by omega)
 have hne:(subP q p).x≠0\/(subP q p).y≠0:=by
  by_cases hx:p.x=q.x
  ·refine .inr fun hy=>h ⟨hx,?_⟩
   have hy:q.y-p.y=0:=hy
   omega
  ·refine .inl fun hy=>hx ?_
   have hy:q.x-p.x=0:=hy
   omega
 have l1:=len_pos hne
 have lx:=len_x (subP q p)
 have ly:=len_y (subP q p)
 exact ⟨⟨hp,hq⟩,hd,sm (half_in hw l1 (by omega)) (half_in hw l1 lx),sm (half_in hw l1 lx) (half_in hw l1 ly)⟩
def Li.in (l:Li):Prop:=l.n<=65536/\∀ i,i<l.n->small 32767 (l.f i)
theorem cl_small {l:Li}(hl:Li.in l) {i:Nat}(h:i<(clean l).length):small 32767 (gP (clean l) i):=by
 obtain ⟨j,h1,h2⟩:=cl_mem l i h
 rw [h2]
 exact hl.2 j h1
theorem sd_ends {l:Li}(hl:Li.in l) {k:Nat}(h2:2<=(clean l).length) (h:k<sdN l (clean l).length) :
  small 32767 (gP (clean l) k)/\small 32767 (gP (clean l) (if k+1<(clean l).length then k+1 else 0))/\¬ eqPt (gP (clean l) k) (gP (clean l) (if k+1<(clean l).length then k+1 else 0)):=by
 have en:sdN l (clean l).length=if l.c=true then (clean l).length else (clean l).length-1:=if_neg (Nat.lt_irrefl _)
 rw [en] at h
 have hk:k<(clean l).length:=by split at h<;>omega
 refine ⟨cl_small hl hk,?_,?_⟩
 ·split
  ·exact cl_small hl (by assumption)
  ·exact cl_small hl (by omega)
 ·split
  ·exact cl_adj l k (by assumption)
  ·rename_i hk1
   split at h
   ·rename_i hc
    have:=cl_end l hc (by omega)
    rw [show k=(clean l).length-1 by omega]
    exact fun he=>this ⟨he.1.symm,he.2.symm⟩
   ·omega
theorem sdA_ok {w:Int}{l:Li}(hw:0<=w/\w<=1024) (hl:Li.in l) {k:Nat}(h2:2<=(clean l).length) (h:k<sdN l (clean l).length):Sid.ok (sdA w l k):=by
 obtain ⟨a,b,c⟩:=sd_ends hl h2 h
 rw [sdA_eq]
 exact sid_ok hw a b c
def sPart (s:Sid):Nat->Pt:=p4 (addP s.p s.n) (addP s.q s.n) (subP s.q s.n) (subP s.p s.n)
def _root_.Go.Proofs.YtmhofgchidojoaaGreat.Stb.Olr.sds (o:Olr) (S:Nat->Sid):Nat->Olr
 | 0=>o
 | i+1=>(o.sds S i).add 4 (sPart (S i))
def _root_.Go.Proofs.YtmhofgchidojoaaGreat.Stb.Olr.jns (o:Olr) (S:Nat->Sid):Nat->Olr
 | 0=>o
 | i+1=>(o.jns S i).jn (S i) (S (i+1))
theorem jn_keeps (o:Olr) (a b:Sid):(((o.jn a b).w=o.w/\(o.jn a b).cap=o.cap)/\(o.jn a b).join=o.join/\(o.jn a b).limit=o.limit)/\(o.jn a b).n<=o.n+1/\(o.jn a b).k<=o.k+1:=by
 unfold Olr.jn
 split
 ·exact ⟨⟨⟨rfl,rfl⟩,rfl,rfl⟩,Nat.le_succ _,Nat.le_refl _⟩
 ·split
  ·exact ⟨⟨⟨rfl,rfl⟩,rfl,rfl⟩,Nat.le_succ _,Nat.le_succ _⟩
  ·split
   ·exact ⟨⟨⟨rfl,rfl⟩,rfl,rfl⟩,Nat.le_refl _,Nat.le_succ _⟩
   ·exact ⟨⟨⟨rfl,rfl⟩,rfl,rfl⟩,Nat.le_refl _,Nat.le_succ _⟩
theorem sds_keeps (o:Olr) (S:Nat->Sid):∀ i,(((o.sds S i).w=o.w/\(o.sds S i).cap=o.cap)/\(o.sds S i).join=o.join/\(o.sds S i).limit=o.limit)/\(o.sds S i).n=o.n+i/\(o.sds S i).k=o.k
 | 0=>⟨⟨⟨rfl,rfl⟩,rfl,rfl⟩,rfl,rfl⟩
 | i+1=>by
  obtain ⟨⟨⟨a,b⟩,c,d⟩,e,f⟩:=sds_keeps o S i
  exact ⟨⟨⟨a,b⟩,c,d⟩,by show (o.sds S i).n+1=_; omega,f⟩
theorem jns_keeps (o:Olr) (S:Nat->Sid):∀ i,(((o.jns S i).w=o.w/\(o.jns S i).cap=o.cap)/\(o.jns S i).join=o.join/\(o.jns S i).limit=o.limit)/\(o.jns S i).n<=o.n+i/\(o.jns S i).k<=o.k+i
 | 0=>⟨⟨⟨rfl,rfl⟩,rfl,rfl⟩,Nat.le_refl _,Nat.le_refl _⟩
 | i+1=>by
  obtain ⟨⟨⟨a,b⟩,c,d⟩,e,f⟩:=jns_keeps o S i
  obtain ⟨⟨⟨a',b'⟩,c',d'⟩,e',f'⟩:=jn_keeps (o.jns S i) (S i) (S (i+1))
  exact ⟨⟨⟨a'.trans a,b'.trans b⟩,c'.trans c,d'.trans d⟩,by show ((o.jns S i).jn _ _).n<=_; omega,by show ((o.jns S i).jn _ _).k<=_; omega⟩
theorem jn_ok {x:Olr}{a b:Sid}(h1:x.n<=1048000) (h2:x.k<=1048000) (h3:0<=x.limit) (h4:x.limit<=1024) (ha:Sid.ok a) (hb:Sid.ok b):JnG.ok ⟨x,a,b⟩:=⟨⟨⟨h1,h2⟩,h3,h4⟩,ha,hb⟩
def _root_.Go.Proofs.YtmhofgchidojoaaGreat.Stb.Olr.ends (o:Olr) (l:Li) (S:Nat->Sid) (c:Nat):Olr:=if l.c=true then o.jn (S (c-1)) (S 0) else o.cp (S 0) (S (c-1))
noncomputable def _root_.Go.Proofs.YtmhofgchidojoaaGreat.Stb.Olr.ln (o:Olr) (l:Li):Olr:=
 if (clean l).length<2 then (if (clean l).length=1 then o.dt (gP (clean l) 0) else o)
 else ((o.sds (sdA o.w l) (sdN l (clean l).length)).jns (sdA o.w l) (sdN l (clean l).length-1)).ends l (sdA o.w l) (sdN l (clean l).length)
theorem sd_app {w:Int}{l:Li}{c:Nat}{M:Sid}(e:sdA w l c=M):∀ i,i<c+1->((((((((((bif decide (i<c) then (sdA w l i).p.x else M.p.x)=(sdA w l i).p.x/\(bif decide (i<c) then (sdA w l i).p.y else M.p.y)=(sdA w l i).p.y)/\(bif decide (i<c) then (sdA w l i).q.x else M.q.x)=(sdA w l i).q.x)/\(bif decide (i<c) then (sdA w l i).q.y else M.q.y)=(sdA w l i).q.y)/\(bif decide (i<c) then (sdA w l i).d.x else M.d.x)=(sdA w l i).d.x)/\(bif decide (i<c) then (sdA w l i).d.y else M.d.y)=(sdA w l i).d.y)/\(bif decide (i<c) then (sdA w l i).n.x else M.n.x)=(sdA w l i).n.x)/\(bif decide (i<c) then (sdA w l i).n.y else M.n.y)=(sdA w l i).n.y)/\(bif decide (i<c) then (sdA w l i).e.x else M.e.x)=(sdA w l i).e.x)/\(bif decide (i<c) then (sdA w l i).e.y else M.e.y)=(sdA w l i).e.y):=fun i hi=>by
 by_cases h:i<c
 ·rw [decide_eq_true h]
  exact ⟨⟨⟨⟨⟨⟨⟨⟨⟨rfl,rfl⟩,rfl⟩,rfl⟩,rfl⟩,rfl⟩,rfl⟩,rfl⟩,rfl⟩,rfl⟩
 ·obtain rfl:i=c:=by omega
  rw [decide_eq_false h,<-e]
  exact ⟨⟨⟨⟨⟨⟨⟨⟨⟨rfl,rfl⟩,rfl⟩,rfl⟩,rfl⟩,rfl⟩,rfl⟩,rfl⟩,rfl⟩,rfl⟩
structure LnG where
 o:Olr
 l:Li
def LnG.ok (g:LnG):Prop:=((g.o.n<=1000/\g.o.k<=1000)/\(1<=g.o.w/\g.o.w<=1024)/\0<=g.o.limit/\g.o.limit<=1024)/\Li.in g.l
def boxL (l:Li):SO:= .cells 2 (lst (liL l)) 31
noncomputable def sdRow (w:Int) (l:Li) (c:Nat):SO:= .row 0 c 10 (fun i=>lst (sidL (sdA w l i))) 98
noncomputable def lnA (g:LnG):Inv:=⟨Nat,fun i=>i<=(clean g.l).length,fun i=>⟨[(0,.own 0 0),(3,.own 3 0),(4,vecS (clean g.l)),(5,.osl 4 0),(24,vecS (clean g.l)),(25,.int .i64 (clean g.l).length),(26,.int .i64 i)],
 oO 0 g.o++[boxL g.l,sdRow g.o.w g.l (sdN g.l i)]⟩,fun i=>(clean g.l).length-i⟩
noncomputable def lnB (g:LnG):Inv:=⟨Nat,fun i=>i<=sdN g.l (clean g.l).length,fun i=>⟨[(0,.own 0 0),(3,.own 3 0),(5,.osl 4 0),(67,.osl 4 0),(68,.int .i64 (sdN g.l (clean g.l).length)),(69,.int .i64 i)],
 oO 1 (g.o.sds (sdA g.o.w g.l) i)++[boxL g.l,sdRow g.o.w g.l (sdN g.l (clean g.l).length)]⟩,fun i=>sdN g.l (clean g.l).length-i⟩
noncomputable def lnC (g:LnG):Inv:=⟨Nat,fun i=>i<=sdN g.l (clean g.l).length-1,fun i=>⟨[(0,.own 0 0),(3,.own 3 0),(5,.osl 4 0),(10,.int .i64 (i+1))],
 oO 1 ((g.o.sds (sdA g.o.w g.l) (sdN g.l (clean g.l).length)).jns (sdA g.o.w g.l) i)++[boxL g.l,sdRow g.o.w g.l (sdN g.l (clean g.l).length)]⟩,fun i=>sdN g.l (clean g.l).length-i⟩
noncomputable def spLn:FSpec:=mkSpecM 28 [.arg 0,.cell 0 4,.cell 0 5] (γ:=LnG) (fun | [_,.agg _ a],[.cells _ g _,.deep _ n _ _ m p _ _ _ _,.row _ k _ d _]=>some ⟨olD g n m p k d,liD a⟩ | _,_=>none) (fun g=>[.own 0 0,liS g.l])
 (fun g=>oO 0 g.o) LnG.ok (fun _=> .tup 0 (lst [])) (fun g=>oO 1 (g.o.ln g.l))
theorem ok_ln:SpecOK Tryz.prog spLn:=by
 refine spec_soundM (specs:=[spClean,spDt,spSide,spPlus,spMinus,spPart,spJn,spCp]) (all_ok (⟨ok_clean,ok_dt,ok_side,ok_plus,ok_minus,ok_part,ok_jn,ok_cp,trivial⟩)) (eqs:=[]) (fun _ _ h=>(List.not_mem_nil h).elim) Aff.mixed Tryz.func28 rfl (by kernel_rfl) (fun _ _=>by kernel_rfl) (fun g=>(⟨[(7,.inv (lnA g)),(15,.inv (lnB g)),(20,.inv (lnC g))],[(6,[.own 5 98 10])]⟩:Ann)) true (fun g=>Nat.le_of_ble_eq_true (by kernel_rfl)) ?_
 rintro ⟨o,l⟩ hg
 refine vc_of (B:=let J:=Int.toNat;let K:=Sx.Br;let A:=Sx.Ask;let z66:=(2:Nat);let z65:=(3:Nat);let z64:=(1073741824:Int);let z61:=(1:Nat);let z49:=(true=true);let z46:=(9223372036854775807:Int);let z45:=(-9223372036854775808:Int);let z44:=(0:Int);let z41:=(LnG.mk o l);let z62:=(lnA z41);let z32:=(1:Int);let z25:=((0:Nat)=(0:Nat));let z13:=(sdA o.w l);let z5:=(sdA o.w l (J z44));let z4:=(Sta.clean l);let z33:=(↑z4.length:Int);let z20:=(↑(sdN l z4.length):Int);let z67:=((z20-z32).toNat<sdN l z4.length);let z16:=(o.sds z13 (sdN l z4.length));let z11:=(Sta.gP z4 (J z44));let z60:=(o.dt z11);let z2:=(sdA o.w l (z20-z32).toNat);let z0:=(IntKind.i64=IntKind.i64);let z56:=((True/\A z0/\A (z11.x=z11.x))/\A z0/\A (z11.y=z11.y));let z52:=(A z0/\A (z33=z33));let z24:=((((((((((True/\A z0/\A (z5.p.x=z5.p.x))/\A z0/\A (z5.p.y=z5.p.y))/\A z0/\A (z5.q.x=z5.q.x))/\A z0/\A (z5.q.y=z5.q.y))/\A z0/\A (z5.d.x=z5.d.x))/\A z0/\A (z5.d.y=z5.d.y))/\A z0/\A (z5.n.x=z5.n.x))/\A z0/\A (z5.n.y=z5.n.y))/\A z0/\A (z5.e.x=z5.e.x))/\A z0/\A (z5.e.y=z5.e.y));let z23:=((((((((((True/\A z0/\A (z2.p.x=z2.p.x))/\A z0/\A (z2.p.y=z2.p.y))/\A z0/\A (z2.q.x=z2.q.x))/\A z0/\A (z2.q.y=z2.q.y))/\A z0/\A (z2.d.x=z2.d.x))/\A z0/\A (z2.d.y=z2.d.y))/\A z0/\A (z2.n.x=z2.n.x))/\A z0/\A (z2.n.y=z2.n.y))/\A z0/\A (z2.e.x=z2.e.x))/\A z0/\A (z2.e.y=z2.e.y));let z18:=(A (o.k=o.k)/\∀ i:Nat,i<o.k->(True/\A z0/\A ((o.d i).x=(o.d i).x))/\A z0/\A ((o.d i).y=(o.d i).y));let z17:=((((((True/\A z0/\A (o.w=o.w))/\A z0/\A (o.cap=o.cap))/\A z0/\A (o.join=o.join))/\A z0/\A (o.limit=o.limit))/\True)/\True);let z12:=(A (o.n=o.n)/\(∀ i:Nat,i<o.n->A (o.m i=o.m i)/\∀ (i':Nat),i'<o.m i->(True/\A z0/\A ((o.p i i').x=(o.p i i').x))/\A z0/\A ((o.p i i').y=(o.p i i').y))/\∀ i:Nat,i<o.n->True/\A z49);let z9:=(A (z4.length=z4.length)/\∀ i:Nat,i<z4.length->(True/\A z0/\A ((Sta.gP z4 i).x=(Sta.gP z4 i).x))/\A z0/\A ((Sta.gP z4 i).y=(Sta.gP z4 i).y));let z8:=((True/\A (l.n=l.n)/\∀ i:Nat,i<l.n->(True/\A z0/\A ((l.f i).x=(l.f i).x))/\A z0/\A ((l.f i).y=(l.f i).y))/\A (l.c=l.c));let z7:=(A (sdN l z4.length=sdN l z4.length)/\∀ i:Nat,let z35:=(sdA o.w l i); i<sdN l z4.length->(((((((((True/\A z0/\A (z35.p.x=z35.p.x))/\A z0/\A (z35.p.y=z35.p.y))/\A z0/\A (z35.q.x=z35.q.x))/\A z0/\A (z35.q.y=z35.q.y))/\A z0/\A (z35.d.x=z35.d.x))/\A z0/\A (z35.d.y=z35.d.y))/\A z0/\A (z35.n.x=z35.n.x))/\A z0/\A (z35.n.y=z35.n.y))/\A z0/\A (z35.e.x=z35.e.x))/\A z0/\A (z35.e.y=z35.e.y));True/\True/\((z8/\True)/\A (l.n<=(1048576:Nat)))/\True/\True/\True/\True/\K (decide (z33<(2:Int))) (True/\True/\True/\K (decide (z33=z32)) (True/\True/\A (z44<=z44/\z44<z33)/\True/\((True/\(A z25/\z56/\True)/\z17/\z12/\z18/\True)/\A (Stb.DtG.mk o z11).ok)/\True/\True/\(True/\True)/\((((((True/\A z0/\A (z60.w=(o.ln l).w))/\A z0/\A (z60.cap=(o.ln l).cap))/\A z0/\A (z60.join=(o.ln l).join))/\A z0/\A (z60.limit=(o.ln l).limit))/\True)/\True)/\(A (z60.n=(o.ln l).n)/\(∀ i:Nat,i<(o.ln l).n->A (z60.m i=(o.ln l).m i)/\∀ (i':Nat),i'<(o.ln l).m i->(True/\A z0/\A ((z60.p i i').x=((o.ln l).p i i').x))/\A z0/\A ((z60.p i i').y=((o.ln l).p i i').y))/\∀ i:Nat,i<(o.ln l).n->True/\A z49)/\(A (z60.k=(o.ln l).k)/\∀ i:Nat,i<(o.ln l).k->(True/\A z0/\A ((z60.d i).x=((o.ln l).d i).x))/\A z0/\A ((z60.d i).y=((o.ln l).d i).y))/\True) (True/\True/\(True/\True)/\((((((True/\A z0/\A (o.w=(o.ln l).w))/\A z0/\A (o.cap=(o.ln l).cap))/\A z0/\A (o.join=(o.ln l).join))/\A z0/\A (o.limit=(o.ln l).limit))/\True)/\True)/\(A (o.n=(o.ln l).n)/\(∀ i:Nat,i<(o.ln l).n->A (o.m i=(o.ln l).m i)/\∀ (i':Nat),i'<(o.ln l).m i->(True/\A z0/\A ((o.p i i').x=((o.ln l).p i i').x))/\A z0/\A ((o.p i i').y=((o.ln l).p i i').y))/\∀ i:Nat,i<(o.ln l).n->True/\A z49)/\(A (o.k=(o.ln l).k)/\∀ i:Nat,i<(o.ln l).k->(True/\A z0/\A ((o.d i).x=((o.ln l).d i).x))/\A z0/\A ((o.d i).y=((o.ln l).d i).y))/\True)) (True/\True/\True/\True/\(∃ g:Nat,A (z62.pre g)/\True/\(A z25/\A z25/\z9/\True/\z9/\z52/\(A z0/\A (z44=(↑g:Int)))/\True)/\z17/\z12/\z18/\z8/\(A ((0:Nat)=sdN l g)/\∀ i:Nat,i<sdN l g->(((((((((True/\False)/\False)/\False)/\False)/\False)/\False)/\False)/\False)/\False)/\False)/\True)/\∀ g:Nat,let z59:=(↑g:Int);let z47:=(sdN l g+z61<=(9223372036854775807:Nat)/\(sdN l g+z61)*(80:Nat)<=(140737488355328:Nat));let z22:=(z45<=z59+z32/\z59+z32<=z46);let z15:=(Sta.gP z4 (z59+z32).toNat);let z14:=(Sta.gP z4 z59.toNat);let z57:=((True/\A z0/\A (z14.x=z14.x))/\A z0/\A (z14.y=z14.y));let z31:=(Int.ofNat (isq ((1048576:Int)*Sta.dotP (Sta.subP z11 z14) (Sta.subP z11 z14)).toNat));let z30:=(Int.ofNat (isq ((1048576:Int)*Sta.dotP (Sta.subP z15 z14) (Sta.subP z15 z14)).toNat)); z62.pre g->True/\K (decide (z59<z33)) (True/\A (z44<=z59/\z59<z33)/\True/\True/\True/\True/\True/\A z22/\True/\True/\True/\K (decide (z59+z32<z33)) (True/\True/\True/\True/\A z22/\A (z44<=z59+z32/\z59+z32<z33)/\True/\True/\True/\True/\True/\True/\((z57/\((True/\A z0/\A (z15.x=z15.x))/\A z0/\A (z15.y=z15.y))/\(A z0/\A (o.w=o.w))/\True)/\A (Sta.MsG.mk z14 z15 o.w).ok)/\True/\A z47/\True/\A z22/\True/\∃ (g':Nat),A (z62.pre g')/\True/\((A z25/\A z25/\z9/\True/\z9/\z52/\(A z0/\A (z59+z32=(↑g':Int)))/\True)/\z17/\z12/\z18/\z8/\(A (sdN l g+z61=sdN l g')/\∀ i:Nat,let z54:=(i<sdN l g);let z36:=(sdA o.w l i); i<sdN l g'->(((((((((True/\A z0/\A ((bif decide z54 then z36.p.x else z14.x)=z36.p.x))/\A z0/\A ((bif decide z54 then z36.p.y else z14.y)=z36.p.y))/\A z0/\A ((bif decide z54 then z36.q.x else z15.x)=z36.q.x))/\A z0/\A ((bif decide z54 then z36.q.y else z15.y)=z36.q.y))/\A z0/\A ((bif decide z54 then z36.d.x else z15.x-z14.x)=z36.d.x))/\A z0/\A ((bif decide z54 then z36.d.y else z15.y-z14.y)=z36.d.y))/\A z0/\A ((bif decide z54 then z36.n.x else Sta.half o.w z30 (z44-(z15.y-z14.y)))=z36.n.x))/\A z0/\A ((bif decide z54 then z36.n.y else Sta.half o.w z30 (z15.x-z14.x))=z36.n.y))/\A z0/\A ((bif decide z54 then z36.e.x else Sta.half o.w z30 (z15.x-z14.x))=z36.e.x))/\A z0/\A ((bif decide z54 then z36.e.y else Sta.half o.w z30 (z15.y-z14.y))=z36.e.y))/\True)/\A (z62.meas g'<z62.meas g)) (True/\True/\K l.c (True/\True/\True/\A (z44<=z44/\z44<z33)/\True/\True/\True/\True/\True/\True/\((z57/\z56/\(A z0/\A (o.w=o.w))/\True)/\A (Sta.MsG.mk z14 z11 o.w).ok)/\True/\A z47/\True/\A z22/\True/\∃ (g':Nat),A (z62.pre g')/\True/\((A z25/\A z25/\z9/\True/\z9/\z52/\(A z0/\A (z59+z32=(↑g':Int)))/\True)/\z17/\z12/\z18/\z8/\(A (sdN l g+z61=sdN l g')/\∀ i:Nat,let z55:=(i<sdN l g);let z37:=(sdA o.w l i); i<sdN l g'->(((((((((True/\A z0/\A ((bif decide z55 then z37.p.x else z14.x)=z37.p.x))/\A z0/\A ((bif decide z55 then z37.p.y else z14.y)=z37.p.y))/\A z0/\A ((bif decide z55 then z37.q.x else z11.x)=z37.q.x))/\A z0/\A ((bif decide z55 then z37.q.y else z11.y)=z37.q.y))/\A z0/\A ((bif decide z55 then z37.d.x else z11.x-z14.x)=z37.d.x))/\A z0/\A ((bif decide z55 then z37.d.y else z11.y-z14.y)=z37.d.y))/\A z0/\A ((bif decide z55 then z37.n.x else Sta.half o.w z31 (z44-(z11.y-z14.y)))=z37.n.x))/\A z0/\A ((bif decide z55 then z37.n.y else Sta.half o.w z31 (z11.x-z14.x))=z37.n.y))/\A z0/\A ((bif decide z55 then z37.e.x else Sta.half o.w z31 (z11.x-z14.x))=z37.e.x))/\A z0/\A ((bif decide z55 then z37.e.y else Sta.half o.w z31 (z11.y-z14.y))=z37.e.y))/\True)/\A (z62.meas g'<z62.meas g)) (A z22/\True/\∃ (g':Nat),A (z62.pre g')/\True/\((A z25/\A z25/\z9/\True/\z9/\z52/\(A z0/\A (z59+z32=(↑g':Int)))/\True)/\z17/\z12/\z18/\z8/\(A (sdN l g=sdN l g')/\∀ i:Nat,let z38:=(sdA o.w l i); i<sdN l g'->(((((((((True/\A z0/\A (z38.p.x=z38.p.x))/\A z0/\A (z38.p.y=z38.p.y))/\A z0/\A (z38.q.x=z38.q.x))/\A z0/\A (z38.q.y=z38.q.y))/\A z0/\A (z38.d.x=z38.d.x))/\A z0/\A (z38.d.y=z38.d.y))/\A z0/\A (z38.n.x=z38.n.x))/\A z0/\A (z38.n.y=z38.n.y))/\A z0/\A (z38.e.x=z38.e.x))/\A z0/\A (z38.e.y=z38.e.y))/\True)/\A (z62.meas g'<z62.meas g)))) (True/\True/\True/\(∃ g_1:Nat,let z42:=(o.sds z13 g_1); A ((lnB z41).pre g_1)/\True/\(A z25/\A z25/\True/\True/\(A z0/\A ((↑(sdN l g):Int)=z20))/\(A z0/\A (z44=(↑g_1:Int)))/\True)/\((((((True/\A z0/\A (o.w=z42.w))/\A z0/\A (o.cap=z42.cap))/\A z0/\A (o.join=z42.join))/\A z0/\A (o.limit=z42.limit))/\True)/\True)/\(A (o.n=z42.n)/\(∀ i:Nat,i<z42.n->A (o.m i=z42.m i)/\∀ (i':Nat),i'<z42.m i->(True/\A z0/\A ((o.p i i').x=(z42.p i i').x))/\A z0/\A ((o.p i i').y=(z42.p i i').y))/\∀ i:Nat,i<z42.n->True/\A z49)/\(A (o.k=z42.k)/\∀ i:Nat,i<z42.k->(True/\A z0/\A ((o.d i).x=(z42.d i).x))/\A z0/\A ((o.d i).y=(z42.d i).y))/\z8/\(A (sdN l g=sdN l z4.length)/\∀ i:Nat,let z39:=(sdA o.w l i); i<sdN l z4.length->(((((((((True/\A z0/\A (z39.p.x=z39.p.x))/\A z0/\A (z39.p.y=z39.p.y))/\A z0/\A (z39.q.x=z39.q.x))/\A z0/\A (z39.q.y=z39.q.y))/\A z0/\A (z39.d.x=z39.d.x))/\A z0/\A (z39.d.y=z39.d.y))/\A z0/\A (z39.n.x=z39.n.x))/\A z0/\A (z39.n.y=z39.n.y))/\A z0/\A (z39.e.x=z39.e.x))/\A z0/\A (z39.e.y=z39.e.y))/\True)/\∀ g:Nat,let z63:=(↑g:Int);let z21:=(o.sds z13 g);let z3:=(sdA o.w l z63.toNat);let z53:=((True/\A z0/\A (z3.n.x=z3.n.x))/\A z0/\A (z3.n.y=z3.n.y));let z29:=((((True/\A z0/\A (z3.q.x=z3.q.x))/\A z0/\A (z3.q.y=z3.q.y))/\z53/\True)/\A (Fla.small z64 z3.q/\Fla.small z64 z3.n));let z28:=((((True/\A z0/\A (z3.p.x=z3.p.x))/\A z0/\A (z3.p.y=z3.p.y))/\z53/\True)/\A (Fla.small z64 z3.p/\Fla.small z64 z3.n)); (lnB z41).pre g->True/\K (decide (z63<z20)) (A (z44<=z63/\z63<z20)/\A (z63.toNat<sdN l z4.length)/\True/\True/\True/\True/\True/\True/\True/\z28/\True/\True/\True/\True/\z29/\True/\True/\True/\True/\z29/\True/\True/\True/\True/\z28/\True/\((True/\(A z25/\(A ((4:Nat)=(4:Nat))/\∀ i:Nat,i<(4:Nat)->(True/\A z0/\A ((bif decide (i=z65) then z3.p.x-z3.n.x else bif decide (i=z66) then z3.q.x-z3.n.x else bif decide (i=z61) then z3.q.x+z3.n.x else z3.p.x+z3.n.x)=bif decide (i=z65) then z3.p.x-z3.n.x else bif decide (i=z66) then z3.q.x-z3.n.x else bif decide (i=z61) then z3.q.x+z3.n.x else z3.p.x+z3.n.x))/\A z0/\A ((bif decide (i=z65) then z3.p.y-z3.n.y else bif decide (i=z66) then z3.q.y-z3.n.y else bif decide (i=z61) then z3.q.y+z3.n.y else z3.p.y+z3.n.y)=bif decide (i=z65) then z3.p.y-z3.n.y else bif decide (i=z66) then z3.q.y-z3.n.y else bif decide (i=z61) then z3.q.y+z3.n.y else z3.p.y+z3.n.y))/\True)/\((((((True/\A z0/\A (z21.w=z21.w))/\A z0/\A (z21.cap=z21.cap))/\A z0/\A (z21.join=z21.join))/\A z0/\A (z21.limit=z21.limit))/\True)/\True)/\(A (z21.n=z21.n)/\(∀ i:Nat,i<z21.n->A (z21.m i=z21.m i)/\∀ (i':Nat),i'<z21.m i->(True/\A z0/\A ((z21.p i i').x=(z21.p i i').x))/\A z0/\A ((z21.p i i').y=(z21.p i i').y))/\∀ i:Nat,i<z21.n->True/\A z49)/\(A (z21.k=z21.k)/\∀ i:Nat,i<z21.k->(True/\A z0/\A ((z21.d i).x=(z21.d i).x))/\A z0/\A ((z21.d i).y=(z21.d i).y))/\True)/\A (z21.ok/\(4:Nat)<=(1048576:Nat)))/\A (z45<=z63+z32/\z63+z32<=z46)/\True/\∃ (g':Nat),let z43:=(o.sds z13 g'); A ((lnB z41).pre g')/\True/\((A z25/\A z25/\True/\True/\(A z0/\A (z20=z20))/\(A z0/\A (z63+z32=(↑g':Int)))/\True)/\((((((True/\A z0/\A (z21.w=z43.w))/\A z0/\A (z21.cap=z43.cap))/\A z0/\A (z21.join=z43.join))/\A z0/\A (z21.limit=z43.limit))/\True)/\True)/\(A (z21.n+z61=z43.n)/\(∀ i:Nat,i<z43.n->A ((z21.add (4:Nat) fun (i:Nat)=>Con.Pt.mk (bif decide (i=z65) then z3.p.x-z3.n.x else bif decide (i=z66) then z3.q.x-z3.n.x else bif decide (i=z61) then z3.q.x+z3.n.x else z3.p.x+z3.n.x) (bif decide (i=z65) then z3.p.y-z3.n.y else bif decide (i=z66) then z3.q.y-z3.n.y else bif decide (i=z61) then z3.q.y+z3.n.y else z3.p.y+z3.n.y)).m i=z43.m i)/\∀ (i':Nat),i'<z43.m i->(True/\A z0/\A ((bif decide (i=z21.n) then bif decide (i'=z65) then z3.p.x-z3.n.x else bif decide (i'=z66) then z3.q.x-z3.n.x else bif decide (i'=z61) then z3.q.x+z3.n.x else z3.p.x+z3.n.x else (z21.p i i').x)=(z43.p i i').x))/\A z0/\A ((bif decide (i=z21.n) then bif decide (i'=z65) then z3.p.y-z3.n.y else bif decide (i'=z66) then z3.q.y-z3.n.y else bif decide (i'=z61) then z3.q.y+z3.n.y else z3.p.y+z3.n.y else (z21.p i i').y)=(z43.p i i').y))/\∀ i:Nat,i<z43.n->True/\A z49)/\(A (z21.k=z43.k)/\∀ i:Nat,i<z43.k->(True/\A z0/\A ((z21.d i).x=(z43.d i).x))/\A z0/\A ((z21.d i).y=(z43.d i).y))/\z8/\z7/\True)/\A ((lnB z41).meas g'<(lnB z41).meas g)) (True/\(∃ g_1:Nat,let z34:=(z16.jns z13 g_1); A ((lnC z41).pre g_1)/\True/\(A z25/\A z25/\True/\(A z0/\A (z32=(↑g_1:Int)+z32))/\True)/\((((((True/\A z0/\A (z21.w=z34.w))/\A z0/\A (z21.cap=z34.cap))/\A z0/\A (z21.join=z34.join))/\A z0/\A (z21.limit=z34.limit))/\True)/\True)/\(A (z21.n=z34.n)/\(∀ i:Nat,i<z34.n->A (z21.m i=z34.m i)/\∀ (i':Nat),i'<z34.m i->(True/\A z0/\A ((z21.p i i').x=(z34.p i i').x))/\A z0/\A ((z21.p i i').y=(z34.p i i').y))/\∀ i:Nat,i<z34.n->True/\A z49)/\(A (z21.k=z34.k)/\∀ i:Nat,i<z34.k->(True/\A z0/\A ((z21.d i).x=(z34.d i).x))/\A z0/\A ((z21.d i).y=(z34.d i).y))/\z8/\z7/\True)/\∀ g:Nat,let z58:=(↑g:Int);let z10:=(sdA o.w l (z58+z32).toNat);let z6:=(sdA o.w l (z58+z32-z32).toNat);let z1:=(z16.jns z13 g);let z51:=(z1.cp z5 z2);let z50:=(z1.jn z2 z5);let z48:=(z1.jn z6 z10);let z27:=(A (z1.k=z1.k)/\∀ i:Nat,i<z1.k->(True/\A z0/\A ((z1.d i).x=(z1.d i).x))/\A z0/\A ((z1.d i).y=(z1.d i).y));let z26:=((((((True/\A z0/\A (z1.w=z1.w))/\A z0/\A (z1.cap=z1.cap))/\A z0/\A (z1.join=z1.join))/\A z0/\A (z1.limit=z1.limit))/\True)/\True);let z19:=(A (z1.n=z1.n)/\(∀ i:Nat,i<z1.n->A (z1.m i=z1.m i)/\∀ (i':Nat),i'<z1.m i->(True/\A z0/\A ((z1.p i i').x=(z1.p i i').x))/\A z0/\A ((z1.p i i').y=(z1.p i i').y))/\∀ i:Nat,i<z1.n->True/\A z49); (lnC z41).pre g->True/\True/\True/\True/\K (decide (z58+z32<z20)) (True/\True/\True/\A (z45<=z58+z32-z32/\z58+z32-z32<=z46)/\A (z44<=z58+z32-z32/\z58+z32-z32<z20)/\A ((z58+z32-z32).toNat<sdN l z4.length)/\True/\True/\A (z44<=z58+z32/\z58+z32<z20)/\A ((z58+z32).toNat<sdN l z4.length)/\((True/\(A z25/\((((((((((True/\A z0/\A (z6.p.x=z6.p.x))/\A z0/\A (z6.p.y=z6.p.y))/\A z0/\A (z6.q.x=z6.q.x))/\A z0/\A (z6.q.y=z6.q.y))/\A z0/\A (z6.d.x=z6.d.x))/\A z0/\A (z6.d.y=z6.d.y))/\A z0/\A (z6.n.x=z6.n.x))/\A z0/\A (z6.n.y=z6.n.y))/\A z0/\A (z6.e.x=z6.e.x))/\A z0/\A (z6.e.y=z6.e.y))/\((((((((((True/\A z0/\A (z10.p.x=z10.p.x))/\A z0/\A (z10.p.y=z10.p.y))/\A z0/\A (z10.q.x=z10.q.x))/\A z0/\A (z10.q.y=z10.q.y))/\A z0/\A (z10.d.x=z10.d.x))/\A z0/\A (z10.d.y=z10.d.y))/\A z0/\A (z10.n.x=z10.n.x))/\A z0/\A (z10.n.y=z10.n.y))/\A z0/\A (z10.e.x=z10.e.x))/\A z0/\A (z10.e.y=z10.e.y))/\True)/\z26/\z19/\z27/\True)/\A (Stb.JnG.mk z1 z6 z10).ok)/\True/\A (z45<=z58+z32+z32/\z58+z32+z32<=z46)/\True/\∃ (g':Nat),let z40:=(z16.jns z13 g'); A ((lnC z41).pre g')/\True/\((A z25/\A z25/\True/\(A z0/\A (z58+z32+z32=(↑g':Int)+z32))/\True)/\((((((True/\A z0/\A (z48.w=z40.w))/\A z0/\A (z48.cap=z40.cap))/\A z0/\A (z48.join=z40.join))/\A z0/\A (z48.limit=z40.limit))/\True)/\True)/\(A (z48.n=z40.n)/\(∀ i:Nat,i<z40.n->A (z48.m i=z40.m i)/\∀ (i':Nat),i'<z40.m i->(True/\A z0/\A ((z48.p i i').x=(z40.p i i').x))/\A z0/\A ((z48.p i i').y=(z40.p i i').y))/\∀ i:Nat,i<z40.n->True/\A z49)/\(A (z48.k=z40.k)/\∀ i:Nat,i<z40.k->(True/\A z0/\A ((z48.d i).x=(z40.d i).x))/\A z0/\A ((z48.d i).y=(z40.d i).y))/\z8/\z7/\True)/\A ((lnC z41).meas g'<(lnC z41).meas g)) (True/\True/\K l.c (True/\True/\True/\True/\A (z45<=z20-z32/\z20-z32<=z46)/\A (z44<=z20-z32/\z20-z32<z20)/\A z67/\True/\A (z44<=z44/\z44<z20)/\A (J z44<sdN l z4.length)/\((True/\(A z25/\z23/\z24/\True)/\z26/\z19/\z27/\True)/\A (Stb.JnG.mk z1 z2 z5).ok)/\True/\True/\(True/\True)/\((((((True/\A z0/\A (z50.w=(o.ln l).w))/\A z0/\A (z50.cap=(o.ln l).cap))/\A z0/\A (z50.join=(o.ln l).join))/\A z0/\A (z50.limit=(o.ln l).limit))/\True)/\True)/\(A (z50.n=(o.ln l).n)/\(∀ i:Nat,i<(o.ln l).n->A (z50.m i=(o.ln l).m i)/\∀ (i':Nat),i'<(o.ln l).m i->(True/\A z0/\A ((z50.p i i').x=((o.ln l).p i i').x))/\A z0/\A ((z50.p i i').y=((o.ln l).p i i').y))/\∀ i:Nat,i<(o.ln l).n->True/\A z49)/\(A (z50.k=(o.ln l).k)/\∀ i:Nat,i<(o.ln l).k->(True/\A z0/\A ((z50.d i).x=((o.ln l).d i).x))/\A z0/\A ((z50.d i).y=((o.ln l).d i).y))/\True) (True/\True/\A (z44<=z44/\z44<z20)/\A (J z44<sdN l z4.length)/\True/\True/\True/\A (z45<=z20-z32/\z20-z32<=z46)/\A (z44<=z20-z32/\z20-z32<z20)/\A z67/\((True/\(A z25/\z24/\z23/\True)/\z26/\z19/\z27/\True)/\A (Stb.JnG.mk z1 z5 z2).ok)/\True/\True/\(True/\True)/\((((((True/\A z0/\A (z51.w=(o.ln l).w))/\A z0/\A (z51.cap=(o.ln l).cap))/\A z0/\A (z51.join=(o.ln l).join))/\A z0/\A (z51.limit=(o.ln l).limit))/\True)/\True)/\(A (z51.n=(o.ln l).n)/\(∀ i:Nat,i<(o.ln l).n->A (z51.m i=(o.ln l).m i)/\∀ (i':Nat),i'<(o.ln l).m i->(True/\A z0/\A ((z51.p i i').x=((o.ln l).p i i').x))/\A z0/\A ((z51.p i i').y=((o.ln l).p i i').y))/\∀ i:Nat,i<(o.ln l).n->True/\A z49)/\(A (z51.k=(o.ln l).k)/\∀ i:Nat,i<(o.ln l).k->(True/\A z0/\A ((z51.d i).x=((o.ln l).d i).x))/\A z0/\A ((z51.d i).y=((o.ln l).d i).y))/\True)))))) (by kernel_rfl) ?_
 simp only [ask_iff,br_iff,eq_self,true_and,and_true,implies_true,forall_const,decide_eq_true_eq,decide_eq_false_iff_not,ne_eq,Nat.mul_one,Nat.add_zero,Nat.zero_add,Int.toNat_natCast,and_self,false_and,and_false]
 obtain ⟨⟨⟨hn,hk⟩,⟨w0,w1⟩,l0,l1⟩,hl⟩:((o.n<=1000/\o.k<=1000)/\(1<=o.w/\o.w<=1024)/\0<=o.limit/\o.limit<=1024)/\Li.in l:=hg
 have hln:l.n<=65536:=hl.1
 have hcl:=cl_len l
 have z0:Int.toNat 0=0:=rfl
 have hw:0<=o.w/\o.w<=1024:=by omega
 simp only [z0]
 refine ⟨by omega,fun hlt=>⟨fun h1=>?_,fun h1=>?_⟩,fun hge=>?_⟩
 ·rw [show o.ln l=o.dt (gP (clean l) 0) by unfold Olr.ln; rw [if_pos (by omega),if_pos (by omega)]]
  refine ⟨by omega,⟨⟨⟨show o.n<=1048000 by omega,show o.k<=1048000 by omega⟩,w0,w1⟩,cl_small hl (by omega)⟩,?_⟩
  exact ⟨⟨⟨⟨rfl,rfl⟩,rfl⟩,rfl⟩,⟨rfl,fun i _=>⟨rfl,fun j _=>⟨rfl,rfl⟩⟩⟩,rfl,fun i _=>⟨rfl,rfl⟩⟩
 ·rw [show o.ln l=o by unfold Olr.ln; rw [if_pos (by omega),if_neg (by omega)]]
  exact ⟨⟨⟨⟨rfl,rfl⟩,rfl⟩,rfl⟩,⟨rfl,fun i _=>⟨rfl,fun j _=>⟨rfl,rfl⟩⟩⟩,rfl,fun i _=>⟨rfl,rfl⟩⟩
 ·have h2:2<=(clean l).length:=by omega
  have eN:sdN l (clean l).length=if l.c=true then (clean l).length else (clean l).length-1:=if_neg (Nat.lt_irrefl _)
  have hN:sdN l (clean l).length<=65536/\1<=sdN l (clean l).length:=by rw [eN]; split<;>omega
  have el:o.ln l=((o.sds (sdA o.w l) (sdN l (clean l).length)).jns (sdA o.w l) (sdN l (clean l).length-1)).ends l (sdA o.w l) (sdN l (clean l).length):=if_neg (by omega)
  have sok:∀ k,k<sdN l (clean l).length->Sid.ok (sdA o.w l k):=fun k hk=>sdA_ok hw hl h2 hk
  rw [el]
  refine ⟨⟨0,Nat.zero_le _,rfl,?_,?_⟩,fun g hg=>⟨fun hlt=>⟨by omega,by omega,fun hn=>?_,fun hn=>⟨fun hc=>?_,fun hc=>?_⟩⟩,fun hge2=>?_⟩⟩
  ·exact (if_pos (by omega)).symm
  ·intro i hi
   rw [show sdN l 0=0 from if_pos (by omega)] at hi
   exact absurd hi (Nat.not_lt_zero _)
  ·have e1:sdN l g=g:=if_pos (by omega)
   have e2:sdN l (g+1)=g+1:=if_pos (by omega)
   have eg:((g:Int)+1).toNat=g+1:=by omega
   have eM:sdA o.w l g=mkSid o.w (gP (clean l) g) (gP (clean l) (g+1)):=by rw [sdA_eq,if_pos (by omega)]
   have hen:=sd_ends hl h2 (show g<sdN l (clean l).length by rw [eN]; split<;>omega)
   rw [if_pos (by omega)] at hen
   rw [eg,e1]
   refine ⟨by omega,by omega,⟨⟨hen.1,hen.2.1⟩,?_,hw⟩,by omega,by omega,g+1,show g+1<=(clean l).length by omega,⟨by omega,e2.symm,fun i hi=>?_⟩,show (clean l).length-(g+1)<(clean l).length-g by omega⟩
   ·have:=hen.2.2
    exact Classical.byContradiction fun hh=>this ⟨Classical.byContradiction fun h=>hh (.inl h),Classical.byContradiction fun h=>hh (.inr h)⟩
   ·exact sd_app eM i (by rwa [e2] at hi)
  ·have e1:sdN l g=g:=if_pos (by omega)
   have e2:sdN l (g+1)=g+1:=by unfold sdN; rw [if_neg (by omega),if_pos hc]; omega
   have eM:sdA o.w l g=mkSid o.w (gP (clean l) g) (gP (clean l) 0):=by rw [sdA_eq,if_neg (by omega)]
   have hen:=sd_ends hl h2 (show g<sdN l (clean l).length by rw [eN,if_pos hc]; omega)
   rw [if_neg (by omega)] at hen
   rw [e1]
   refine ⟨by omega,⟨⟨hen.1,hen.2.1⟩,?_,hw⟩,by omega,by omega,g+1,show g+1<=(clean l).length by omega,⟨by omega,e2.symm,fun i hi=>?_⟩,show (clean l).length-(g+1)<(clean l).length-g by omega⟩
   ·have:=hen.2.2
    exact Classical.byContradiction fun hh=>this ⟨Classical.byContradiction fun h=>hh (.inl h),Classical.byContradiction fun h=>hh (.inr h)⟩
   ·exact sd_app eM i (by rwa [e2] at hi)
  ·have e1:sdN l g=g:=if_pos (by omega)
   have e2:sdN l (g+1)=g:=by unfold sdN; rw [if_neg (by omega),if_neg (by rw [hc]; decide)]; omega
   exact ⟨by omega,g+1,show g+1<=(clean l).length by omega,⟨by omega,by rw [e1,e2]⟩,show (clean l).length-(g+1)<(clean l).length-g by omega⟩
  ·have hg:g<=(clean l).length:=hg
   obtain rfl:g=(clean l).length:=by omega
   clear hg
   have jok:∀ i j k,i<=sdN l (clean l).length->j<sdN l (clean l).length->k<sdN l (clean l).length->JnG.ok ⟨(o.sds (sdA o.w l) (sdN l (clean l).length)).jns (sdA o.w l) i,sdA o.w l j,sdA o.w l k⟩:=fun i j k hi hj hk'=>by
    obtain ⟨⟨-,-,a4⟩,b1,b2⟩:=sds_keeps o (sdA o.w l) (sdN l (clean l).length)
    obtain ⟨⟨-,-,c4⟩,d1,d2⟩:=jns_keeps (o.sds (sdA o.w l) (sdN l (clean l).length)) (sdA o.w l) i
    exact jn_ok (by omega) (by omega) (by omega) (by omega) (sok j hj) (sok k hk')
   refine ⟨⟨0,Nat.zero_le _,⟨rfl,rfl⟩,⟨⟨⟨rfl,rfl⟩,rfl⟩,rfl⟩,⟨rfl,fun i _=>⟨rfl,fun j _=>⟨rfl,rfl⟩⟩⟩,⟨rfl,fun i _=>⟨rfl,rfl⟩⟩,rfl⟩,fun g hg=>⟨fun hlt=>?_,fun hge3=>?_⟩⟩
   ·have hlt:g<sdN l (clean l).length:=by omega
    obtain ⟨⟨hp,hq⟩,-,hnn,-⟩:=sok g hlt
    have wp:=sm_le hp (show (32767:Int)<=1073741824 by omega)
    have wq:=sm_le hq (show (32767:Int)<=1073741824 by omega)
    have wn:=sm_le hnn (show (600:Int)<=1073741824 by omega)
    obtain ⟨-,b1,b2⟩:=sds_keeps o (sdA o.w l) g
    refine ⟨by omega,hlt,⟨wp,wn⟩,⟨wq,wn⟩,⟨wq,wn⟩,⟨wp,wn⟩,⟨⟨by omega,by omega⟩,by omega⟩,by omega,g+1,show g+1<=sdN l (clean l).length by omega,⟨by omega,⟨⟨⟨rfl,rfl⟩,rfl⟩,rfl⟩,⟨rfl,fun i _=>⟨rfl,fun j _=>⟨rfl,rfl⟩⟩⟩,rfl,fun i _=>⟨rfl,rfl⟩⟩,show sdN l (clean l).length-(g+1)<sdN l (clean l).length-g by omega⟩
   ·have hg:g<=sdN l (clean l).length:=hg
    obtain rfl:g=sdN l (clean l).length:=by omega
    clear hg
    refine ⟨⟨0,Nat.zero_le _,rfl,⟨⟨⟨rfl,rfl⟩,rfl⟩,rfl⟩,⟨rfl,fun i _=>⟨rfl,fun j _=>⟨rfl,rfl⟩⟩⟩,rfl,fun i _=>⟨rfl,rfl⟩⟩,fun g hg=>⟨fun hlt=>?_,fun hge4=>⟨fun hc=>?_,fun hc=>?_⟩⟩⟩
    ·have q1:((g:Int)+1-1).toNat=g:=by omega
     have q2:((g:Int)+1).toNat=g+1:=by omega
     rw [q1,q2]
     refine ⟨by omega,by omega,by omega,by omega,by omega,jok g g (g+1) (by omega) (by omega) (by omega),by omega,g+1,show g+1<=sdN l (clean l).length-1 by omega,⟨by omega,⟨⟨⟨rfl,rfl⟩,rfl⟩,rfl⟩,⟨rfl,fun i _=>⟨rfl,fun j _=>⟨rfl,rfl⟩⟩⟩,rfl,fun i _=>⟨rfl,rfl⟩⟩,show sdN l (clean l).length-(g+1)<sdN l (clean l).length-g by omega⟩
    ·have hg:g<=sdN l (clean l).length-1:=hg
     obtain rfl:g=sdN l (clean l).length-1:=by omega
     have q1:(((sdN l (clean l).length:Nat):Int)-1).toNat=sdN l (clean l).length-1:=by omega
     rw [q1,show ∀ (x:Olr),x.ends l (sdA o.w l) (sdN l (clean l).length)=x.jn (sdA o.w l (sdN l (clean l).length-1)) (sdA o.w l 0) from fun x=>if_pos hc]
     refine ⟨by omega,by omega,by omega,by omega,by omega,jok _ _ _ (by omega) (by omega) (by omega),?_⟩
     exact ⟨⟨⟨⟨rfl,rfl⟩,rfl⟩,rfl⟩,⟨rfl,fun i _=>⟨rfl,fun j _=>⟨rfl,rfl⟩⟩⟩,rfl,fun i _=>⟨rfl,rfl⟩⟩
    ·have hg:g<=sdN l (clean l).length-1:=hg
     obtain rfl:g=sdN l (clean l).length-1:=by omega
     have q1:(((sdN l (clean l).length:Nat):Int)-1).toNat=sdN l (clean l).length-1:=by omega
     rw [q1,show ∀ (x:Olr),x.ends l (sdA o.w l) (sdN l (clean l).length)=x.cp (sdA o.w l 0) (sdA o.w l (sdN l (clean l).length-1)) from fun x=>if_neg (by rw [hc]; decide)]
     refine ⟨by omega,by omega,by omega,by omega,by omega,jok _ _ _ (by omega) (by omega) (by omega),?_⟩
     exact ⟨⟨⟨⟨rfl,rfl⟩,rfl⟩,rfl⟩,⟨rfl,fun i _=>⟨rfl,fun j _=>⟨rfl,rfl⟩⟩⟩,rfl,fun i _=>⟨rfl,rfl⟩⟩
end Go.Proofs.YtmhofgchidojoaaGreat.Stc
set_option linter.unusedSimpArgs false
set_option linter.unusedVariables false
namespace Go.Proofs.YtmhofgchidojoaaGreat.Sto
open Go.RowKit Sx Num Aff Con Fla Flg Sta Stb Stc
set_option maxRecDepth 100000
def _root_.Go.Proofs.YtmhofgchidojoaaGreat.Stb.Olr.li (o:Olr) (t:Nat):Li:=⟨o.m t,o.p t,true⟩
def _root_.Go.Proofs.YtmhofgchidojoaaGreat.Stb.Olr.lns (o:Olr):Lns:=⟨o.n,o.li⟩
def one (l:Li):Lns:=⟨1,fun _=>l⟩
def neg (o:Olr) (t:Nat):Prop:=liAr (o.li t) (o.m t)<0
instance (o t):Decidable (neg o t):=by unfold neg; infer_instance
def _root_.Go.Proofs.YtmhofgchidojoaaGreat.Stb.Olr.flip (o:Olr) (i:Nat):Olr:=⟨o.w,o.cap,o.join,o.limit,o.n,o.m,fun t j=>⟨bif decide (t<i/\neg o t) then (o.p t (o.m t-1-j)).x else (o.p t j).x,bif decide (t<i/\neg o t) then (o.p t (o.m t-1-j)).y else (o.p t j).y⟩,o.k,o.d⟩
theorem flip_li (o:Olr) {g t:Nat}(h:g<=t):(o.flip g).li t=o.li t:=by
 unfold Olr.li
 have e:(o.flip g).p t=o.p t:=funext fun j=>by
  show (⟨bif decide (t<g/\neg o t) then (o.p t (o.m t-1-j)).x else (o.p t j).x,bif decide (t<g/\neg o t) then (o.p t (o.m t-1-j)).y else (o.p t j).y⟩:Pt)=o.p t j
  rw [decide_eq_false (show ¬ (t<g/\neg o t) from fun hh=>by omega)]
  rfl
 rw [e]
 rfl
theorem win_eq (o:Olr) (g:Nat):(⟨(Int.ofNat (g+1)-Int.ofNat g).toNat,fun i=>(o.flip g).li ((Int.ofNat g).toNat+i)⟩:Lns)=⟨1,fun i=>o.li (g+i)⟩:=by
 have e:(Int.ofNat (g+1)-Int.ofNat g).toNat=1:=by simp only [Int.ofNat_eq_natCast]; omega
 rw [e]
 exact congrArg (Lns.mk 1) (funext fun i=>flip_li o (Nat.le_add_right _ _))
theorem win_neg (o:Olr) (g:Nat):(lnAr (⟨(Int.ofNat (g+1)-Int.ofNat g).toNat,fun i=>(o.flip g).li ((Int.ofNat g).toNat+i)⟩:Lns) (Int.ofNat (g+1)-Int.ofNat g).toNat<0)=neg o g:=by
 rw [win_eq]
 have e:(Int.ofNat (g+1)-Int.ofNat g).toNat=1:=by simp only [Int.ofNat_eq_natCast]; omega
 rw [e]
 show (0+liAr (o.li (g+0)) (o.li (g+0)).n<0)=(liAr (o.li g) (o.m g)<0)
 rw [Int.zero_add]
 rfl
def oriI (o:Olr):Inv:=⟨Nat,fun i=>i<=o.n,fun i=>⟨[(0,.own 0 0),(16,.int .i64 o.n),(17,.int .i64 i)],oO 0 (o.flip i)⟩,fun i=>o.n-i⟩
def oriD:List SV->List SO->Option Olr
 | [_],[.cells _ g _,.deep _ n _ _ m p _ _ _ _,.row _ k _ d _]=>some (olD g n m p k d)
 | _,_=>none
def spOri:FSpec:=mkSpecM 29 [.arg 0,.cell 0 4,.cell 0 5] (γ:=Olr) oriD (fun _=>[.own 0 0]) (fun o=>oO 0 o) (fun o=>o.lns.fin) (fun _=> .int .i64 0) (fun o=>oO 0 (o.flip o.n))
theorem ok_ori:SpecOK Tryz.prog spOri:=by
 refine spec_soundM (specs:=[lend spChkFi,lend Flg.spArea2,Ptr.spRevP]) (all_ok (⟨lend_ok ok_chkFi,lend_ok Flg.ok_area2,Ptr.ok_revP,trivial⟩)) (eqs:=[]) (fun _ _ h=>(List.not_mem_nil h).elim) Aff.mixed Tryz.func29 rfl (by kernel_rfl) (fun _ _=>by kernel_rfl) (fun g=>(⟨[(4,.inv (oriI g))],[(8,[.focus 1 3]),(1000008,[.unfocus 1])]⟩:Ann)) true (fun g=>Nat.le_of_ble_eq_true (by kernel_rfl)) ?_
 rintro o hg
 refine vc_of (B:=let K:=Int.ofNat;let A:=Sx.Ask;let z24:=(↑o.n:Int);let z20:=((0:Nat)=(0:Nat));let z19:=(true=true);let z5:=(1:Nat);let z0:=(IntKind.i64=IntKind.i64);let z13:=(A z0/\A (z24=z24));let z2:=((((((True/\A z0/\A (o.w=o.w))/\A z0/\A (o.cap=o.cap))/\A z0/\A (o.join=o.join))/\A z0/\A (o.limit=o.limit))/\True)/\True);True/\True/\True/\True/\True/\(((A (o.n=o.n)/\∀ i:Nat,i<o.n->(True/\A (o.m i=o.m i)/\∀ i_1:Nat,i_1<o.m i->(True/\A z0/\A ((o.p i i_1).x=(o.p i i_1).x))/\A z0/\A ((o.p i i_1).y=(o.p i i_1).y))/\A z19)/\True)/\A (Fla.Lns.mk o.n fun (i:Nat)=>Fla.Li.mk (o.m i) (o.p i) true).fin)/\True/\True/\True/\True/\True/\True/\True/\(∃ g:Nat,A ((oriI o).pre g)/\True/\(A z20/\z13/\(A z0/\A ((0:Int)=(↑g:Int)))/\True)/\z2/\(A (o.n=o.n)/\(∀ i:Nat,i<o.n->A (o.m i=(o.flip g).m i)/\∀ (i':Nat),i'<(o.flip g).m i->(True/\A z0/\A ((o.p i i').x=bif decide (i<g/\neg o i) then (o.p i (o.m i-z5-i')).x else (o.p i i').x))/\A z0/\A ((o.p i i').y=bif decide (i<g/\neg o i) then (o.p i (o.m i-z5-i')).y else (o.p i i').y))/\∀ i:Nat,i<o.n->True/\A z19)/\(A (o.k=o.k)/\∀ i:Nat,i<o.k->(True/\A z0/\A ((o.d i).x=((o.flip g).d i).x))/\A z0/\A ((o.d i).y=((o.flip g).d i).y))/\True)/\∀ g:Nat,let z21:=(K g);let z10:=(o.flip g);let z9:=(K (g+z5)-K g);let z4:=(↑g:Int);let z8:=(z4.toNat<g/\neg o z4.toNat);let z6:=((-9223372036854775808:Int)<=z4+(1:Int)/\z4+(1:Int)<=(9223372036854775807:Int));let z1:=(Fla.Lns.mk z9.toNat fun (i:Nat)=>let z7:=(z21.toNat+i); Fla.Li.mk (z10.m z7) (fun (i_1:Nat)=>Con.Pt.mk (bif decide (z21.toNat+i<g/\neg o z7) then (o.p z7 (o.m z7-z5-i_1)).x else (o.p z7 i_1).x) (bif decide (z21.toNat+i<g/\neg o z7) then (o.p z7 (o.m z7-z5-i_1)).y else (o.p z7 i_1).y)) true); (oriI o).pre g->True/\Sx.Br (decide (z4<z24)) (True/\True/\True/\True/\True/\True/\True/\True/\A z6/\A ((0:Int)<=K g/\K g<=K (g+z5)/\K (g+z5)<=K o.n/\K o.n<=z24)/\(((A (z9.toNat=z9.toNat)/\∀ i:Nat,let z3:=(z21.toNat+i);let z11:=(z21.toNat+i<g/\neg o z3); i<z9.toNat->(True/\A (z10.m z3=z10.m z3)/\∀ i_1:Nat,let z14:=(o.p z3 (o.m z3-z5-i_1)); i_1<z10.m z3->(True/\A z0/\A ((bif decide z11 then z14.x else (o.p z3 i_1).x)=bif decide z11 then z14.x else (o.p z3 i_1).x))/\A z0/\A ((bif decide z11 then z14.y else (o.p z3 i_1).y)=bif decide z11 then z14.y else (o.p z3 i_1).y))/\A z19)/\True)/\A z1.fin)/\True/\True/\True/\True/\True/\True/\True/\Sx.Br (decide (Flg.lnAr z1 z9.toNat<(0:Int))) (True/\True/\True/\True/\True/\A ((0:Int)<=z4/\z4<z24)/\True/\A (z4.toNat<o.n/\z4.toNat=z4.toNat)/\((True/\(True/\True)/\(A (z10.m z4.toNat=z10.m z4.toNat)/\∀ i:Nat,let z22:=(o.p z4.toNat i);let z12:=(o.p z4.toNat (o.m z4.toNat-z5-i)); i<z10.m z4.toNat->(True/\A z0/\A ((bif decide z8 then z12.x else z22.x)=bif decide z8 then z12.x else z22.x))/\A z0/\A ((bif decide z8 then z12.y else z22.y)=bif decide z8 then z12.y else z22.y))/\True)/\A (z10.m z4.toNat<=(4294967296:Nat)))/\A z6/\True/\∃ (g':Nat),A ((oriI o).pre g')/\True/\((A z20/\z13/\(A z0/\A (z4+(1:Int)=(↑g':Int)))/\True)/\z2/\(A (o.n=o.n)/\(∀ i:Nat,i<o.n->A ((bif decide (i=z4.toNat) then z10.m z4.toNat else o.m i)=(o.flip g').m i)/\∀ (i':Nat),let z16:=(o.p i (o.m i-z5-i'));let z15:=(z10.m z4.toNat-z5-i');let z23:=(o.p z4.toNat (o.m z4.toNat-z5-z15)); i'<(o.flip g').m i->(True/\A z0/\A ((bif decide (i=z4.toNat) then bif decide z8 then z23.x else (o.p z4.toNat z15).x else bif decide (i<g/\neg o i) then z16.x else (o.p i i').x)=bif decide (i<g'/\neg o i) then z16.x else (o.p i i').x))/\A z0/\A ((bif decide (i=z4.toNat) then bif decide z8 then z23.y else (o.p z4.toNat z15).y else bif decide (i<g/\neg o i) then z16.y else (o.p i i').y)=bif decide (i<g'/\neg o i) then z16.y else (o.p i i').y))/\∀ i:Nat,i<o.n->True/\A z19)/\(A (o.k=o.k)/\∀ i:Nat,i<o.k->(True/\A z0/\A ((z10.d i).x=((o.flip g').d i).x))/\A z0/\A ((z10.d i).y=((o.flip g').d i).y))/\True)/\A ((oriI o).meas g'<(oriI o).meas g)) (A z6/\True/\∃ (g':Nat),A ((oriI o).pre g')/\True/\((A z20/\z13/\(A z0/\A (z4+(1:Int)=(↑g':Int)))/\True)/\z2/\(A (o.n=o.n)/\(∀ i:Nat,i<o.n->A (z10.m i=(o.flip g').m i)/\∀ (i':Nat),let z17:=(o.p i (o.m i-z5-i')); i'<(o.flip g').m i->(True/\A z0/\A ((bif decide (i<g/\neg o i) then z17.x else (o.p i i').x)=bif decide (i<g'/\neg o i) then z17.x else (o.p i i').x))/\A z0/\A ((bif decide (i<g/\neg o i) then z17.y else (o.p i i').y)=bif decide (i<g'/\neg o i) then z17.y else (o.p i i').y))/\∀ i:Nat,i<o.n->True/\A z19)/\(A (o.k=o.k)/\∀ i:Nat,i<o.k->(True/\A z0/\A ((z10.d i).x=((o.flip g').d i).x))/\A z0/\A ((z10.d i).y=((o.flip g').d i).y))/\True)/\A ((oriI o).meas g'<(oriI o).meas g))) (True/\True/\True/\((A z0/\A ((0:Int)=(0:Int)))/\True)/\z2/\(A (o.n=o.n)/\(∀ i:Nat,i<o.n->A (z10.m i=(o.flip o.n).m i)/\∀ (i':Nat),let z18:=(o.p i (o.m i-z5-i')); i'<(o.flip o.n).m i->(True/\A z0/\A ((bif decide (i<g/\neg o i) then z18.x else (o.p i i').x)=bif decide (i<o.n/\neg o i) then z18.x else (o.p i i').x))/\A z0/\A ((bif decide (i<g/\neg o i) then z18.y else (o.p i i').y)=bif decide (i<o.n/\neg o i) then z18.y else (o.p i i').y))/\∀ i:Nat,i<o.n->True/\A z19)/\(A (o.k=o.k)/\∀ i:Nat,i<o.k->(True/\A z0/\A ((z10.d i).x=((o.flip o.n).d i).x))/\A z0/\A ((z10.d i).y=((o.flip o.n).d i).y))/\True)) (by kernel_rfl) ?_
 simp only [ask_iff,br_iff,eq_self,true_and,and_true,implies_true,forall_const,decide_eq_true_eq,decide_eq_false_iff_not,ne_eq,Nat.mul_one,Nat.add_zero,Nat.zero_add,Int.toNat_natCast,and_self,false_and,and_false]
 have hn:o.n<=1024:=hg.1
 refine ⟨hg,⟨0,Nat.zero_le _,rfl,fun i _=>⟨rfl,fun j _=>?_⟩,fun i _=>⟨rfl,rfl⟩⟩,fun g hg'=>⟨fun hlt=>⟨by omega,by simp only [Int.ofNat_eq_natCast]; omega,?_,fun hneg=>?_,fun hneg=>?_⟩,fun hge=>⟨fun i hi=>⟨rfl,fun j _=>?_⟩,fun i _=>⟨rfl,rfl⟩⟩⟩⟩
 ·rw [decide_eq_false (show ¬ (i<0/\neg o i) from fun h=>absurd h.1 (Nat.not_lt_zero _))]
  exact ⟨rfl,rfl⟩
 ·show Lns.fin ⟨(Int.ofNat (g+1)-Int.ofNat g).toNat,fun i=>(o.flip g).li ((Int.ofNat g).toNat+i)⟩
  rw [win_eq]
  refine ⟨show 1<=1024 by omega,fun i hi=>?_⟩
  have hi:i<1:=hi
  exact hg.2 (g+i) (show g+i<o.n by omega)
 ·have hneg:neg o g:=by rw [<-win_neg]; exact hneg
  have em:(o.flip g).m g=o.m g:=rfl
  have hm:o.m g<=1024:=(hg.2 g (show g<o.n by omega)).1
  rw [em]
  refine ⟨by omega,by omega,by omega,by omega,g+1,show g+1<=o.n by omega,⟨by omega,fun i hi=>⟨?_,fun j hj=>?_⟩,fun i _=>⟨rfl,rfl⟩⟩,show o.n-(g+1)<o.n-g by omega⟩
  ·show (bif decide (i=g) then o.m g else o.m i)=o.m i
   by_cases h:i=g
   ·rw [decide_eq_true h,h]; rfl
   ·rw [decide_eq_false h]; rfl
  ·by_cases h:i=g
   ·rw [decide_eq_true h,h,decide_eq_false (show ¬ (g<g/\neg o g) from fun h=>absurd h.1 (Nat.lt_irrefl _)),decide_eq_true (show g<g+1/\neg o g from ⟨Nat.lt_succ_self _,hneg⟩)]
    exact ⟨rfl,rfl⟩
   ·rw [decide_eq_false h,decide_eq_decide.2 (show (i<g+1/\neg o i)<->(i<g/\neg o i) from ⟨fun hh=>⟨by omega,hh.2⟩,fun hh=>⟨by omega,hh.2⟩⟩)]
    exact ⟨rfl,rfl⟩
 ·have hneg:¬ neg o g:=by rw [<-win_neg]; exact hneg
  refine ⟨by omega,g+1,show g+1<=o.n by omega,⟨by omega,fun i hi=>⟨rfl,fun j hj=>?_⟩,fun i _=>⟨rfl,rfl⟩⟩,show o.n-(g+1)<o.n-g by omega⟩
  rw [decide_eq_decide.2 (show (i<g+1/\neg o i)<->(i<g/\neg o i) from ⟨fun hh=>⟨Classical.byContradiction fun hc=>hneg (by rw [show g=i by omega]; exact hh.2),hh.2⟩,fun hh=>⟨by omega,hh.2⟩⟩)]
  exact ⟨rfl,rfl⟩
 ·have hg':g<=o.n:=hg'
  rw [show g=o.n by omega]
  exact ⟨rfl,rfl⟩
structure Sty where
 w:Int
 cap:Int
 join:Int
 limit:Int
def styL (s:Sty):List SV:=[.int .i64 s.w,.int .i64 s.cap,.int .i64 s.join,.int .i64 s.limit]
def styS (s:Sty):SV:= .agg 4 (lst (styL s))
def styD (g:Nat->SV):Sty:=⟨Sx.intOf (g 0),Sx.intOf (g 1),Sx.intOf (g 2),Sx.intOf (g 3)⟩
def Sty.ok (s:Sty):Prop:=((1<=s.w/\s.w<=1024)/\(0<=s.cap/\s.cap<=2))/\(0<=s.join/\s.join<=2)/\16<=s.limit/\s.limit<=1024
def spCkS:FSpec:=mkSpec 27 (γ:=Sty) (fun | [.agg _ g]=>some (styD g) | _=>none) (fun s=>[styS s]) Sty.ok (fun _=> .int .i64 0)
theorem ok_ckS:SpecOK Tryz.prog spCkS:=by
 refine spec_sound (specs:=[]) (all_ok trivial) (eqs:=[]) (fun _ _ h=>(List.not_mem_nil h).elim) Aff.mixed Tryz.func27 rfl (by kernel_rfl) (fun _ _=>by kernel_rfl) (fun g=>A0) (fun g=>Nat.le_of_ble_eq_true (by kernel_rfl)) ?_
 rintro s hs
 refine vc_of (B:=let K:=Sx.Br;let A:=Sx.Ask;let z2:=((1:Int)=(0:Int));let z0:=(IntKind.i64=IntKind.i64);let z3:=(True/\True/\A z0/\A ((3:Int)=(0:Int)));let z1:=(True/\True/\True/\A z0/\A ((3:Int)=(0:Int)));True/\True/\True/\True/\True/\True/\K (decide (s.w<(1:Int))) z1 (True/\True/\True/\True/\K (decide ((1024:Int)<s.w)) z3 (True/\True/\True/\True/\K (decide (s.cap<(0:Int))) (True/\True/\True/\True/\True/\True/\True/\A z0/\A z2) (True/\True/\True/\True/\True/\K (decide ((2:Int)<s.cap)) (True/\True/\True/\True/\True/\A z0/\A z2) (True/\True/\True/\True/\True/\K (decide (s.join<(0:Int))) (True/\True/\True/\A z0/\A z2) (True/\True/\True/\True/\K (decide ((2:Int)<s.join)) (True/\True/\A z0/\A z2) (True/\True/\True/\True/\K (decide (s.limit<(16:Int))) z1 (True/\True/\True/\True/\K (decide ((1024:Int)<s.limit)) z3 (True/\True/\A z0/\A ((0:Int)=(0:Int))))))))))) (by kernel_rfl) ?_
 simp only [ask_iff,br_iff,eq_self,true_and,and_true,implies_true,forall_const,decide_eq_true_eq,decide_eq_false_iff_not,ne_eq,Nat.mul_one,Nat.add_zero,Nat.zero_add,Int.toNat_natCast,and_self,false_and,and_false]
 obtain ⟨⟨⟨a1,a2⟩,a3,a4⟩,⟨a5,a6⟩,a7,a8⟩:=hs
 omega
structure StrG where
 g:Lns
 s:Sty
def StrG.ok (h:StrG):Prop:=h.g.fin/\h.s.ok
def spCk:FSpec:=mkSpec 13 (γ:=StrG) (fun | [s,.agg _ g]=>some ⟨⟨slLen s,lnsD s⟩,styD g⟩ | _=>none) (fun h=>[lnsS h.g,styS h.s]) StrG.ok (fun _=> .int .i64 0)
theorem ok_ck:SpecOK Tryz.prog spCk:=by
 refine spec_sound (specs:=[spCkS,spChkFi]) (all_ok (⟨ok_ckS,ok_chkFi,trivial⟩)) (eqs:=[]) (fun _ _ h=>(List.not_mem_nil h).elim) Aff.mixed Tryz.func13 rfl (by kernel_rfl) (fun _ _=>by kernel_rfl) (fun g=>A0) (fun g=>Nat.le_of_ble_eq_true (by kernel_rfl)) ?_
 rintro ⟨g,s⟩ hs
 refine vc_of (B:=let A:=Sx.Ask;let z0:=(IntKind.i64=IntKind.i64);True/\True/\True/\((((((True/\A z0/\A (s.w=s.w))/\A z0/\A (s.cap=s.cap))/\A z0/\A (s.join=s.join))/\A z0/\A (s.limit=s.limit))/\True)/\A s.ok)/\True/\True/\True/\True/\(((A (g.n=g.n)/\∀ i:Nat,i<g.n->(True/\A ((g.f i).n=(g.f i).n)/\∀ i_1:Nat,let z1:=((g.f i).f i_1); i_1<(g.f i).n->(True/\A z0/\A (z1.x=z1.x))/\A z0/\A (z1.y=z1.y))/\A ((g.f i).c=(g.f i).c))/\True)/\A g.fin)/\True/\True/\A z0/\A ((0:Int)=(0:Int))) (by kernel_rfl) ?_
 simp only [ask_iff,br_iff,eq_self,true_and,and_true,implies_true,forall_const,decide_eq_true_eq,decide_eq_false_iff_not,ne_eq,Nat.mul_one,Nat.add_zero,Nat.zero_add,Int.toNat_natCast,and_self,false_and,and_false]
 exact ⟨hs.2,hs.1⟩
def o0 (s:Sty):Olr:=⟨s.w,s.cap,s.join,s.limit,0,fun _=>0,fun _ _=>⟨0,0⟩,0,fun _=>⟨0,0⟩⟩
noncomputable def lnO (s:Sty) (l:Li):Olr:=(o0 s).ln l
noncomputable def outO (s:Sty) (l:Li):Olr:=(lnO s l).flip (lnO s l).n
structure OuG where
 l:Li
 s:Sty
def OuG.ok (g:OuG):Prop:=(Li.in g.l/\g.s.ok)/\(lnO g.s g.l).lns.fin
def partsS (o:Olr):SV:= .sl o.n 2 (fun i=>lst [.sl (o.m i) 2 (fun j=>lst (ptL (o.p i j))),.lit true])
def discsS (o:Olr):SV:= .sl o.k 2 (fun i=>lst (ptL (o.d i)))
def olS (o:Olr):SV:= .ref 6 (lst [.int .i64 o.w,.int .i64 o.cap,.int .i64 o.join,.int .i64 o.limit,partsS o,discsS o])
noncomputable def spOutl:FSpec:=mkSpec 14 (γ:=OuG) (fun | [.agg _ l,.agg _ g]=>some ⟨liD l,styD g⟩ | _=>none) (fun g=>[liS g.l,styS g.s]) OuG.ok (fun g=> .tup 2 (lst [olS (outO g.s g.l),.int .i64 0]))
theorem ok_outl:SpecOK Tryz.prog spOutl:=by
 refine spec_sound (specs:=[spLn,spOri]) (all_ok (⟨ok_ln,ok_ori,trivial⟩)) (eqs:=[]) (fun _ _ h=>(List.not_mem_nil h).elim) Aff.mixed Tryz.func14 rfl (by kernel_rfl) (fun _ _=>by kernel_rfl) (fun g=>(⟨[],[(2,[.ownC 2 4 31 2,.ownC 2 5 28 2,.deepen 3 2 28])]⟩:Ann)) (fun g=>Nat.le_of_ble_eq_true (by kernel_rfl)) ?_
 rintro ⟨l,s⟩ hg
 refine vc_of (B:=let A:=Sx.Ask;let z5:=(Sx.intOf Sx.SV.any);let z4:=(0:Nat);let z3:=(lnO s l);let z2:=(Stb.Olr.mk s.w s.cap s.join s.limit z4 (fun (x:Nat)=>z4) (fun (i j:Nat)=>Con.Pt.mk z5 z5) z4 fun (i:Nat)=>Con.Pt.mk z5 z5);let z1:=(IntKind.i64=IntKind.i64);let z0:=(z2.ln l);True/\True/\True/\True/\True/\True/\True/\True/\True/\True/\((True/\(A (z4=z4)/\((True/\A (l.n=l.n)/\∀ i:Nat,i<l.n->(True/\A z1/\A ((l.f i).x=(l.f i).x))/\A z1/\A ((l.f i).y=(l.f i).y))/\A (l.c=l.c))/\True)/\((((((True/\A z1/\A (s.w=s.w))/\A z1/\A (s.cap=s.cap))/\A z1/\A (s.join=s.join))/\A z1/\A (s.limit=s.limit))/\True)/\True)/\(A (z4=z4)/\(∀ i:Nat,i<z4->A (z4=z4)/\∀ (i':Nat),i'<z4->(True/\False)/\False)/\∀ i:Nat,i<z4->True/\False)/\(A (z4=z4)/\∀ i:Nat,i<z4->(True/\False)/\False)/\True)/\A (Stc.LnG.mk z2 l).ok)/\True/\True/\((True/\(A (z4=z4)/\True)/\((((((True/\A z1/\A (z0.w=z0.w))/\A z1/\A (z0.cap=z0.cap))/\A z1/\A (z0.join=z0.join))/\A z1/\A (z0.limit=z0.limit))/\True)/\True)/\(A (z0.n=z0.n)/\(∀ i:Nat,i<z0.n->A (z0.m i=z0.m i)/\∀ (i':Nat),i'<z0.m i->(True/\A z1/\A ((z0.p i i').x=(z0.p i i').x))/\A z1/\A ((z0.p i i').y=(z0.p i i').y))/\∀ i:Nat,i<z0.n->True/\A (true=true))/\(A (z0.k=z0.k)/\∀ i:Nat,i<z0.k->(True/\A z1/\A ((z0.d i).x=(z0.d i).x))/\A z1/\A ((z0.d i).y=(z0.d i).y))/\True)/\A z0.lns.fin)/\True/\True/\True/\(True/\(((((True/\A z1/\A (z0.w=z3.w))/\A z1/\A (z0.cap=z3.cap))/\A z1/\A (z0.join=z3.join))/\A z1/\A (z0.limit=z3.limit))/\A (z0.n=z3.n)/\∀ i:Nat,i<z3.n->(True/\A ((z0.flip z0.n).m i=(outO s l).m i)/\∀ i_1:Nat,i_1<(outO s l).m i->(True/\A z1/\A ((bif decide (i<z0.n/\neg z0 i) then (z0.p i (z0.m i-(1:Nat)-i_1)).x else (z0.p i i_1).x)=bif decide (i<z3.n/\neg z3 i) then (z3.p i (z3.m i-(1:Nat)-i_1)).x else (z3.p i i_1).x))/\A z1/\A ((bif decide (i<z0.n/\neg z0 i) then (z0.p i (z0.m i-(1:Nat)-i_1)).y else (z0.p i i_1).y)=bif decide (i<z3.n/\neg z3 i) then (z3.p i (z3.m i-(1:Nat)-i_1)).y else (z3.p i i_1).y))/\A (true=true))/\A (z0.k=z3.k)/\∀ i:Nat,i<z3.k->(True/\A z1/\A ((z0.d i).x=((outO s l).d i).x))/\A z1/\A ((z0.d i).y=((outO s l).d i).y))/\A z1/\A ((0:Int)=(0:Int))) (by kernel_rfl) ?_
 simp only [ask_iff,br_iff,eq_self,true_and,and_true,implies_true,forall_const,decide_eq_true_eq,decide_eq_false_iff_not,ne_eq,Nat.mul_one,Nat.add_zero,Nat.zero_add,Int.toNat_natCast,and_self,false_and,and_false]
 obtain ⟨⟨hl,⟨⟨a1,a2⟩,a3,a4⟩,⟨a5,a6⟩,a7,a8⟩,hf⟩:=hg
 simp only at a1 a2 a7 a8
 refine ⟨⟨⟨⟨fun i hi=>absurd hi (Nat.not_lt_zero _),fun i hi=>absurd hi (Nat.not_lt_zero _)⟩,fun i hi=>absurd hi (Nat.not_lt_zero _)⟩,⟨⟨⟨Nat.zero_le _,Nat.zero_le _⟩,⟨a1,a2⟩,show 0<=s.limit by omega,a8⟩,hl⟩⟩,hf,⟨⟨⟨⟨⟨rfl,rfl⟩,rfl⟩,rfl⟩,rfl,fun i _=>⟨rfl,fun j _=>⟨rfl,rfl⟩⟩⟩,rfl,fun i _=>⟨rfl,rfl⟩⟩⟩
end Go.Proofs.YtmhofgchidojoaaGreat.Sto
set_option linter.unusedSimpArgs false
set_option linter.unusedVariables false
namespace Go.Proofs.YtmhofgchidojoaaGreat.Rgg
open Go.RowKit Sx Num Aff Con Rga Rgl Rgm Rgn Rgb Rgc Rgf
set_option maxRecDepth 100000
def spCloneR:FSpec:=mkSpecN 34 (γ:=Rg) (fun | [s]=>some ⟨slLen s,rgD s⟩ | _=>none) (fun g=>[rgS g]) (fun g=>0<g.n/\g.n<=4294967296) (fun _=> .osl 0 0) (fun g=>rowS 0 g.n g.f)
theorem ok_cloneR:SpecOK Tryz.prog spCloneR:=by
 refine spec_soundN (specs:=[]) (all_ok trivial) (eqs:=[]) (fun _ _ h=>(List.not_mem_nil h).elim) Aff.mixed Tryz.func34 rfl (by kernel_rfl) (fun _ _=>by kernel_rfl) (fun g=>(⟨[],[(1,[.nilc 0])]⟩:Ann)) (fun _=>0) (fun g=>Nat.le_of_ble_eq_true (by kernel_rfl)) ?_
 rintro g ⟨h0,hn⟩
 refine vc_of (B:=let A:=Sx.Ask;let z0:=(IntKind.i64=IntKind.i64);True/\(g.n=(0:Nat)->True/\True/\True/\True/\False)/\True/\True/\True/\True/\A ((0:Nat)+g.n<=(9223372036854775807:Nat)/\((0:Nat)+g.n)*(24:Nat)<=(140737488355328:Nat))/\True/\True/\(True/\True)/\(A ((0:Nat)+g.n=g.n)/\∀ i:Nat,let z1:=(g.f (i-(0:Nat))); i<g.n->((True/\A z0/\A (z1.y=(g.f i).y))/\A z0/\A (z1.x0=(g.f i).x0))/\A z0/\A (z1.x1=(g.f i).x1))/\True) (by kernel_rfl) ?_
 simp only [ask_iff,br_iff,eq_self,true_and,and_true,implies_true,forall_const,decide_eq_true_eq,decide_eq_false_iff_not,ne_eq,Nat.mul_one,Nat.add_zero,Nat.zero_add]
 refine ⟨fun h=>by omega,by omega,fun i _=>?_⟩
 rw [Nat.sub_zero]
 exact ⟨⟨rfl,rfl⟩,rfl⟩
def em (f:Nat->Rn):SV:= .sl 0 3 (fun i=>lst (rnL (f i)))
def spClone0:FSpec:=mkSpec 34 (γ:=Nat->Rn) (fun | [s]=>some (rgD s) | _=>none) (fun f=>[em f]) (fun _=>True) (fun f=>em f)
theorem ok_clone0:SpecOK Tryz.prog spClone0:=by
 refine spec_sound (specs:=[]) (all_ok trivial) (eqs:=[]) (fun _ _ h=>(List.not_mem_nil h).elim) Aff.mixed Tryz.func34 rfl (by kernel_rfl) (fun _ _=>by kernel_rfl) (fun g=>(⟨[],[(1,[.nilc 0])]⟩:Ann)) (fun g=>Nat.le_of_ble_eq_true (by kernel_rfl)) ?_
 rintro g hg
 refine vc_of (B:=let A:=Sx.Ask;let z1:=(IntKind.i64=IntKind.i64);let z0:=(0:Nat);True/\(z0=z0->True/\True/\True/\True/\A (z0=z0))/\True/\True/\True/\True/\A (z0+z0<=(9223372036854775807:Nat)/\(z0+z0)*(24:Nat)<=(140737488355328:Nat))/\True/\True/\A (z0+z0=z0)/\∀ i:Nat,i<z0->((True/\A z1/\A ((g (i-z0)).y=(g i).y))/\A z1/\A ((g (i-z0)).x0=(g i).x0))/\A z1/\A ((g (i-z0)).x1=(g i).x1)) (by kernel_rfl) ?_
 simp only [ask_iff,br_iff,eq_self,true_and,and_true,implies_true,forall_const,decide_eq_true_eq,decide_eq_false_iff_not,ne_eq,Nat.mul_one,Nat.add_zero,Nat.zero_add]
 exact ⟨by decide,fun i hi=>absurd hi (Nat.not_lt_zero _)⟩
def spSort0:FSpec:=mkSpec 35 (γ:=Nat->Rn) (fun | [s,.fn _ _ _]=>some (rgD s) | _=>none) (fun f=>[em f,.fn 36 0 (lst [])]) (fun _=>True) (fun _=> .tup 0 (lst []))
theorem ok_sort0:SpecOK Tryz.prog spSort0:=by
 refine specOK_of (enters_of Tryz.func35 (by kernel_rfl) rfl) (fun f _ vals w X hsz hr hX=>?_)
 have h0:=hr 0 (by show 0<2; decide)
 have h1:=hr 1 (by show 1<2; decide)
 obtain ⟨v0,v1,rfl⟩:∃ v0 v1,vals = #[v0,v1]:=by
  have hs:vals.size=2:=hsz
  exact ⟨vals[0],vals[1],by
   apply Array.ext
   ·exact hs
   ·intro i hi1 hi2
    have:i=0\/i=1:=by omega
    rcases this with rfl | rfl<;>rfl⟩
 have h0:R w X E0 (em f) v0:=h0
 have h1:R w X E0 (.fn 36 0 (lst [])) v1:=h1
 have hv1:v1 = .func (.func 36) #[] #[]:=by
  cases h1 with
  | fn hs hr=>rw [Array.size_eq_zero_iff.1 hs]
 subst hv1
 obtain ⟨a,cap,rfl⟩:∃ a cap,v0 = .slice a 0 cap:=by
  unfold em at h0
  cases h0 with
  | sl0=>exact ⟨_,_,rfl⟩
  | sl=>exact ⟨_,_,rfl⟩
 refine (AnyF.slices_SortFunc_none Tryz.sortrun a cap (.func (.func 36) #[] #[]) w).mono ?_
 rintro e w' ⟨rfl,rfl⟩
 exact ⟨_,rfl,.tup rfl (fun i hi=>absurd hi (Nat.not_lt_zero _)),Below.refl _ _⟩
def joOk (g:Rg):Prop:=(∀ i,i<g.n->okR (g.f i))/\g.n<=100000000
noncomputable def joOut (g:Rg):List Rn:=ofSet (mem g.L)
structure JoG where
 i:Nat
 L:List Rn
def joInv (g:Rg):Inv:=⟨JoG,fun s=>JoP (rI (srt g)) g.n s.i s.L,fun s=>⟨[(3,.own 1 0),(10,.osl 0 0),(11,.int .i64 g.n),(12,.int .i64 s.i)],
  [rowS 0 g.n (rI (srt g)),.cells 1 (lst [.osl 2 0]) 82,.row 0 s.L.length 3 (fun i=>lst (rnL (rI s.L i))) 77]⟩,fun s=>g.n-s.i⟩
noncomputable def spJoin1:FSpec:=mkSpec 17 (γ:=Rg) (fun | [s]=>some ⟨slLen s,rgD s⟩ | _=>none) (fun g=>[rgS g]) (fun g=>0<g.n/\joOk g) (fun g=>runsS (joOut g))
theorem ok_join1:SpecOK Tryz.prog spJoin1:=by
 refine spec_sound (specs:=[spCloneR,spSort,spAddR]) (all_ok (⟨ok_cloneR,ok_sort,ok_addR,trivial⟩)) (eqs:=[]) (fun _ _ h=>(List.not_mem_nil h).elim) Aff.mixed Tryz.func17 rfl (by kernel_rfl) (fun _ _=>by kernel_rfl) (fun g=>(⟨[(5,.inv (joInv g))],[(4,[.ownC 1 0 77 3])]⟩:Ann)) (fun g=>Nat.le_of_ble_eq_true (by kernel_rfl)) ?_
 rintro g hg
 refine vc_of (B:=let A:=Sx.Ask;let z9:=((0:Nat)=(0:Nat));let z0:=(IntKind.i64=IntKind.i64);let z8:=(A z0/\A ((↑g.n:Int)=(↑g.n:Int)));let z3:=(A (g.n=g.n)/\∀ i:Nat,i<g.n->((True/\A z0/\A ((g.f i).y=(g.f i).y))/\A z0/\A ((g.f i).x0=(g.f i).x0))/\A z0/\A ((g.f i).x1=(g.f i).x1));let z2:=(A (g.n=g.n)/\∀ i:Nat,let z5:=(Rga.rI (Rgf.srt g) i); i<g.n->((True/\A z0/\A (z5.y=z5.y))/\A z0/\A (z5.x0=z5.x0))/\A z0/\A (z5.x1=z5.x1));True/\True/\((z3/\True)/\A ((0:Nat)<g.n/\g.n<=(4294967296:Nat)))/\True/\True/\((True/\(True/\(A ((36:Nat)=(36:Go.FuncId))/\True)/\True)/\z3/\True)/\A ((∀ i:Nat,i<g.n->Rga.okR (g.f i))/\g.n<=(4294967296:Nat)))/\True/\True/\True/\True/\(∃ g_1:JoG,A ((joInv g).pre g_1)/\(A z9/\True/\z8/\(A z0/\A ((0:Int)=(↑g_1.i:Int)))/\True)/\z2/\(True/\True)/\(A ((0:Nat)=g_1.L.length)/\∀ i:Nat,i<g_1.L.length->((True/\False)/\False)/\False)/\True)/\∀ g_1:JoG,let z6:=(↑g_1.i:Int);let z1:=(Rga.rI (Rgf.srt g) z6.toNat);let z4:=(Rga.AdG.mk g_1.L.length (Rga.rI g_1.L) z1); (joInv g).pre g_1->True/\Sx.Br (decide (z6<(↑g.n:Int))) (A ((0:Int)<=z6/\z6<(↑g.n:Int))/\A (z6.toNat<g.n)/\True/\True/\True/\True/\True/\True/\True/\True/\((True/\(A z9/\(A z0/\A (z1.y=z1.y))/\(A z0/\A (z1.x0=z1.x0))/\(A z0/\A (z1.x1=z1.x1))/\True)/\(True/\True)/\(A (g_1.L.length=g_1.L.length)/\∀ i:Nat,let z7:=(Rga.rI g_1.L i); i<g_1.L.length->((True/\A z0/\A (z7.y=z7.y))/\A z0/\A (z7.x0=z7.x0))/\A z0/\A (z7.x1=z7.x1))/\True)/\A (g_1.L.length<=(4294967296:Nat)))/\A ((-9223372036854775808:Int)<=z6+(1:Int)/\z6+(1:Int)<=(9223372036854775807:Int))/\True/\∃ (g':JoG),A ((joInv g).pre g')/\((A z9/\True/\z8/\(A z0/\A (z6+(1:Int)=(↑g'.i:Int)))/\True)/\z2/\(True/\True)/\(A (z4.L.length=g'.L.length)/\∀ i:Nat,i<g'.L.length->((True/\A z0/\A ((Rga.rI z4.L i).y=(Rga.rI g'.L i).y))/\A z0/\A ((Rga.rI z4.L i).x0=(Rga.rI g'.L i).x0))/\A z0/\A ((Rga.rI z4.L i).x1=(Rga.rI g'.L i).x1))/\True)/\A ((joInv g).meas g'<(joInv g).meas g_1)) (True/\True/\True/\True/\A (g_1.L.length=(joOut g).length)/\∀ i:Nat,let z10:=(Rga.rI (joOut g) i); i<(joOut g).length->((True/\A z0/\A ((Rga.rI g_1.L i).y=z10.y))/\A z0/\A ((Rga.rI g_1.L i).x0=z10.x0))/\A z0/\A ((Rga.rI g_1.L i).x1=z10.x1))) (by kernel_rfl) ?_
 simp only [ask_iff,br_iff,eq_self,true_and,and_true,implies_true,forall_const,decide_eq_true_eq,decide_eq_false_iff_not,ne_eq,Nat.mul_one,Nat.add_zero,Nat.zero_add]
 obtain ⟨h0,hok,hn⟩:=hg
 have hmem:∀ k,k<g.n->rI (srt g) k∈srt g:=fun k hk=>by
  unfold rI
  rw [List.getD_eq_getElem?_getD,List.getElem?_eq_getElem (by rw [srt_len]; exact hk)]
  exact List.getElem_mem _
 have oks:∀ k,k<g.n->okR (rI (srt g) k):=fun k hk=>by
  obtain ⟨j,hj,e⟩:=List.mem_map.1 ((srt_perm g).mem_iff.1 (hmem k hk))
  rw [<-e]
  exact hok j (List.mem_range.1 hj)
 have srt':∀ j k,j<k->k<g.n->le0 (rI (srt g) j) (rI (srt g) k):=fun j k hjk hk=>by
  have h:=srt_sorted g hjk hk
  rw [lt_iff'] at h
  obtain ⟨⟨⟨a1,a2⟩,⟨a3,a4⟩,_⟩,_⟩:=oks j (by omega)
  obtain ⟨⟨⟨b1,b2⟩,⟨b3,b4⟩,_⟩,_⟩:=oks k hk
  rw [cl_ok a1 (by omega),cl_ok a3 a4,cl_ok b1 (by omega),cl_ok b3 b4] at h
  unfold le0
  omega
 refine ⟨⟨h0,by omega⟩,⟨hok,by omega⟩,⟨⟨0,[]⟩,jo_start _ _,rfl,rfl,fun k hk=>absurd hk (Nat.not_lt_zero _)⟩,fun s P=>⟨fun hlt=>?_,fun hge=>?_⟩⟩
 ·have P:JoP (rI (srt g)) g.n s.i s.L:=P
  have hlt:s.i<g.n:=by omega
  have hl:=bnd P.hL
  have z:((s.i:Int)).toNat=s.i:=rfl
  rw [z,addL]
  refine ⟨by omega,hlt,hl,by omega,⟨s.i+1,addR s.L (rI (srt g) s.i)⟩,jo_step oks srt' P hlt,⟨rfl,rfl,fun k _=>⟨⟨rfl,rfl⟩,rfl⟩⟩,?_⟩
  show g.n-(s.i+1)<g.n-s.i
  omega
 ·have P:JoP (rI (srt g)) g.n s.i s.L:=P
  have hi:=P.hi
  have e:s.i=g.n:=by omega
  have hm:=P.hm
  rw [e] at hm
  have es:Lf (rI (srt g)) g.n=srt g:=by rw [<-srt_len g]; exact Lf_rI _
  have eo:joOut g=s.L:=ofSet_eq P.hL (fun y x=>by rw [hm,es]; exact mem_congr (fun r=>(srt_perm g).mem_iff) y x)
  rw [eo]
  exact ⟨rfl,fun k _=>⟨⟨rfl,rfl⟩,rfl⟩⟩
def spJoin0:FSpec:=mkSpec 17 (γ:=Nat->Rn) (fun | [s]=>some (rgD s) | _=>none) (fun f=>[em f]) (fun _=>True) (fun _=>em (fun _=>⟨0,0,0⟩))
theorem ok_join0:SpecOK Tryz.prog spJoin0:=by
 refine spec_sound (specs:=[spClone0,spSort0]) (all_ok (⟨ok_clone0,ok_sort0,trivial⟩)) (eqs:=[]) (fun _ _ h=>(List.not_mem_nil h).elim) Aff.mixed Tryz.func17 rfl (by kernel_rfl) (fun _ _=>by kernel_rfl) (fun g=>(⟨[(5,.rounds 1)],[(4,[.ownC 0 0 77 3])]⟩:Ann)) (fun g=>Nat.le_of_ble_eq_true (by kernel_rfl)) ?_
 rintro g hg
 refine vc_of (B:=let A:=Sx.Ask;let z1:=(IntKind.i64=IntKind.i64);let z0:=(A ((0:Nat)=(0:Nat))/\∀ i:Nat,i<(0:Nat)->((True/\A z1/\A ((g i).y=(g i).y))/\A z1/\A ((g i).x0=(g i).x0))/\A z1/\A ((g i).x1=(g i).x1));True/\True/\((z0/\True)/\A True)/\True/\True/\((z0/\(A ((36:Nat)=(36:Go.FuncId))/\True)/\True)/\A True)/\True/\True/\True/\True/\True/\True/\True/\True/\True/\A ((0:Nat)=(0:Nat))/\∀ i:Nat,i<(0:Nat)->((True/\False)/\False)/\False) (by kernel_rfl) ?_
 simp only [ask_iff,br_iff,eq_self,true_and,and_true,implies_true,forall_const,decide_eq_true_eq,decide_eq_false_iff_not,ne_eq,Nat.mul_one,Nat.add_zero,Nat.zero_add]
 exact fun i hi=>absurd hi (Nat.not_lt_zero _)
theorem spec_case {P:Program}{f:FuncId}{γ γ0:Type}{dec:List SV->Option γ}{args:γ->List SV}{pre pre1:γ->Prop}{res:γ->SV}{dec0:List SV->Option γ0}{args0:γ0->List SV}{pre0:γ0->Prop}{res0:γ0->SV}
  (h1:SpecOK P (mkSpec f dec args pre1 res)) (h0:SpecOK P (mkSpec f dec0 args0 pre0 res0))
  (hc:∀ g,pre g->pre1 g\/∃ g0,dec0 (args0 g0)=some g0/\noOwns (args0 g0)/\(args0 g0).all (isPure 6)=true/\pre0 g0/\args g=args0 g0/\res g=res0 g0):SpecOK P (mkSpec f dec args pre res):=by
 refine ⟨h1.1,fun args H HF nm y _ _ h=>h,fun l H nm y hrun hp w0 X0 E w hrep hf vals ha=>?_⟩
 simp only [mkSpec] at hrun
 split at hrun
 case h_2=>cases hrun
 rename_i hpu
 split at hrun
 case h_2=>cases hrun
 rename_i g hdec
 cases hrun
 obtain ⟨hle,⟨hpre⟩⟩:=hp
 rcases hc g hpre with h | ⟨g0,e1,e2,e3,e4,e5,e6⟩
 ·refine h1.2.2 l H nm ⟨mkSpec.leArgs l (args g)/\Sx.Ask (pre1 g),res g,.keep⟩ ?_ ⟨hle,⟨h⟩⟩ w0 X0 E w hrep hf vals ha
  simp only [mkSpec,hpu,hdec]
 ·obtain ⟨hll,hle⟩:=leArgs_get hle
  have hr:=args_pure ha hpu
  have hsz:=ha.1
  have h:=h0.2.2 (args0 g0) H nm ⟨mkSpec.leArgs (args0 g0) (args0 g0)/\Sx.Ask (pre0 g0),res0 g0,.keep⟩ (by simp only [mkSpec,e3,e1]) ⟨leArgs_refl e2,⟨e4⟩⟩ w0 X0 E w hrep hf vals
   ⟨by rw [<-e5]; omega,fun i hi=>by
    rw [<-e5] at hi ⊢
    exact up (pureR (fun _ hb=>hb) (hle i hi) (hr i (by omega)))⟩
  rw [e6]
  exact h
theorem ofSet_nil (f:Nat->Rn):joOut ⟨0,f⟩=[]:=ofSet_eq vld_nil (fun _ _=>rfl)
noncomputable def spJoin:FSpec:=mkSpec 17 (γ:=Rg) (fun | [s]=>some ⟨slLen s,rgD s⟩ | _=>none) (fun g=>[rgS g]) joOk (fun g=>runsS (joOut g))
theorem ok_join:SpecOK Tryz.prog spJoin:=by
 refine spec_case ok_join1 ok_join0 (fun g hg=>?_)
 rcases Nat.eq_zero_or_pos g.n with h | h
 ·obtain ⟨n,f⟩:=g
  have h:n=0:=h
  subst h
  exact .inr ⟨f,rfl,⟨fun i j=>noOwn_lst (l:=rnL (f i)) ⟨trivial,trivial,trivial,trivial⟩ j,trivial⟩,rfl,trivial,rfl,by rw [ofSet_nil]; rfl⟩
 ·exact .inl ⟨h,hg⟩
end Go.Proofs.YtmhofgchidojoaaGreat.Rgg
set_option linter.unusedSimpArgs false
set_option linter.unusedVariables false
namespace Go.Proofs.YtmhofgchidojoaaGreat.Ste
open Go.RowKit Sx Num Aff Con Rga Fla Flf Sta Stb Stc Sto
set_option maxRecDepth 100000
def dH (w:Int):Int:=w.tdiv 2+1
def dY0 (c:Pt) (w:Int):Int:=if (-8192:Int)>c.y-dH w then -8192 else c.y-dH w
def dY1 (c:Pt) (w:Int):Int:=if (8191:Int)<c.y+dH w then 8191 else c.y+dH w
def dRest (c:Pt) (w y:Int):Int:=w*w-(2*y+1-2*c.y)*(2*y+1-2*c.y)
def dK (c:Pt) (w y:Int):Int:=((isq (dRest c w y).toNat:Int)+1).tdiv 2
def dX0 (c:Pt) (w y:Int):Int:=if (-8192:Int)>c.x-dK c w y then -8192 else c.x-dK c w y
def dX1 (c:Pt) (w y:Int):Int:=if (8192:Int)<c.x+dK c w y then 8192 else c.x+dK c w y
def dRow (c:Pt) (w y:Int):List Rn:=if dRest c w y<1 then [] else if dX0 c w y<dX1 c w y then [⟨y,dX0 c w y,dX1 c w y⟩] else []
def dsk (c:Pt) (w:Int):Nat->List Rn
 | 0=>[]
 | i+1=>dsk c w i++dRow c w (dY0 c w+i)
def dN (c:Pt) (w:Int):Nat:=(dY1 c w+1-dY0 c w).toNat
theorem rI_add (L M:List Rn) (i:Nat):rI (L++M) i=if i<L.length then rI L i else rI M (i-L.length):=by
 unfold rI
 rw [List.getD_eq_getElem?_getD,List.getElem?_append]
 split
 ·rw [List.getD_eq_getElem?_getD]
 ·rw [List.getD_eq_getElem?_getD]
theorem rApp (L:List Rn) (r:Rn):∀ i,i<(L++[r]).length->((bif decide (i<L.length) then (rI L i).y else r.y)=(rI (L++[r]) i).y/\(bif decide (i<L.length) then (rI L i).x0 else r.x0)=(rI (L++[r]) i).x0)/\(bif decide (i<L.length) then (rI L i).x1 else r.x1)=(rI (L++[r]) i).x1:=fun i hi=>by
 rw [List.length_append] at hi
 have hi:i<L.length+1:=hi
 rw [rI_app L r i hi]
 by_cases h:i<L.length
 ·rw [decide_eq_true h,if_pos h]; exact ⟨⟨rfl,rfl⟩,rfl⟩
 ·rw [decide_eq_false h,if_neg h]; exact ⟨⟨rfl,rfl⟩,rfl⟩
theorem rSame {L M:List Rn}(h:L=M):L.length=M.length/\∀ i,i<M.length->((rI L i).y=(rI M i).y/\(rI L i).x0=(rI M i).x0)/\(rI L i).x1=(rI M i).x1:=by
 subst h
 exact ⟨rfl,fun i _=>⟨⟨rfl,rfl⟩,rfl⟩⟩
theorem dsk_len (c:Pt) (w:Int):∀ i,(dsk c w i).length<=i
 | 0=>Nat.le_refl _
 | i+1=>by
  show (dsk c w i++dRow c w _).length<=i+1
  rw [List.length_append]
  have:=dsk_len c w i
  have h:(dRow c w (dY0 c w+i)).length<=1:=by
   unfold dRow
   split
   ·exact Nat.zero_le _
   ·split
    ·exact Nat.le_refl _
    ·exact Nat.zero_le _
  omega
structure DcG where
 n:Nat
 f:Nat->Rn
 c:Pt
 w:Int
def DcG.L (g:DcG) (i:Nat):List Rn:=Rg.L ⟨g.n,g.f⟩++dsk g.c g.w i
def DcG.ok (g:DcG):Prop:=g.n<=4294967296/\small 32767 g.c/\1<=g.w/\g.w<=1024
def rRow (v:Nat) (L:List Rn):SO:= .row v L.length 3 (fun i=>lst (rnL (rI L i))) 77
def dcI (g:DcG):Inv:=⟨Nat,fun i=>i<=dN g.c g.w,fun i=>⟨[(0,.osl 0 1),(2,.int .i64 g.w),(4,.own 1 0),(7,.int .i64 (dH g.w)),(8,.int .i64 (dY0 g.c g.w+i))],[rRow 1 (g.L i),.cells 2 (lst (ptL g.c)) 28]⟩,fun i=>dN g.c g.w-i⟩
def spDisc:FSpec:=mkSpecM 16 [.arg 0] (γ:=DcG) (fun | [_,.agg _ c,.int _ w],[.row _ n _ g _]=>some ⟨n,fun i=>rnD (g i),ptD c,w⟩ | _,_=>none) (fun g=>[.osl 0 0,ptS g.c,.int .i64 g.w])
 (fun g=>[.row 0 g.n 3 (fun i=>lst (rnL (g.f i))) 77]) DcG.ok (fun _=> .osl 0 1) (fun g=>[rRow 1 (g.L (dN g.c g.w))])
theorem ok_disc:SpecOK Tryz.prog spDisc:=by
 refine spec_soundM (specs:=[Dsh.spSqrt]) (all_ok (⟨Dsh.ok_sqrt,trivial⟩)) (eqs:=[]) (fun _ _ h=>(List.not_mem_nil h).elim) Aff.mixed Tryz.func16 rfl (by kernel_rfl) (fun _ _=>by kernel_rfl) (fun g=>(⟨[(3,.inv (dcI g))],[]⟩:Ann)) true (fun g=>Nat.le_of_ble_eq_true (by kernel_rfl)) ?_
 rintro ⟨n,f,c,w⟩ hg
 refine vc_of (B:=let A:=Sx.Ask;let z17:=((0:Nat)=(0:Nat));let z14:=(-8192:Int);let z10:=(1:Int);let z7:=(2:Int);let z16:=(w.tdiv z7+z10);let z6:=(9223372036854775807:Int);let z5:=(-9223372036854775808:Int);let z4:=(DcG.mk n f c w);let z15:=(z4.L (dN c w));let z3:=(IntKind.i64=IntKind.i64);let z13:=(A z3/\A (w=w));let z8:=((True/\A z3/\A (c.x=c.x))/\A z3/\A (c.y=c.y));True/\True/\True/\A (z7≠(0:Int)/\z5<=w.tdiv z7/\w.tdiv z7<=z6)/\A (z5<=w.tdiv z7+z10/\w.tdiv z7+z10<=z6)/\True/\True/\True/\True/\A (z5<=c.y-z16/\c.y-z16<=z6)/\True/\True/\(∃ g:Nat,A ((dcI z4).pre g)/\True/\(True/\z13/\A z17/\(A z3/\A (w.tdiv z7+z10=dH w))/\(A z3/\A ((if z14>c.y-z16 then z14 else c.y-z16)=dY0 c w+(↑g:Int)))/\True)/\(A (n=(z4.L g).length)/\∀ i:Nat,i<(z4.L g).length->((True/\A z3/\A ((f i).y=(Rga.rI (z4.L g) i).y))/\A z3/\A ((f i).x0=(Rga.rI (z4.L g) i).x0))/\A z3/\A ((f i).x1=(Rga.rI (z4.L g) i).x1))/\z8/\True)/\∀ g:Nat,let z18:=(↑g:Int);let z12:=(z5<=dY0 c w+z18+z10/\dY0 c w+z18+z10<=z6);let z9:=(dY0 c w+z18);let z1:=(True/\A z12/\True/\∃ (g':Nat),A ((dcI z4).pre g')/\True/\((True/\z13/\A z17/\(A z3/\A (dH w=dH w))/\(A z3/\A (dY0 c w+z18+z10=dY0 c w+(↑g':Int)))/\True)/\(A ((z4.L g).length=(z4.L g').length)/\∀ i:Nat,let z20:=(Rga.rI (z4.L g') i); i<(z4.L g').length->((True/\A z3/\A ((Rga.rI (z4.L g) i).y=z20.y))/\A z3/\A ((Rga.rI (z4.L g) i).x0=z20.x0))/\A z3/\A ((Rga.rI (z4.L g) i).x1=z20.x1))/\z8/\True)/\A ((dcI z4).meas g'<(dcI z4).meas g));let z0:=(z7*z9+z10-z7*c.y);let z11:=(↑(isq (w*w-z0*z0).toNat):Int);let z2:=(z11+z10); (dcI z4).pre g->True/\True/\True/\True/\A (z5<=c.y+dH w/\c.y+dH w<=z6)/\True/\True/\Sx.Br (decide (dY0 c w+z18<=if (8191:Int)<c.y+dH w then (8191:Int) else c.y+dH w)) (True/\A (z5<=z7*z9/\z7*z9<=z6)/\A (z5<=z7*z9+z10/\z7*z9+z10<=z6)/\True/\True/\A (z5<=z7*c.y/\z7*c.y<=z6)/\A (z5<=z7*z9+z10-z7*c.y/\z7*z9+z10-z7*c.y<=z6)/\True/\True/\True/\A (z5<=w*w/\w*w<=z6)/\True/\True/\A (z5<=z0*z0/\z0*z0<=z6)/\A (z5<=w*w-z0*z0/\w*w-z0*z0<=z6)/\True/\True/\True/\Sx.Br (decide (w*w-z0*z0<z10)) z1 (True/\(((A z3/\A (w*w-z0*z0=w*w-z0*z0))/\True)/\A ((0:Int)<=w*w-z0*z0/\w*w-z0*z0<=(4611686018427387904:Int)))/\A (z5<=z11+z10/\z11+z10<=z6)/\A (z7≠(0:Int)/\z5<=z2.tdiv z7/\z2.tdiv z7<=z6)/\True/\True/\True/\True/\A (z5<=c.x-z2.tdiv z7/\c.x-z2.tdiv z7<=z6)/\True/\True/\True/\True/\A (z5<=c.x+z2.tdiv z7/\c.x+z2.tdiv z7<=z6)/\True/\True/\True/\True/\True/\True/\Sx.Br (decide ((if z14>c.x-z2.tdiv z7 then z14 else c.x-z2.tdiv z7)<if (8192:Int)<c.x+z2.tdiv z7 then (8192:Int) else c.x+z2.tdiv z7)) (True/\True/\True/\True/\True/\True/\A ((z4.L g).length+(1:Nat)<=(9223372036854775807:Nat)/\((z4.L g).length+(1:Nat))*(24:Nat)<=(140737488355328:Nat))/\True/\True/\A z12/\True/\∃ (g':Nat),A ((dcI z4).pre g')/\True/\((True/\z13/\A z17/\(A z3/\A (dH w=dH w))/\(A z3/\A (dY0 c w+z18+z10=dY0 c w+(↑g':Int)))/\True)/\(A ((z4.L g).length+(1:Nat)=(z4.L g').length)/\∀ i:Nat,let z21:=(Rga.rI (z4.L g') i);let z19:=(i<(z4.L g).length); i<(z4.L g').length->((True/\A z3/\A ((bif decide z19 then (Rga.rI (z4.L g) i).y else dY0 c w+z18)=z21.y))/\A z3/\A ((bif decide z19 then (Rga.rI (z4.L g) i).x0 else if z14>c.x-z2.tdiv z7 then z14 else c.x-z2.tdiv z7)=z21.x0))/\A z3/\A ((bif decide z19 then (Rga.rI (z4.L g) i).x1 else if (8192:Int)<c.x+z2.tdiv z7 then (8192:Int) else c.x+z2.tdiv z7)=z21.x1))/\z8/\True)/\A ((dcI z4).meas g'<(dcI z4).meas g)) z1)) (True/\True/\True/\True/\(True/\True)/\(A ((z4.L g).length=z15.length)/\∀ i:Nat,i<z15.length->((True/\A z3/\A ((Rga.rI (z4.L g) i).y=(Rga.rI z15 i).y))/\A z3/\A ((Rga.rI (z4.L g) i).x0=(Rga.rI z15 i).x0))/\A z3/\A ((Rga.rI (z4.L g) i).x1=(Rga.rI z15 i).x1))/\True)) (by kernel_rfl) ?_
 simp only [ask_iff,br_iff,eq_self,true_and,and_true,implies_true,forall_const,decide_eq_true_eq,decide_eq_false_iff_not,ne_eq,Nat.mul_one,Nat.add_zero,Nat.zero_add,Int.toNat_natCast,and_self,false_and,and_false]
 obtain ⟨hn,⟨⟨c1,c2⟩,c3,c4⟩,w0,w1⟩:n<=4294967296/\small 32767 c/\1<=w/\w<=1024:=hg
 have eh:w.tdiv 2=w / 2:=Int.tdiv_eq_ediv_of_nonneg (by omega)
 have hH:dH w=w / 2+1:=by unfold dH; omega
 have hL0:DcG.L ⟨n,f,c,w⟩ 0=Rg.L ⟨n,f⟩:=List.append_nil _
 have hY : -8192<=dY0 c w/\c.y-dH w<=dY0 c w/\dY0 c w<=32767:=by unfold dY0; split<;>omega
 have hY1:dY1 c w<=8191/\dY1 c w<=c.y+dH w:=by unfold dY1; split<;>omega
 have hw2:=Fla.mul_in (a:=w) (x:=w) (A:=1024) (X:=1024) ⟨by omega,by omega⟩ ⟨by omega,by omega⟩
 have hLn:∀ g,g<=dN c w->(DcG.L ⟨n,f,c,w⟩ g).length<=n+16384:=fun g hg=>by
  have:=dsk_len c w g
  have hg:g<=(dY1 c w+1-dY0 c w).toNat:=hg
  have e:(DcG.L ⟨n,f,c,w⟩ g).length=(Rg.L ⟨n,f⟩).length+(dsk c w g).length:=List.length_append
  rw [Rg.len] at e
  have e:(DcG.L ⟨n,f,c,w⟩ g).length=n+(dsk c w g).length:=e
  omega
 refine ⟨by omega,by omega,by omega,⟨0,Nat.zero_le _,⟨rfl,(Int.add_zero _).symm⟩,?_,fun i hi=>?_⟩,fun g hg=>⟨by omega,fun hle=>?_,fun hgt=>?_⟩⟩
 ·rw [hL0,Rg.len]
 ·rw [hL0] at hi ⊢
  rw [Rg.len] at hi
  rw [Rg.rI hi]
  exact ⟨⟨rfl,rfl⟩,rfl⟩
 ·have hg:g<=(dY1 c w+1-dY0 c w).toNat:=hg
  have hle:dY0 c w+g<=dY1 c w:=hle
  have hd:=Fla.mul_in (a:=2*(dY0 c w+g)+1-2*c.y) (x:=2*(dY0 c w+g)+1-2*c.y) (A:=1030) (X:=1030) ⟨by omega,by omega⟩ ⟨by omega,by omega⟩
  have hd0:=sqn (2*(dY0 c w+g)+1-2*c.y)
  have hpre:(dcI ⟨n,f,c,w⟩).pre (g+1):=by show g+1<=(dY1 c w+1-dY0 c w).toNat; omega
  have hms:(dcI ⟨n,f,c,w⟩).meas (g+1)<(dcI ⟨n,f,c,w⟩).meas g:=by show (dY1 c w+1-dY0 c w).toNat-(g+1)<(dY1 c w+1-dY0 c w).toNat-g; omega
  have hlen:=hLn g hg
  have hM:DcG.L ⟨n,f,c,w⟩ (g+1)=DcG.L ⟨n,f,c,w⟩ g++dRow c w (dY0 c w+g):=(List.append_assoc _ _ _).symm
  refine ⟨by omega,by omega,by omega,by omega,by omega,by omega,by omega,fun hr=>?_,fun hr=>?_⟩
  ·have e:dRow c w (dY0 c w+g)=[]:=if_pos hr
   rw [e,List.append_nil] at hM
   exact ⟨by omega,g+1,hpre,⟨by omega,rSame hM.symm⟩,hms⟩
  ·have hq:=Dsh.isq_le (w*w-(2*(dY0 c w+g)+1-2*c.y)*(2*(dY0 c w+g)+1-2*c.y)).toNat
   have ek:(((isq (w*w-(2*(dY0 c w+g)+1-2*c.y)*(2*(dY0 c w+g)+1-2*c.y)).toNat:Nat):Int)+1).tdiv 2=(((isq (w*w-(2*(dY0 c w+g)+1-2*c.y)*(2*(dY0 c w+g)+1-2*c.y)).toNat:Nat):Int)+1) / 2:=Int.tdiv_eq_ediv_of_nonneg (by omega)
   refine ⟨by omega,by omega,by omega,by omega,by omega,fun hx=>?_,fun hx=>?_⟩
   ·have e:dRow c w (dY0 c w+g)=[⟨dY0 c w+g,dX0 c w (dY0 c w+g),dX1 c w (dY0 c w+g)⟩]:=(if_neg hr).trans (if_pos hx)
    rw [e] at hM
    refine ⟨by omega,by omega,g+1,hpre,⟨by omega,by rw [hM]; simp,?_⟩,hms⟩
    rw [hM]
    exact rApp _ _
   ·have e:dRow c w (dY0 c w+g)=[]:=(if_neg hr).trans (if_neg hx)
    rw [e,List.append_nil] at hM
    exact ⟨by omega,g+1,hpre,⟨by omega,rSame hM.symm⟩,hms⟩
 ·have hg:g<=(dY1 c w+1-dY0 c w).toNat:=hg
  have hgt:¬ dY0 c w+g<=dY1 c w:=hgt
  rw [show g=dN c w by unfold dN; omega]
  exact rSame rfl
noncomputable def outX (s:Sty) (l:Li):Olr:=Classical.choose (⟨_,rfl⟩:∃ o,o=outO s l)
theorem outX_eq (s:Sty) (l:Li):outX s l=outO s l:=Classical.choose_spec (⟨_,rfl⟩:∃ o,o=outO s l)
noncomputable def spOutX:FSpec:=mkSpec 14 (γ:=OuG) (fun | [.agg _ l,.agg _ g]=>some ⟨liD l,styD g⟩ | _=>none) (fun g=>[liS g.l,styS g.s]) OuG.ok (fun g=> .tup 2 (lst [olS (outX g.s g.l),.int .i64 0]))
theorem ok_outX:SpecOK Tryz.prog spOutX:=by
 have e:spOutX=spOutl:=by
  unfold spOutX spOutl
  rw [show (fun g:OuG=>SV.tup 2 (lst [olS (outX g.s g.l),.int .i64 0]))=fun g=> .tup 2 (lst [olS (outO g.s g.l),.int .i64 0]) from funext fun g=>by rw [outX_eq]]
  all_goals rfl
 rw [e]
 exact ok_outl
def winL (o:Olr) (i:Nat):Lns:=⟨(Int.ofNat (i+1)-Int.ofNat i).toNat,fun k=>⟨o.m ((Int.ofNat i).toNat+k),o.p ((Int.ofNat i).toNat+k),true⟩⟩
theorem winL_eq (o:Olr) (i:Nat):winL o i=⟨1,fun k=>o.li (i+k)⟩:=by
 unfold winL
 have e:(Int.ofNat (i+1)-Int.ofNat i).toNat=1:=by simp only [Int.ofNat_eq_natCast]; omega
 rw [e]
 rfl
noncomputable def fR (o:Olr):Nat->List Rn
 | 0=>[]
 | i+1=>fR o i++fillL ins1 (winL o i)
def dR (o:Olr) (w:Int):Nat->List Rn
 | 0=>[]
 | i+1=>dR o w i++dsk (o.d i) w (dN (o.d i) w)
noncomputable def lineR (s:Sty) (l:Li):List Rn:=fR (outX s l) (outX s l).n++dR (outX s l) s.w (outX s l).k
noncomputable def sR (s:Sty) (g:Lns):Nat->List Rn
 | 0=>[]
 | i+1=>sR s g i++lineR s (g.f i)
structure StrOK (h:StrG):Prop where
 ok:h.ok
 out:∀ i,i<h.g.n->OuG.ok ⟨h.g.f i,h.s⟩
 k:∀ i,i<h.g.n->(outX h.s (h.g.f i)).n<=1024/\(outX h.s (h.g.f i)).k<=1048576
 fin:∀ i,i<h.g.n->∀ t,t<(outX h.s (h.g.f i)).n->Li.fin ((outX h.s (h.g.f i)).li t)
 disc:∀ i,i<h.g.n->∀ t,t<(outX h.s (h.g.f i)).k->small 32767 ((outX h.s (h.g.f i)).d t)
 len:(sR h.s h.g h.g.n).length<=100000000
 run:∀ r∈sR h.s h.g h.g.n,okR r
def styB (s:Sty):SO:= .cells 4 (lst (styL s)) 38
noncomputable def stO (h:StrG):Inv:=⟨Nat,fun i=>i<=h.g.n,fun i=>⟨[(3,.own 0 0),(7,.osl 1 0),(23,lnsS h.g),(24,.int .i64 h.g.n),(25,.int .i64 i)],[styB h.s,rRow 0 (sR h.s h.g i)]⟩,fun i=>h.g.n-i⟩
noncomputable def stP (h:StrG) (i:Nat):Inv:=⟨Nat,fun k=>k<=(outX h.s (h.g.f i)).n,fun k=>⟨[(3,.own 0 0),(7,.osl 1 0),(10,olS (outX h.s (h.g.f i))),(23,lnsS h.g),(24,.int .i64 h.g.n),(25,.int .i64 i),(42,.int .i64 (outX h.s (h.g.f i)).n),(43,.int .i64 k)],
 [styB h.s,rRow 0 (sR h.s h.g i++fR (outX h.s (h.g.f i)) k)]⟩,fun k=>(outX h.s (h.g.f i)).n-k⟩
noncomputable def stD (h:StrG) (i:Nat):Inv:=⟨Nat,fun k=>k<=(outX h.s (h.g.f i)).k,fun k=>⟨[(3,.own 0 0),(7,.osl 1 0),(23,lnsS h.g),(24,.int .i64 h.g.n),(25,.int .i64 i),(65,discsS (outX h.s (h.g.f i))),(66,.int .i64 (outX h.s (h.g.f i)).k),(67,.int .i64 k)],
 [styB h.s,rRow 0 (sR h.s h.g i++(fR (outX h.s (h.g.f i)) (outX h.s (h.g.f i)).n++dR (outX h.s (h.g.f i)) h.s.w k))]⟩,fun k=>(outX h.s (h.g.f i)).k-k⟩
noncomputable def outR (h:StrG):List Rn:=Rgg.joOut ⟨(sR h.s h.g h.g.n).length,rI (sR h.s h.g h.g.n)⟩
theorem rAdd (L M:List Rn):∀ i,i<(L++M).length->((bif decide (i<L.length) then (rI L i).y else (rI M (i-L.length)).y)=(rI (L++M) i).y/\(bif decide (i<L.length) then (rI L i).x0 else (rI M (i-L.length)).x0)=(rI (L++M) i).x0)/\(bif decide (i<L.length) then (rI L i).x1 else (rI M (i-L.length)).x1)=(rI (L++M) i).x1:=fun i _=>by
 rw [rI_add L M i]
 by_cases h:i<L.length
 ·rw [decide_eq_true h,if_pos h]; exact ⟨⟨rfl,rfl⟩,rfl⟩
 ·rw [decide_eq_false h,if_neg h]; exact ⟨⟨rfl,rfl⟩,rfl⟩
theorem grow {F:Nat->List Rn}(h:∀ i,∃ M,F (i+1)=F i++M) {i n:Nat}(hi:i<=n):(F i).length<=(F n).length:=by
 induction n with
 | zero=>rw [show i=0 by omega]; exact Nat.le_refl _
 | succ n ih=>
  by_cases e:i=n+1
  ·rw [e]; exact Nat.le_refl _
  ·obtain ⟨M,hM⟩:=h n
   rw [hM,List.length_append]
   have:=ih (by omega)
   omega
theorem rI_in {L:List Rn}{i:Nat}(h:i<L.length):rI L i∈L:=by
 unfold rI
 rw [List.getD_eq_getElem?_getD,List.getElem?_eq_getElem h]
 exact List.getElem_mem _
noncomputable def spStr:FSpec:=mkSpec 7 (γ:=StrG) (fun | [s,.agg _ g]=>some ⟨⟨slLen s,lnsD s⟩,styD g⟩ | _=>none) (fun h=>[lnsS h.g,styS h.s]) StrOK (fun h=> .tup 2 (lst [runsS (outR h),.int .i64 0]))
theorem ok_str:SpecOK Tryz.prog spStr:=by
 refine spec_sound (specs:=[spCk,spOutX,spFill1,spDisc,Rgg.spJoin]) (all_ok (⟨ok_ck,ok_outX,ok_fill1,ok_disc,Rgg.ok_join,trivial⟩)) (eqs:=[]) (fun _ _ h=>(List.not_mem_nil h).elim) Aff.mixed Tryz.func7 rfl (by kernel_rfl) (fun _ _=>by kernel_rfl) (fun g=>(⟨[(6,.nest (stO g) (fun i=>[(12,.inv (stP g i)),(18,.inv (stD g i))]))],[(5,[.own 7 77 3]),(23,[.tmp 7])]⟩:Ann)) (fun g=>Nat.le_of_ble_eq_true (by kernel_rfl)) ?_
 rintro ⟨g,s⟩ hg
 refine vc_of (B:=let K:=Int.ofNat;let A:=Sx.Ask;let z36:=(1:Int);let z33:=(0:Int);let z32:=(9223372036854775807:Int);let z28:=(-9223372036854775808:Int);let z21:=((0:Nat)=(0:Nat));let z11:=(Sto.StrG.mk g s);let z1:=(IntKind.i64=IntKind.i64);let z9:=(A z1/\A ((↑g.n:Int)=(↑g.n:Int)));let z4:=((((True/\A z1/\A (s.w=s.w))/\A z1/\A (s.cap=s.cap))/\A z1/\A (s.join=s.join))/\A z1/\A (s.limit=s.limit));let z2:=(A (g.n=g.n)/\∀ i:Nat,i<g.n->(True/\A ((g.f i).n=(g.f i).n)/\∀ i_1:Nat,let z42:=((g.f i).f i_1); i_1<(g.f i).n->(True/\A z1/\A (z42.x=z42.x))/\A z1/\A (z42.y=z42.y))/\A ((g.f i).c=(g.f i).c));True/\True/\True/\True/\True/\((z2/\z4/\True)/\A z11.ok)/\True/\True/\True/\True/\True/\True/\True/\(∃ g_1:Nat,A ((stO z11).pre g_1)/\(A z21/\True/\z2/\z9/\(A z1/\A (z33=(↑g_1:Int)))/\True)/\z4/\(A ((0:Nat)=(sR s g g_1).length)/\∀ i:Nat,i<(sR s g g_1).length->((True/\False)/\False)/\False)/\True)/\∀ g_1:Nat,let z37:=(stP z11 g_1);let z26:=(↑g_1:Int);let z19:=(sR s g g_1);let z15:=(A z1/\A (z26=z26));let z10:=(Rga.Rg.mk z19.length (Rga.rI z19));let z6:=(g.f z26.toNat);let z25:=(outX s z6);let z0:=(outX s (g.f g_1));let z38:=(↑z0.n:Int);let z30:=(A z1/\A ((↑z0.k:Int)=(↑z0.k:Int)));let z14:=(A (z0.k=z0.k)/\∀ i:Nat,i<z0.k->(True/\A z1/\A ((z0.d i).x=(z0.d i).x))/\A z1/\A ((z0.d i).y=(z0.d i).y)); (stO z11).pre g_1->True/\Sx.Br (decide (z26<(↑g.n:Int))) (A (z33<=z26/\z26<(↑g.n:Int))/\True/\True/\True/\True/\True/\((((True/\A (z6.n=z6.n)/\∀ i:Nat,i<z6.n->(True/\A z1/\A ((z6.f i).x=(z6.f i).x))/\A z1/\A ((z6.f i).y=(z6.f i).y))/\A (z6.c=z6.c))/\z4/\True)/\A (Sto.OuG.mk z6 s).ok)/\True/\True/\True/\True/\True/\True/\True/\True/\True/\True/\True/\True/\True/\(∃ g_2:Nat,let z23:=(sR s g g_1++fR z0 g_2); A (z37.pre g_2)/\(A z21/\True/\((((((True/\A z1/\A (z25.w=z0.w))/\A z1/\A (z25.cap=z0.cap))/\A z1/\A (z25.join=z0.join))/\A z1/\A (z25.limit=z0.limit))/\A (z25.n=z0.n)/\∀ i:Nat,i<z0.n->(True/\A (z25.m i=z0.m i)/\∀ i_1:Nat,i_1<z0.m i->(True/\A z1/\A ((z25.p i i_1).x=(z0.p i i_1).x))/\A z1/\A ((z25.p i i_1).y=(z0.p i i_1).y))/\A (true=true))/\A (z25.k=z0.k)/\∀ i:Nat,i<z0.k->(True/\A z1/\A ((z25.d i).x=(z0.d i).x))/\A z1/\A ((z25.d i).y=(z0.d i).y))/\z2/\z9/\z15/\(A z1/\A ((↑z25.n:Int)=z38))/\(A z1/\A (z33=(↑g_2:Int)))/\True)/\z4/\(A (z19.length=z23.length)/\∀ i:Nat,i<z23.length->((True/\A z1/\A ((Rga.rI z19 i).y=(Rga.rI z23 i).y))/\A z1/\A ((Rga.rI z19 i).x0=(Rga.rI z23 i).x0))/\A z1/\A ((Rga.rI z19 i).x1=(Rga.rI z23 i).x1))/\True)/\∀ g_2:Nat,let z20:=(z28<=(↑g_2:Int)+z36/\(↑g_2:Int)+z36<=z32);let z18:=(K (g_2+(1:Nat))-K g_2);let z7:=(sR s g g_1++fR z0 g_2);let z3:=(Fla.Lns.mk z18.toNat fun (i:Nat)=>Fla.Li.mk (z0.m ((K g_2).toNat+i)) (z0.p ((K g_2).toNat+i)) true);let z22:=(Flf.fillL Flf.ins1 z3); z37.pre g_2->True/\Sx.Br (decide ((↑g_2:Int)<z38)) (True/\True/\True/\True/\True/\True/\True/\True/\A z20/\A (z33<=K g_2/\K g_2<=K (g_2+(1:Nat))/\K (g_2+(1:Nat))<=K z0.n/\K z0.n<=z38)/\(((A (z18.toNat=z18.toNat)/\∀ i:Nat,let z16:=((K g_2).toNat+i); i<z18.toNat->(True/\A (z0.m z16=z0.m z16)/\∀ i_1:Nat,i_1<z0.m z16->(True/\A z1/\A ((z0.p z16 i_1).x=(z0.p z16 i_1).x))/\A z1/\A ((z0.p z16 i_1).y=(z0.p z16 i_1).y))/\A (true=true))/\(A z1/\A (z33=z33))/\True)/\A (z3.fin/\z3.E.length<=(1048576:Nat)))/\True/\True/\True/\True/\True/\True/\True/\A (z7.length+z22.length<=(9223372036854775807:Nat)/\(z7.length+z22.length)*(24:Nat)<=(140737488355328:Nat))/\True/\A z20/\True/\∃ (g':Nat),let z24:=(sR s g g_1++fR z0 g'); A (z37.pre g')/\((A z21/\True/\((((((True/\A z1/\A (z0.w=z0.w))/\A z1/\A (z0.cap=z0.cap))/\A z1/\A (z0.join=z0.join))/\A z1/\A (z0.limit=z0.limit))/\A (z0.n=z0.n)/\∀ i:Nat,i<z0.n->(True/\A (z0.m i=z0.m i)/\∀ i_1:Nat,i_1<z0.m i->(True/\A z1/\A ((z0.p i i_1).x=(z0.p i i_1).x))/\A z1/\A ((z0.p i i_1).y=(z0.p i i_1).y))/\A (true=true))/\A (z0.k=z0.k)/\∀ i:Nat,i<z0.k->(True/\A z1/\A ((z0.d i).x=(z0.d i).x))/\A z1/\A ((z0.d i).y=(z0.d i).y))/\z2/\z9/\z15/\(A z1/\A (z38=z38))/\(A z1/\A ((↑g_2:Int)+z36=(↑g':Int)))/\True)/\z4/\(A (z7.length+z22.length=z24.length)/\∀ i:Nat,let z29:=(Rga.rI z22 (i-z7.length)); i<z24.length->((True/\A z1/\A ((bif decide (i<z7.length) then (Rga.rI z7 i).y else z29.y)=(Rga.rI z24 i).y))/\A z1/\A ((bif decide (i<z7.length) then (Rga.rI z7 i).x0 else z29.x0)=(Rga.rI z24 i).x0))/\A z1/\A ((bif decide (i<z7.length) then (Rga.rI z7 i).x1 else z29.x1)=(Rga.rI z24 i).x1))/\True)/\A (z37.meas g'<z37.meas g_2)) (True/\True/\True/\True/\True/\True/\(∃ g_3:Nat,let z12:=(sR s g g_1++(fR z0 z0.n++dR z0 s.w g_3)); A (g_3<=z0.k)/\(A z21/\True/\z2/\z9/\z15/\z14/\z30/\(A z1/\A (z33=(↑g_3:Int)))/\True)/\z4/\(A (z7.length=z12.length)/\∀ i:Nat,i<z12.length->((True/\A z1/\A ((Rga.rI z7 i).y=(Rga.rI z12 i).y))/\A z1/\A ((Rga.rI z7 i).x0=(Rga.rI z12 i).x0))/\A z1/\A ((Rga.rI z7 i).x1=(Rga.rI z12 i).x1))/\True)/\∀ g_3:Nat,let z31:=(↑g_3:Int);let z17:=(z0.d z31.toNat);let z5:=(sR s g g_1++(fR z0 z0.n++dR z0 s.w g_3));let z40:=(DcG.mk z5.length (Rga.rI z5) z17 s.w);let z8:=(z40.L (dN z17 s.w)); g_3<=z0.k->True/\Sx.Br (decide (z31<(↑z0.k:Int))) (A (z33<=z31/\z31<(↑z0.k:Int))/\True/\True/\True/\True/\True/\True/\True/\((True/\(True/\((True/\A z1/\A (z17.x=z17.x))/\A z1/\A (z17.y=z17.y))/\(A z1/\A (s.w=s.w))/\True)/\(A (z5.length=z5.length)/\∀ i:Nat,let z34:=(Rga.rI z5 i); i<z5.length->((True/\A z1/\A (z34.y=z34.y))/\A z1/\A (z34.x0=z34.x0))/\A z1/\A (z34.x1=z34.x1))/\True)/\A z40.ok)/\True/\A (z28<=z31+z36/\z31+z36<=z32)/\True/\∃ (g':Nat),let z13:=(sR s g g_1++(fR z0 z0.n++dR z0 s.w g')); A (g'<=z0.k)/\((A z21/\True/\z2/\z9/\z15/\z14/\z30/\(A z1/\A (z31+z36=(↑g':Int)))/\True)/\z4/\(A (z8.length=z13.length)/\∀ i:Nat,i<z13.length->((True/\A z1/\A ((Rga.rI z8 i).y=(Rga.rI z13 i).y))/\A z1/\A ((Rga.rI z8 i).x0=(Rga.rI z13 i).x0))/\A z1/\A ((Rga.rI z8 i).x1=(Rga.rI z13 i).x1))/\True)/\A (z0.k-g'<z0.k-g_3)) (A (z28<=z26+z36/\z26+z36<=z32)/\True/\∃ (g':Nat),A ((stO z11).pre g')/\((A z21/\True/\z2/\z9/\(A z1/\A (z26+z36=(↑g':Int)))/\True)/\z4/\(A (z5.length=(sR s g g').length)/\∀ i:Nat,let z39:=(Rga.rI (sR s g g') i); i<(sR s g g').length->((True/\A z1/\A ((Rga.rI z5 i).y=z39.y))/\A z1/\A ((Rga.rI z5 i).x0=z39.x0))/\A z1/\A ((Rga.rI z5 i).x1=z39.x1))/\True)/\A ((stO z11).meas g'<(stO z11).meas g_1)))) (True/\(((A (z19.length=z19.length)/\∀ i:Nat,let z27:=(Rga.rI z19 i); i<z19.length->((True/\A z1/\A (z27.y=z27.y))/\A z1/\A (z27.x0=z27.x0))/\A z1/\A (z27.x1=z27.x1))/\True)/\A (Rgg.joOk z10))/\True/\True/\True/\(True/\A ((Rgg.joOut z10).length=(outR z11).length)/\∀ i:Nat,let z41:=(Rga.rI (outR z11) i);let z35:=(Rga.rI (Rgg.joOut z10) i); i<(outR z11).length->((True/\A z1/\A (z35.y=z41.y))/\A z1/\A (z35.x0=z41.x0))/\A z1/\A (z35.x1=z41.x1))/\A z1/\A (z33=z33))) (by kernel_rfl) ?_
 simp only [ask_iff,br_iff,eq_self,true_and,and_true,implies_true,forall_const,decide_eq_true_eq,decide_eq_false_iff_not,ne_eq,Nat.mul_one,Nat.add_zero,Nat.zero_add,Int.toNat_natCast,and_self,false_and,and_false]
 obtain ⟨hok,hout,hk,hfin,hdisc,hlen,hrun⟩:=hg
 simp only at hok hout hk hfin hdisc hlen hrun
 obtain ⟨hgf,⟨⟨w0,w1⟩,-⟩,-⟩:g.fin/\Sty.ok s:=id hok
 have hgn:g.n<=1024:=hgf.1
 have gS:∀ i,i<=g.n->(sR s g i).length<=100000000:=fun i hi=>Nat.le_trans (grow (F:=sR s g) (fun _=>⟨_,rfl⟩) hi) hlen
 refine ⟨⟨hgf,hok.2⟩,⟨0,Nat.zero_le _,rfl,rfl,fun i hi=>absurd hi (Nat.not_lt_zero _)⟩,fun i hi=>⟨fun hlt=>⟨by omega,hout i (by omega),⟨0,Nat.zero_le _,rfl,rSame (List.append_nil _).symm⟩,fun k hk2=>⟨fun hkl=>?_,fun hkg=>⟨⟨0,Nat.zero_le _,rfl,?_⟩,fun j hj=>⟨fun hjl=>?_,fun hjg=>?_⟩⟩⟩⟩,fun hge=>?_⟩⟩
 ·have hi2:i<g.n:=by omega
  have hk2:k<(outX s (g.f i)).n:=by omega
  have hn:=hk i hi2
  have wf:(winL (outX s (g.f i)) k).fin:=by
   rw [winL_eq]
   refine ⟨show 1<=1024 by omega,fun t ht=>?_⟩
   have ht:t<1:=ht
   exact hfin i hi2 _ (by omega)
  have we:(winL (outX s (g.f i)) k).E.length<=1048576:=by
   have h:=Lns.ed_len wf _ (Nat.le_refl _)
   have h1:(winL (outX s (g.f i)) k).n=1:=by rw [winL_eq]
   have h2:(winL (outX s (g.f i)) k).E.length<=1024*(winL (outX s (g.f i)) k).n:=h
   rw [h1] at h2
   omega
  have eF:sR s g i++fR (outX s (g.f i)) (k+1)=(sR s g i++fR (outX s (g.f i)) k)++fillL ins1 (winL (outX s (g.f i)) k):=(List.append_assoc _ _ _).symm
  have hb:(sR s g i++fR (outX s (g.f i)) k).length+(fillL ins1 (winL (outX s (g.f i)) k)).length<=100000000:=by
   rw [<-List.length_append,<-eF]
   have h1:=gS (i+1) hi2
   have h2:(sR s g (i+1)).length=(sR s g i++lineR s (g.f i)).length:=rfl
   unfold lineR at h2
   have h3:=grow (F:=fR (outX s (g.f i))) (fun _=>⟨_,rfl⟩) (show k+1<=(outX s (g.f i)).n by omega)
   rw [List.length_append,List.length_append] at h2
   rw [List.length_append]
   omega
  refine ⟨by omega,by simp only [Int.ofNat_eq_natCast]; omega,⟨wf,we⟩,?_,by omega,k+1,show k+1<=(outX s (g.f i)).n by omega,⟨by omega,?_,?_⟩,show (outX s (g.f i)).n-(k+1)<(outX s (g.f i)).n-k by omega⟩
  ·show (sR s g i++fR (outX s (g.f i)) k).length+(fillL ins1 (winL (outX s (g.f i)) k)).length<=9223372036854775807/\((sR s g i++fR (outX s (g.f i)) k).length+(fillL ins1 (winL (outX s (g.f i)) k)).length)*24<=140737488355328
   omega
  ·rw [eF]
   exact List.length_append.symm
  ·rw [eF]
   exact rAdd _ _
 ·have hk2:k<=(outX s (g.f i)).n:=hk2
  rw [show k=(outX s (g.f i)).n by omega]
  exact rSame (by rw [show dR (outX s (g.f i)) s.w 0=[] from rfl,List.append_nil])
 ·have hi2:i<g.n:=by omega
  have hn:=hk i hi2
  have hb:(sR s g i++(fR (outX s (g.f i)) (outX s (g.f i)).n++dR (outX s (g.f i)) s.w j)).length<=100000000:=by
   have h1:=gS (i+1) hi2
   have h2:(sR s g (i+1)).length=(sR s g i++lineR s (g.f i)).length:=rfl
   unfold lineR at h2
   have h3:=grow (F:=dR (outX s (g.f i)) s.w) (fun _=>⟨_,rfl⟩) (show j<=(outX s (g.f i)).k by omega)
   rw [List.length_append,List.length_append] at h2 ⊢
   omega
  refine ⟨by omega,⟨Nat.le_trans hb (by omega),hdisc i hi2 j (by omega),w0,w1⟩,by omega,j+1,by omega,⟨by omega,rSame ?_⟩,by omega⟩
  show Rg.L ⟨_,rI _⟩++_=_
  rw [Rg.L_of]
  show _=sR s g i++(fR (outX s (g.f i)) (outX s (g.f i)).n++(dR (outX s (g.f i)) s.w j++dsk _ _ _))
  simp only [List.append_assoc]
 ·refine ⟨by omega,i+1,show i+1<=g.n by omega,⟨by omega,rSame ?_⟩,show g.n-(i+1)<g.n-i by omega⟩
  rw [show j=(outX s (g.f i)).k by omega]
  rfl
 ·have hi:i<=g.n:=hi
  rw [show i=g.n by omega]
  exact ⟨⟨fun t ht=>hrun _ (rI_in ht),hlen⟩,rSame rfl⟩
end Go.Proofs.YtmhofgchidojoaaGreat.Ste
