import Derived.Test.YtbkgncikjhibiaaGreatM8
set_option maxRecDepth 100000
set_option linter.unusedSimpArgs false
set_option linter.unusedVariables false
set_option linter.unusedSectionVars false
open Go.ConcN (sumTo upd sumTo_upd upd_ne upd_same)
/- Part 9 of the texts that the law's proof leans on. -/
namespace Go.Proofs.YtbkgncikjhibiaaGreat
namespace Rgg
open Go.RowKit Sx Num Aff Con Rga Rgl Rgm Rgn Rgb Rgc Rgf
def bo7:FSpec:=a08 75 (γ:=Rg) (fun | [s]=>some ⟨aj5 s,rgD s⟩ | _=>none) (fun g=>[rgS g]) (fun g=>0<g.n/\g.n<=4294967296) (fun _=> .osl 0 0) (fun g=>rowS 0 g.n g.f)
theorem bH7:aa7 Tw.prog bo7:=by
 refine aM3 (specs:=[]) (at7 trivial) (eqs:=[]) (fun _ _ h=>(xf h).elim) Aff.mixed Tw.func75 rfl (by kernel_rfl) (fun _ _=>by kernel_rfl) (fun g=>(⟨[],[(1,[.nilc 0])]⟩:Ann)) (fun _=>0) (fun g=>lN (by kernel_rfl)) ?_;rintro g ⟨h0,hn⟩;refine ad5 (B:=let A:=Aq;let z0:=(IntKind.i64=IntKind.i64);True/\(g.n=(0:Nat)->True/\True/\True/\True/\False)/\True/\True/\True/\True/\A ((0:Nat)+g.n<=(9223372036854775807:Nat)/\((0:Nat)+g.n)*(24:Nat)<=(140737488355328:Nat))/\True/\True/\(True/\True)/\(A ((0:Nat)+g.n=g.n)/\∀ i:Nat,let z1:=(g.f (i-(0:Nat))); i<g.n->((True/\A z0/\A (z1.y=(g.f i).y))/\A z0/\A (z1.x0=(g.f i).x0))/\A z0/\A (z1.x1=(g.f i).x1))/\True) ?_;simp only [cln];refine ⟨fun h=>by omega,by omega,fun i _=>?_⟩;rw [lab];exact ⟨⟨rfl,rfl⟩,rfl⟩
def em (f:Nat->Rn):SV:= .sl 0 3 (fun i=>lst (rnL (f i)))
def bo8:FSpec:=ab0 75 (γ:=Nat->Rn) (fun | [s]=>some (rgD s) | _=>none) (fun f=>[em f]) (fun _=>True) (fun f=>em f)
theorem bH8:aa7 Tw.prog bo8:=by
 refine ssW (specs:=[]) trivial Tw.func75 (fun g=>(⟨[],[(1,[.nilc 0])]⟩:Ann)) ?_;rintro g hg;refine ad5 (B:=let A:=Aq;let z1:=(IntKind.i64=IntKind.i64);let z0:=(0:Nat);True/\(z0=z0->True/\True/\True/\True/\A (z0=z0))/\True/\True/\True/\True/\A (z0+z0<=(9223372036854775807:Nat)/\(z0+z0)*(24:Nat)<=(140737488355328:Nat))/\True/\True/\A (z0+z0=z0)/\∀ i:Nat,i<z0->((True/\A z1/\A ((g (i-z0)).y=(g i).y))/\A z1/\A ((g (i-z0)).x0=(g i).x0))/\A z1/\A ((g (i-z0)).x1=(g i).x1)) ?_;simp only [cln];exact ⟨by decide,fun i hi=>absurd hi (ln _)⟩
def bE2:FSpec:=ab0 76 (γ:=Nat->Rn) (fun | [s,.fn _ _ _]=>some (rgD s) | _=>none) (fun f=>[em f,.fn 77 0 (lst [])]) (fun _=>True) (fun _=> .tup 0 (lst []))
theorem bS0:aa7 Tw.prog bE2:=by
 refine bD9 (enters_of Tw.func76 (by kernel_rfl) rfl) (fun f _ vals w X hsz hr hX=>?_);have h0:=hr 0 (by show 0<2; decide);have h1:=hr 1 (by show 1<2; decide);obtain ⟨v0,v1,rfl⟩:∃ v0 v1,vals = #[v0,v1]:=by
  have hs:vals.size=2:=hsz;exact ⟨vals[0],vals[1],by
   apply Array.ext
   ·exact hs
   ·intro i hi1 hi2;have:i=0\/i=1:=by omega
    rcases this with rfl | rfl<;>rfl⟩
 have h0:R w X E0 (em f) v0:=h0;have h1:R w X E0 (.fn 77 0 (lst [])) v1:=h1;have hv1:v1 = .func (.func 77) #[] #[]:=by
  cases h1 with
  | fn hs hr=>rw [xW.1 hs]
 subst hv1;obtain ⟨a,cap,rfl⟩:∃ a cap,v0 = .slice a 0 cap:=by
  unfold em at h0;cases h0 with
  | sl0=>exact ⟨_,_,rfl⟩
  | sl=>exact ⟨_,_,rfl⟩
 refine (AnyF.slices_SortFunc_none Tw.bj2 a cap (.func (.func 77) #[] #[]) w).mono ?_;rintro e w' ⟨rfl,rfl⟩;exact ⟨_,rfl,.tup rfl (fun i hi=>absurd hi (ln _)),Below.refl _ _⟩
def joOk (g:Rg):Prop:=(∀ i,i<g.n->okR (g.f i))/\g.n<=100000000
noncomputable def av8 (g:Rg):List Rn:=bc6 (mem g.L)
structure JoG where
 i:Nat
 L:List Rn
def by0 (g:Rg):Inv:=⟨JoG,fun s=>JoP (rI (srt g)) g.n s.i s.L,fun s=>⟨[(3,.own 1 0),(10,.osl 0 0),(11,.int .i64 g.n),(12,.int .i64 s.i)],
  [rowS 0 g.n (rI (srt g)),.cells 1 (lst [.osl 2 0]) 51,.row 0 s.L.length 3 (fun i=>lst (rnL (rI s.L i))) 48]⟩,fun s=>g.n-s.i⟩
noncomputable def b66:FSpec:=ab0 50 (γ:=Rg) (fun | [s]=>some ⟨aj5 s,rgD s⟩ | _=>none) (fun g=>[rgS g]) (fun g=>0<g.n/\joOk g) (fun g=>ax0 (av8 g))
theorem bS2:aa7 Tw.prog b66:=by
 refine ssW (specs:=[bo7,ba9,aV0]) (⟨bH7,bj9,aN6,trivial⟩) Tw.func50 (fun g=>(⟨[(5,.inv (by0 g))],[(4,[.ownC 1 0 48 3])]⟩:Ann)) ?_;rintro g hg;refine ad5 (B:=let A:=Aq;let z9:=((0:Nat)=(0:Nat));let z0:=(IntKind.i64=IntKind.i64);let q0:=fun p:Int=>A z0/\A (p=p);let z8:=(q0 ((↑g.n:Int)));let z3:=(A (g.n=g.n)/\∀ i:Nat,i<g.n->((True/\q0 ((g.f i).y))/\q0 ((g.f i).x0))/\q0 ((g.f i).x1));let z2:=(A (g.n=g.n)/\∀ i:Nat,let z5:=(rI (Rgf.srt g) i); i<g.n->((True/\q0 z5.y)/\q0 z5.x0)/\q0 z5.x1);True/\True/\((z3/\True)/\A ((0:Nat)<g.n/\g.n<=(4294967296:Nat)))/\True/\True/\((True/\(True/\(A ((77:Nat)=(77:Go.FuncId))/\True)/\True)/\z3/\True)/\A ((∀ i:Nat,i<g.n->okR (g.f i))/\g.n<=(4294967296:Nat)))/\True/\True/\True/\True/\(∃ g_1:JoG,A ((by0 g).pre g_1)/\(A z9/\True/\z8/\(A z0/\A ((0:Int)=(↑g_1.i:Int)))/\True)/\z2/\(True/\True)/\(A ((0:Nat)=g_1.L.length)/\∀ i:Nat,i<g_1.L.length->((True/\False)/\False)/\False)/\True)/\∀ g_1:JoG,let z6:=(↑g_1.i:Int);let z1:=(rI (Rgf.srt g) z6.toNat);let z4:=(AdG.mk g_1.L.length (rI g_1.L) z1); (by0 g).pre g_1->True/\Br (decide (z6<(↑g.n:Int))) (A ((0:Int)<=z6/\z6<(↑g.n:Int))/\A (z6.toNat<g.n)/\True/\True/\True/\True/\True/\True/\True/\True/\((True/\(A z9/\(q0 z1.y)/\(q0 z1.x0)/\(q0 z1.x1)/\True)/\(True/\True)/\(A (g_1.L.length=g_1.L.length)/\∀ i:Nat,let z7:=(rI g_1.L i); i<g_1.L.length->((True/\q0 z7.y)/\q0 z7.x0)/\q0 z7.x1)/\True)/\A (g_1.L.length<=(4294967296:Nat)))/\A ((-9223372036854775808:Int)<=z6+(1:Int)/\z6+(1:Int)<=(9223372036854775807:Int))/\True/\∃ (g':JoG),A ((by0 g).pre g')/\((A z9/\True/\z8/\(A z0/\A (z6+(1:Int)=(↑g'.i:Int)))/\True)/\z2/\(True/\True)/\(A (z4.L.length=g'.L.length)/\∀ i:Nat,i<g'.L.length->((True/\A z0/\A ((rI z4.L i).y=(rI g'.L i).y))/\A z0/\A ((rI z4.L i).x0=(rI g'.L i).x0))/\A z0/\A ((rI z4.L i).x1=(rI g'.L i).x1))/\True)/\A ((by0 g).meas g'<(by0 g).meas g_1)) (True/\True/\True/\True/\A (g_1.L.length=(av8 g).length)/\∀ i:Nat,let z10:=(rI (av8 g) i); i<(av8 g).length->((True/\A z0/\A ((rI g_1.L i).y=z10.y))/\A z0/\A ((rI g_1.L i).x0=z10.x0))/\A z0/\A ((rI g_1.L i).x1=z10.x1))) ?_;simp only [cln];obtain ⟨h0,hok,hn⟩:=hg;have hmem:∀ k,k<g.n->rI (srt g) k∈srt g:=fun k hk=>by
  unfold rI;rw [la,lw (by rw [aq4]; exact hk)];exact xA _
 have oks:∀ k,k<g.n->okR (rI (srt g) k):=fun k hk=>by
  obtain ⟨j,hj,e⟩:=xi.1 ((al0 g).mem_iff.1 (hmem k hk));rw [<-e];exact hok j (lH.1 hj)
 have srt':∀ j k,j<k->k<g.n->le0 (rI (srt g) j) (rI (srt g) k):=fun j k hjk hk=>by
  have h:=au3 g hjk hk;rw [at0] at h;obtain ⟨⟨⟨a1,a2⟩,⟨a3,a4⟩,_⟩,_⟩:=oks j (by omega);obtain ⟨⟨⟨b1,b2⟩,⟨b3,b4⟩,_⟩,_⟩:=oks k hk;rw [ar3 a1 (by omega),ar3 a3 a4,ar3 b1 (by omega),ar3 b3 b4] at h;unfold le0;omega
 refine ⟨⟨h0,by omega⟩,⟨hok,by omega⟩,⟨⟨0,[]⟩,a14 _ _,rfl,rfl,fun k hk=>absurd hk (ln _)⟩,fun s P=>⟨fun hlt=>?_,fun hge=>?_⟩⟩
 ·have P:JoP (rI (srt g)) g.n s.i s.L:=P;have hlt:s.i<g.n:=by omega
  have hl:=bnd P.hL;have z:((s.i:Int)).toNat=s.i:=rfl;rw [z,addL];refine ⟨by omega,hlt,hl,by omega,⟨s.i+1,addR s.L (rI (srt g) s.i)⟩,bk5 oks srt' P hlt,⟨rfl,rfl,fun k _=>⟨⟨rfl,rfl⟩,rfl⟩⟩,?_⟩;show g.n-(s.i+1)<g.n-s.i;omega
 ·have P:JoP (rI (srt g)) g.n s.i s.L:=P;have hi:=P.hi;have e:s.i=g.n:=by omega
  have hm:=P.hm;rw [e] at hm;have es:Lf (rI (srt g)) g.n=srt g:=by rw [<-aq4 g]; exact ce6 _
  have eo:av8 g=s.L:=aK1 P.hL (fun y x=>by rw [hm,es]; exact mem_congr (fun r=>(al0 g).mem_iff) y x);rw [eo];exact ⟨rfl,fun k _=>⟨⟨rfl,rfl⟩,rfl⟩⟩
def b67:FSpec:=ab0 50 (γ:=Nat->Rn) (fun | [s]=>some (rgD s) | _=>none) (fun f=>[em f]) (fun _=>True) (fun _=>em (fun _=>⟨0,0,0⟩))
theorem bS3:aa7 Tw.prog b67:=by
 refine ssW (specs:=[bo8,bE2]) (⟨bH8,bS0,trivial⟩) Tw.func50 (fun g=>(⟨[(5,.rounds 1)],[(4,[.ownC 0 0 48 3])]⟩:Ann)) ?_;rintro g hg;refine ad5 (B:=let A:=Aq;let z1:=(IntKind.i64=IntKind.i64);let q1:=fun p:Int=>A z1/\A (p=p);let z0:=(A ((0:Nat)=(0:Nat))/\∀ i:Nat,i<(0:Nat)->((True/\q1 ((g i).y))/\q1 ((g i).x0))/\q1 ((g i).x1));True/\True/\((z0/\True)/\A True)/\True/\True/\((z0/\(A ((77:Nat)=(77:Go.FuncId))/\True)/\True)/\A True)/\True/\True/\True/\True/\True/\True/\True/\True/\True/\A ((0:Nat)=(0:Nat))/\∀ i:Nat,i<(0:Nat)->((True/\False)/\False)/\False) ?_;simp only [cln];exact fun i hi=>absurd hi (ln _)
theorem bD8 {P:Program}{f:FuncId}{γ γ0:Type}{dec:List SV->Option γ}{args:γ->List SV}{pre pre1:γ->Prop}{res:γ->SV}{dec0:List SV->Option γ0}{args0:γ0->List SV}{pre0:γ0->Prop}{res0:γ0->SV}
  (h1:aa7 P (ab0 f dec args pre1 res)) (h0:aa7 P (ab0 f dec0 args0 pre0 res0))
  (hc:∀ g,pre g->pre1 g\/∃ g0,dec0 (args0 g0)=some g0/\aV7 (args0 g0)/\(args0 g0).all (ac4 6)=true/\pre0 g0/\args g=args0 g0/\res g=res0 g0):aa7 P (ab0 f dec args pre res):=by
 refine ⟨h1.1,fun args H HF nm y _ _ h=>h,fun l H nm y hrun hp w0 X0 E w hrep hf vals ha=>?_⟩;simp only [ab0] at hrun;split at hrun
 case h_2=>cases hrun
 rename_i hpu;split at hrun
 case h_2=>cases hrun
 rename_i g hdec;cases hrun;obtain ⟨hle,⟨hpre⟩⟩:=hp;rcases hc g hpre with h | ⟨g0,e1,e2,e3,e4,e5,e6⟩
 ·refine h1.2.2 l H nm ⟨ab0.leArgs l (args g)/\Aq (pre1 g),res g,.keep⟩ ?_ ⟨hle,⟨h⟩⟩ w0 X0 E w hrep hf vals ha;simp only [ab0,hpu,hdec]
 ·obtain ⟨hll,hle⟩:=al7 hle;have hr:=aC7 ha hpu;have hsz:=ha.1;have h:=h0.2.2 (args0 g0) H nm ⟨ab0.leArgs (args0 g0) (args0 g0)/\Aq (pre0 g0),res0 g0,.keep⟩ (by simp only [ab0,e3,e1]) ⟨ax8 e2,⟨e4⟩⟩ w0 X0 E w hrep hf vals
   ⟨by rw [<-e5]; omega,fun i hi=>by
    rw [<-e5] at hi ⊢;exact up (bw0 (fun _ hb=>hb) (hle i hi) (hr i (by omega)))⟩
  rw [e6];exact h
theorem bI1 (f:Nat->Rn):av8 ⟨0,f⟩=[]:=aK1 ar8 (fun _ _=>rfl)
noncomputable def bE5:FSpec:=ab0 50 (γ:=Rg) (fun | [s]=>some ⟨aj5 s,rgD s⟩ | _=>none) (fun g=>[rgS g]) joOk (fun g=>ax0 (av8 g))
theorem bH5:aa7 Tw.prog bE5:=by
 refine bD8 bS2 bS3 (fun g hg=>?_);rcases xy g.n with h | h
 ·obtain ⟨n,f⟩:=g;have h:n=0:=h;subst h;exact .inr ⟨f,rfl,⟨fun i j=>bc7 (l:=rnL (f i)) ⟨trivial,trivial,trivial,trivial⟩ j,trivial⟩,rfl,trivial,rfl,by rw [bI1]; rfl⟩
 ·exact .inl ⟨h,hg⟩
end Rgg
namespace Som
open Rgg
open Go.RowKit Sx Num Aff Con Rga Rgl Rgm Rgn Rgc Gat Gar Ows Apl Apt
structure InG where
 ink:Nat
 least:Int
def inF (h:InG):SV:= .fn 31 2 (lst [.ref 1 (lst [.int .i64 h.ink]),.ref 1 (lst [.int .i64 h.least])])
def has (h:InG) (v:Vec):Bool:=decide (h.least<=v h.ink)
def spI1:FSpec:=ab0 31 (γ:=InG×Vec) (fun | [s,.ref _ a,.ref _ b]=>some (⟨(Sx.intOf (a 0)).toNat,Sx.intOf (b 0)⟩,vcD s) | _=>none)
 (fun g=>[vcS g.2,.ref 1 (lst [.int .i64 g.1.ink]),.ref 1 (lst [.int .i64 g.1.least])]) (fun g=>g.1.ink<8/\0<=g.2 g.1.ink/\g.2 g.1.ink<=255) (fun g=> .bool (has g.1 g.2))
theorem b92:aa7 Tw.prog spI1:=by
 refine ssW (specs:=[]) trivial Tw.func31 (fun g=>A0) ?_;rintro ⟨h,v⟩ hh;refine ad5 (B:=let z0:=((0:Nat)+(↑h.ink:Int).toNat*(1:Nat));True/\True/\True/\Aq ((0:Int)<=(↑h.ink:Int)/\(↑h.ink:Int)<(↑(8:Nat):Int))/\Br (decide ((0:Nat)+(↑h.ink:Int).toNat*(1:Nat)+(1:Nat)<=(8:Nat))) True False/\Aq ((-9223372036854775808:Int)<=v z0/\v z0<=(9223372036854775807:Int))/\True/\True/\True/\True/\Aq (decide (h.least<=v z0)=has h v)) ?_;simp only [cln,lF,lS];have hh:h.ink<8/\0<=v h.ink/\v h.ink<=255:=hh;exact ⟨by omega,fun hc=>by omega,by omega,rfl⟩
def sel (b:Vec->Bool) (P:Pcs):Nat->List Rn
 | 0=>[]
 | k+1=>if b (P.ink k)=true then sel b P k++Lf (P.p k) (P.m k) else sel b P k
def rowR (n:Nat) (f:Nat->Rn):SO:= .row 0 n 3 (fun i=>lst (rnL (f i))) 48
structure SmOk (b:Vec->Bool) (P:Pcs):Prop where
 ok:∀ r∈sel b P P.n,okR r
 tot:∀ k,k<=P.n->(sel b P k).length<=100000000
 n:P.n<=4096
def smI (F:SV) (b:Vec->Bool) (P:Pcs):Inv:=⟨Nat,fun k=>k<=P.n,fun k=>⟨[(1,F),(5,.osl 0 0),(8,pcS P),(9,.int .i64 P.n),(10,.int .i64 k)],[rowR (sel b P k).length (rI (sel b P k))]⟩,fun k=>P.n-k⟩
noncomputable def smR (b:Vec->Bool) (P:Pcs):List Rn:=av8 ⟨(sel b P P.n).length,rI (sel b P P.n)⟩
theorem aZ8 {b:Vec->Bool}{P:Pcs}{k:Nat}(hb:b (P.ink k)=true):sel b P (k+1)=sel b P k++Lf (P.p k) (P.m k):=by show (if _ then _ else _)=_; rw [lm hb]
theorem aZ9 {b:Vec->Bool}{P:Pcs}{k:Nat}(hb:¬ b (P.ink k)=true):sel b P (k+1)=sel b P k:=by show (if _ then _ else _)=_; rw [lr hb]
theorem b77 (L:List Rn) (f:Nat->Rn) (n i:Nat) (hi:i<(L++Lf f n).length):rI (L++Lf f n) i=bif decide (i<L.length) then rI L i else f (i-L.length):=by
 rw [lx,aw3] at hi;unfold rI;rw [la,la];by_cases h:i<L.length
 ·rw [lj h,xe h]; rfl
 ·rw [lg h,lQ (by omega)];have:=aX5 f (n:=n) (i:=i-L.length) (by omega)
  unfold rI at this;rw [la] at this;exact this
theorem bF0 {L M:List Rn}(h:L=M):L.length=M.length/\∀ i,i<M.length->((rI L i).y=(rI M i).y/\(rI L i).x0=(rI M i).x0)/\(rI L i).x1=(rI M i).x1:=by
 subst h;exact ⟨rfl,fun _ _=>⟨⟨rfl,rfl⟩,rfl⟩⟩
theorem ci1 {b:Vec->Bool}{P:Pcs}{k:Nat}(hb:b (P.ink k)=true):(sel b P k).length+P.m k=(sel b P (k+1)).length/\∀ i,i<(sel b P (k+1)).length->
  ((bif decide (i<(sel b P k).length) then (rI (sel b P k) i).y else (P.p k (i-(sel b P k).length)).y)=(rI (sel b P (k+1)) i).y/\
   (bif decide (i<(sel b P k).length) then (rI (sel b P k) i).x0 else (P.p k (i-(sel b P k).length)).x0)=(rI (sel b P (k+1)) i).x0)/\
   (bif decide (i<(sel b P k).length) then (rI (sel b P k) i).x1 else (P.p k (i-(sel b P k).length)).x1)=(rI (sel b P (k+1)) i).x1:=by
 rw [aZ8 hb];refine ⟨by rw [lx,aw3],fun i hi=>?_⟩;rw [b77 _ _ _ _ hi];cases decide (i<(sel b P k).length)<;>exact ⟨⟨rfl,rfl⟩,rfl⟩
theorem ci0 {b:Vec->Bool}{P:Pcs}(h:SmOk b P):joOk ⟨(sel b P P.n).length,rI (sel b P P.n)⟩:=by
 refine ⟨fun i hi=>h.ok _ ?_,h.tot _ (lf _)⟩;show rI (sel b P P.n) i∈_;unfold rI;rw [la,lw hi];exact xA hi
structure SiG where
 P:Pcs
 h:InG
def siDec:List SV->Option SiG
 | [s,.fn _ _ c]=>match c 0,c 1 with
  | .ref _ a,.ref _ b=>some ⟨pcD s,⟨(Sx.intOf (a 0)).toNat,Sx.intOf (b 0)⟩⟩
  | _,_=>none
 | _=>none
noncomputable def bX4:FSpec:=ab0 30 (γ:=SiG) siDec (fun g=>[pcS g.P,inF g.h])
 (fun g=>SmOk (has g.h) g.P/\g.h.ink<8/\∀ k,k<g.P.n->0<=g.P.ink k g.h.ink/\g.P.ink k g.h.ink<=255) (fun g=>ax0 (smR (has g.h) g.P))
theorem bY8 (P:Pcs) (k j:Nat):Sx.intOf (pcC P k (1+j))=P.ink k j:=by rw [Nat.add_comm]; rfl
theorem b83 (P:Pcs) (k:Nat):(fun j=>Sx.intOf (pcC P k (1+j)))=P.ink k:=funext fun j=>bY8 P k j
theorem b87:aa7 Tw.prog bX4:=by
 refine ssW (specs:=[spI1,giv bE5]) (⟨b92,aH6 bH5,trivial⟩) Tw.func30 (fun g=>(⟨[(3,.inv (smI (inF g.h) (has g.h) g.P))],[(2,[.own 5 48 3])]⟩:Ann)) ?_;rintro ⟨P,h⟩ ⟨hP,hi,hv⟩;refine ad5 (B:=let A:=Aq;let z17:=(0:Nat);let z16:=(smR (has h) P);let z11:=(↑h.ink:Int);let z6:=(smI (inF h) (has h) P);let z4:=(IntKind.u8=IntKind.u8);let q4:=fun p:Int=>A z4/\A (p=p);let z1:=(IntKind.i64=IntKind.i64);let q1:=fun p:Int=>A z1/\A (p=p);let z8:=(q1 ((↑P.n:Int)));let z3:=(A ((31:Go.FuncId)=(31:Go.FuncId))/\(True/\True/\q1 z11)/\True/\q1 h.least);let z0:=(A (P.n=P.n)/\∀ i:Nat,i<P.n->(chp (True/\A (P.m i=P.m i)/\∀ i_1:Nat,let z18:=(P.p i i_1); i_1<P.m i->((True/\q1 z18.y)/\q1 z18.x0)/\q1 z18.x1) (fun j:Nat=>q4 (P.ink i j)) 7)/\q4 (P.ink i (7:Nat)));True/\True/\True/\True/\True/\(∃ g:Nat,A (z6.pre g)/\(z3/\True/\z0/\z8/\(A z1/\A ((0:Int)=(↑g:Int)))/\True)/\(A (z17=(sel (has h) P g).length)/\∀ i:Nat,i<(sel (has h) P g).length->((True/\False)/\False)/\False)/\True)/\∀ g:Nat,let z5:=(↑g:Int);let z10:=(pcC P z5.toNat (z17+(z17+(1:Nat)+z11.toNat)));let z9:=((-9223372036854775808:Int)<=z5+(1:Int)/\z5+(1:Int)<=(9223372036854775807:Int));let z2:=(sel (has h) P g);let z7:=(av8 (Rg.mk z2.length (rI z2))); z6.pre g->True/\Br (decide (z5<(↑P.n:Int))) (A ((0:Int)<=z5/\z5<(↑P.n:Int))/\True/\True/\True/\True/\True/\True/\(((chp True (fun j:Nat=>q4 (P.ink z5.toNat j)) 8)/\(True/\A z1/\A (z11=(↑z11.toNat:Int)))/\(True/\q1 h.least)/\True)/\A (z11.toNat<(8:Nat)/\(0:Int)<=Sx.intOf z10/\Sx.intOf z10<=(255:Int)))/\Br (has (InG.mk z11.toNat h.least) fun (j:Nat)=>Sx.intOf (pcC P z5.toNat (z17+(z17+(1:Nat)+j)))) (True/\True/\True/\A (z2.length+P.m z5.toNat<=(9223372036854775807:Nat)/\(z2.length+P.m z5.toNat)*(24:Nat)<=(140737488355328:Nat))/\True/\A z9/\True/\∃ (g':Nat),let z12:=(sel (has h) P g'); A (z6.pre g')/\((z3/\True/\z0/\z8/\(A z1/\A (z5+(1:Int)=(↑g':Int)))/\True)/\(A (z2.length+P.m z5.toNat=z12.length)/\∀ i:Nat,let z14:=(P.p z5.toNat (i-z2.length)); i<z12.length->((True/\A z1/\A ((bif decide (i<z2.length) then (rI z2 i).y else z14.y)=(rI z12 i).y))/\A z1/\A ((bif decide (i<z2.length) then (rI z2 i).x0 else z14.x0)=(rI z12 i).x0))/\A z1/\A ((bif decide (i<z2.length) then (rI z2 i).x1 else z14.x1)=(rI z12 i).x1))/\True)/\A (z6.meas g'<z6.meas g)) (A z9/\True/\∃ (g':Nat),let z13:=(sel (has h) P g'); A (z6.pre g')/\((z3/\True/\z0/\z8/\(A z1/\A (z5+(1:Int)=(↑g':Int)))/\True)/\(A (z2.length=z13.length)/\∀ i:Nat,i<z13.length->((True/\A z1/\A ((rI z2 i).y=(rI z13 i).y))/\A z1/\A ((rI z2 i).x0=(rI z13 i).x0))/\A z1/\A ((rI z2 i).x1=(rI z13 i).x1))/\True)/\A (z6.meas g'<z6.meas g))) (True/\(((A (z2.length=z2.length)/\∀ i:Nat,let z15:=(rI z2 i); i<z2.length->((True/\q1 z15.y)/\q1 z15.x0)/\q1 z15.x1)/\True)/\A (joOk (Rg.mk z2.length (rI z2))))/\True/\True/\A (z7.length=z16.length)/\∀ i:Nat,i<z16.length->((True/\A z1/\A ((rI z7 i).y=(rI z16 i).y))/\A z1/\A ((rI z7 i).x0=(rI z16 i).x0))/\A z1/\A ((rI z7 i).x1=(rI z16 i).x1))) ?_;simp only [chp];simp only [cln,lF,lS];simp only [b83,bY8];have hP:SmOk (has h) P:=hP;have hn:=hP.n;refine ⟨⟨0,lC _,rfl,rfl,fun i hi=>absurd hi (ln _)⟩,fun k hk=>⟨fun hlt=>⟨by omega,⟨hi,hv k (by show k<P.n; omega)⟩,fun hb=>?_,fun hb=>?_⟩,fun hge=>?_⟩⟩
 ·have hadd:=ci1 (b:=has h) (P:=P) (k:=k) hb;have ht:=hP.tot (k+1) (by omega);exact ⟨by omega,by omega,k+1,by show k+1<=P.n; omega,⟨by omega,hadd⟩,by show P.n-(k+1)<P.n-k; omega⟩
 ·exact ⟨by omega,k+1,by show k+1<=P.n; omega,⟨by omega,bF0 (aZ9 (by rw [hb]; decide)).symm⟩,by show P.n-(k+1)<P.n-k; omega⟩
 ·have hkn:k=P.n:=by have:k<=P.n:=hk; omega
  subst hkn;exact ⟨ci0 hP,bF0 rfl⟩
theorem aM9 {b:Vec->Bool}{P:Pcs}{r:Rn}:∀ {n},r∈sel b P n<->∃ k i,k<n/\b (P.ink k)=true/\i<P.m k/\r=P.p k i
 | 0=>⟨fun h=>(xf h).elim,fun ⟨_,_,h,_⟩=>absurd h (ln _)⟩
 | n+1=>by
  have mL:∀ {k},r∈Lf (P.p k) (P.m k)<->∃ i,i<P.m k/\r=P.p k i:=fun {k}=>by
   unfold Lf;rw [xi];exact ⟨fun ⟨i,h,e⟩=>⟨i,lH.1 h,e.symm⟩,fun ⟨i,h,e⟩=>⟨i,lH.2 h,e.symm⟩⟩
  by_cases hb:b (P.ink n)=true
  ·rw [aZ8 hb,xZ,aM9,mL];constructor
   ·rintro (⟨k,i,h1,h2⟩ | ⟨i,h1,h2⟩)
    ·exact ⟨k,i,by omega,h2⟩
    ·exact ⟨n,i,by omega,hb,h1,h2⟩
   ·rintro ⟨k,i,h1,h2,h3,h4⟩;by_cases hk:k=n
    ·subst hk; exact .inr ⟨i,h3,h4⟩
    ·exact .inl ⟨k,i,by omega,h2,h3,h4⟩
  ·rw [aZ9 hb,aM9];constructor
   ·rintro ⟨k,i,h1,h2⟩; exact ⟨k,i,by omega,h2⟩
   ·rintro ⟨k,i,h1,h2,h3⟩;refine ⟨k,i,?_,h2,h3⟩;have:k≠n:=fun hc=>by subst hc; exact hb h2
    omega
theorem bF3 {b:Vec->Bool}{P:Pcs}:∀ k,(sel b P k).length<=(al P k).length
 | 0=>lf _
 | k+1=>by
  have ih:=bF3 (b:=b) (P:=P) k;show _<=(al P k++alr P k (P.m k)).length;rw [lx,am7];by_cases hb:b (P.ink k)=true
  ·rw [aZ8 hb,lx,aw3]; omega
  ·rw [aZ9 hb]; omega
theorem ch9 {P:Pcs}(h:PcOK P) (b:Vec->Bool):SmOk b P where
 ok r hr:=by
  obtain ⟨k,i,h1,_,h2,rfl⟩:=aM9.1 hr;exact (h.v k h1).1 _ (ay3 h2)
 tot k hk:=lW (bF3 k) (lW (a90 P k P.n hk) h.tot)
 n:=h.n
structure IkG where
 w:Nat
 h:Nat
 P:Pcs
 i:InG
structure IkG.Ok (g:IkG):Prop where
 c:ChG.Ok ⟨g.w,g.h,g.P⟩
 ink:g.i.ink<8
 least:1<=g.i.least/\g.i.least<=255
 v:∀ k,k<g.P.n->0<=g.P.ink k g.i.ink/\g.P.ink k g.i.ink<=255
noncomputable def ch3:FSpec:=ab0 14 (γ:=IkG) (fun | [.int _ w,.int _ h,s,.int _ i,.int _ l]=>some ⟨w.toNat,h.toNat,pcD s,i.toNat,l⟩ | _=>none) (fun g=>[.int .i64 g.w,.int .i64 g.h,pcS g.P,.int .i64 g.i.ink,.int .i64 g.i.least]) IkG.Ok (fun g=>okP (ax0 (smR (has g.i) g.P)))
theorem cl5:aa7 Tw.prog ch3:=by
 refine ssW (specs:=[aJ8,giv bX4]) (⟨aN5,aH6 b87,trivial⟩) Tw.func14 (fun g=>A0) ?_;rintro g hg;refine ad5 (B:=let A:=Aq;let z8:=((3:Int)=(0:Int));let z5:=(↑g.i.ink:Int);let z4:=(smR (has g.i) g.P);let z6:=(True/\A (z4.length=(0:Nat)));let z3:=(IntKind.u8=IntKind.u8);let q3:=fun p:Int=>A z3/\A (p=p);let z2:=(has (InG.mk z5.toNat g.i.least));let z1:=(IntKind.i64=IntKind.i64);let q1:=fun p:Int=>A z1/\A (p=p);let z0:=(A (g.P.n=g.P.n)/\∀ i:Nat,i<g.P.n->(chp (True/\A (g.P.m i=g.P.m i)/\∀ i_1:Nat,let z7:=(g.P.p i i_1); i_1<g.P.m i->((True/\q1 z7.y)/\q1 z7.x0)/\q1 z7.x1) (fun j:Nat=>q3 (g.P.ink i j)) 7)/\q3 (g.P.ink i (7:Nat)));True/\True/\True/\True/\True/\True/\True/\(((A z1/\A ((↑g.w:Int)=(↑(↑g.w:Int).toNat:Int)))/\(A z1/\A ((↑g.h:Int)=(↑(↑g.h:Int).toNat:Int)))/\z0/\True)/\A (ChG.mk (↑g.w:Int).toNat (↑g.h:Int).toNat g.P).Ok)/\True/\True/\True/\True/\True/\True/\True/\True/\True/\True/\Br (decide ((8:Int)<=z5)) (True/\True/\True/\True/\True/\True/\z6/\A z1/\A z8) (True/\True/\True/\True/\Br (decide (g.i.least<(1:Int))) (True/\True/\True/\True/\z6/\A z1/\A z8) (True/\True/\True/\Br (decide ((255:Int)<g.i.least)) (True/\True/\True/\z6/\A z1/\A z8) (True/\True/\((z0/\(A ((31:Nat)=(31:Go.FuncId))/\(True/\True/\A z1/\A (z5=(↑z5.toNat:Int)))/\True/\q1 g.i.least)/\True)/\A (SmOk z2 g.P/\z5.toNat<(8:Nat)/\∀ k:Nat,k<g.P.n->(0:Int)<=g.P.ink k z5.toNat/\g.P.ink k z5.toNat<=(255:Int)))/\True/\True/\True/\(True/\A ((smR z2 g.P).length=z4.length)/\∀ i:Nat,let z9:=(rI (smR z2 g.P) i); i<z4.length->((True/\A z1/\A (z9.y=(rI z4 i).y))/\A z1/\A (z9.x0=(rI z4 i).x0))/\A z1/\A (z9.x1=(rI z4 i).x1))/\q1 ((0:Int)))))) ?_;simp only [chp];simp only [cln,lF,lS];have h1:=hg.ink;have h2:=hg.least;exact ⟨hg.c,fun h=>by omega,fun _=>⟨fun h=>by omega,fun _=>⟨fun h=>by omega,fun _=>⟨ch9 hg.c.P _,h1,hg.v⟩⟩⟩⟩
end Som
namespace Rgh
open Go.RowKit Sx Num Aff Con Rga Rgl Rgm Rgn Rgb Rgc Rgf Rgg
structure PoG where
 n:Nat
 f:Nat->Pt
def ptR (p:Pt):Rn:=⟨p.y,p.x,p.x+1⟩
def PoG.r (g:PoG):Rg:=⟨g.n,fun i=>ptR (g.f i)⟩
structure NrG where
 g:Rg
 m:Int
def NrG.x (h:NrG) (i:Nat):Int:=cutI (h.g.f i).x0 (-h.m) h.m
def NrG.y (h:NrG) (i:Nat):Int:=cutI (h.g.f i).y (-h.m) h.m
def NrG.w (h:NrG) (i:Nat):Int:=cutI (h.g.f i).x1 1 12
def NrG.pt (h:NrG) (i k:Nat):Pt:=⟨if h.x i+k<h.m then h.x i+k else h.m,h.y i⟩
def NrG.in' (h:NrG) (i k:Nat):List Pt:=(List.range k).map (h.pt i)
def NrG.L (h:NrG):Nat->List Pt
 | 0=>[]
 | i+1=>h.L i++h.in' i (h.w i).toNat
def pI (L:List Pt) (k:Nat):Pt:=L.getD k ⟨0,0⟩
def NrG.ok (h:NrG):Prop:=(1<=h.m/\h.m<=1000)/\h.g.n<=9223372036854775807
def NrG.o (h:NrG):PoG:=⟨(h.L (min h.g.n 30)).length,pI (h.L (min h.g.n 30))⟩
end Rgh
namespace Rgo
open Rga Rgl Rgm Rgn Rgb Rgf Rgg Rgh
theorem co8 {g:CbG}{K:Bool->Bool->Bool}(ha:vld g.a.L) (hb:vld g.b.L) (hK:K false false=false):∀ (m:Nat) (s:CsG),CbP g K s->2*g.a.n+2*g.b.n-s.i-s.j=m->∃ s',CbP g K s'/\s'.i=2*g.a.n/\s'.j=2*g.b.n:=by
 intro m;induction m with
 | zero=>
  intro s P h;have h1:=P.hi;have h2:=P.hj;exact ⟨s,P,by omega,by omega⟩
 | succ m ih=>
  intro s P h;have h1:=P.hi;have h2:=P.hj;by_cases hA:s.i<2*g.a.n/\(s.j<2*g.b.n->le2 (eY g.a.f s.i) (eX g.a.f s.i) (eY g.b.f s.j) (eX g.b.f s.j))
  ·exact ih _ (bs3 ha hb hK P hA.1 hA.2) (by show 2*g.a.n+2*g.b.n-(s.i+1)-s.j=m; omega)
  ·have hj:s.j<2*g.b.n:=by
    refine ly fun hc=>hA ⟨by omega,fun h=>absurd h hc⟩
   have hle:s.i<2*g.a.n->le2 (eY g.b.f s.j) (eX g.b.f s.j) (eY g.a.f s.i) (eX g.a.f s.i):=fun hi=>by
    by_cases hc:le2 (eY g.a.f s.i) (eX g.a.f s.i) (eY g.b.f s.j) (eX g.b.f s.j)
    ·exact absurd ⟨hi,fun _=>hc⟩ hA
    ·omega
   exact ih _ (bs2 ha hb hK P hj hle) (by show 2*g.a.n+2*g.b.n-s.i-(s.j+1)=m; omega)
theorem b22 {g:CbG}{K:Bool->Bool->Bool}(ha:vld g.a.L) (hb:vld g.b.L) (hK:K false false=false) (y x:Int):mem (ao0 K g) y x=K (mem g.a.L y x) (mem g.b.L y x):=by
 obtain ⟨s,P,hi,hj⟩:=co8 ha hb hK _ _ (bs4 g K) rfl;have hm:=P.hm;have h0:=P.h0;rw [show ao0 K g=s.L from b23 ha hb hK P hi hj];have c1:=P.c1; have c2:=P.c2;rw [hi] at c1 hm h0;rw [hj] at c2 hm h0;have e0:∀ n:Nat,odd (2*n)=false:=fun n=>lg (by omega)
 have par:(0<2*g.a.n+2*g.b.n->le2 s.from'.y s.from'.x y x)->K (mem g.a.L y x) (mem g.b.L y x)=false:=fun h1=>by
  rw [aV4 ha (lf _) (fun h=>by have:=c1 h; have:=h1 (by omega); omega) (fun h=>absurd h (xr _)),aV4 hb (lf _) (fun h=>by have:=c2 h; have:=h1 (by omega); omega) (fun h=>absurd h (xr _)),e0,e0,hK]
 rcases xy (2*g.a.n+2*g.b.n) with h | h
 ·rw [h0 h,par (fun h'=>by omega)]; rfl
 ·rw [hm h];by_cases d:lt2 y x s.from'.y s.from'.x
  ·rw [lj d,Bool.true_and]
  ·rw [lg d,par (fun _=>by omega)]; rfl
theorem b11 {f:Nat->Rn}{n:Nat}(ok:∀ k,k<n->okR (f k)) (srt:∀ j k,j<k->k<n->le0 (f j) (f k)):∀ i,i<=n->∃ L,JoP f n i L
 | 0,_=>⟨[],a14 f n⟩
 | i+1,h=>by
  obtain ⟨L,P⟩:=b11 ok srt i (by omega);exact ⟨_,bk5 ok srt P h⟩
theorem b12 {g:Rg}(hok:∀ i,i<g.n->okR (g.f i)) (y x:Int):mem (av8 g) y x=mem g.L y x:=by
 have hmem:∀ k,k<g.n->rI (srt g) k∈srt g:=fun k hk=>by
  unfold rI;rw [la,lw (by rw [aq4]; exact hk)];exact xA _
 have oks:∀ k,k<g.n->okR (rI (srt g) k):=fun k hk=>by
  obtain ⟨j,hj,e⟩:=xi.1 ((al0 g).mem_iff.1 (hmem k hk));rw [<-e];exact hok j (lH.1 hj)
 have srt':∀ j k,j<k->k<g.n->le0 (rI (srt g) j) (rI (srt g) k):=fun j k hjk hk=>by
  have h:=au3 g hjk hk;rw [at0] at h;obtain ⟨⟨⟨a1,a2⟩,⟨a3,a4⟩,_⟩,_⟩:=oks j (by omega);obtain ⟨⟨⟨b1,b2⟩,⟨b3,b4⟩,_⟩,_⟩:=oks k hk;rw [ar3 a1 (by omega),ar3 a3 a4,ar3 b1 (by omega),ar3 b3 b4] at h;unfold le0;omega
 obtain ⟨L,P⟩:=b11 oks srt' g.n (lf _);have es:Lf (rI (srt g)) g.n=srt g:=by rw [<-aq4 g]; exact ce6 _
 have e:∀ y x,mem L y x=mem g.L y x:=fun y x=>by rw [P.hm,es]; exact mem_congr (fun r=>(al0 g).mem_iff) y x
 rw [show av8 g=L from aK1 P.hL e];exact e y x
noncomputable def nr (m:Int) (g:Rg):List Rn:=av8 (NrG.o ⟨g,m⟩).r
end Rgo
namespace Dil
open Rgc Rgg
open Go.RowKit Sx Num Aff Con Rga Rgl Rgm Rgn Rgb Rgo
structure DiG where
 g:Rg
 w:Nat
def wid (w:Nat) (r:Rn):Rn:=⟨r.y,r.x0-w,r.x1+w⟩
structure Boxed (g:Rg):Prop where
 v:vld g.L
 b:∀ i,i<g.n->(-1000<=(g.f i).y/\(g.f i).y<=1000)/\ -1000<=(g.f i).x0/\(g.f i).x1<=1000
def DiG.W (h:DiG):Nat->List Rn
 | 0=>[]
 | i+1=>addR (h.W i) (wid h.w (h.g.f i))
structure DiG.Ok (h:DiG):Prop where
 g:Boxed h.g
 w:h.w<=64
def DiG.q (h:DiG):Nat:=2*h.w+1
def DiG.V (h:DiG):List Rn:=h.W h.g.n
def DiG.R (h:DiG) (k:Nat):Rn:=⟨(rI h.V (k / h.q)).y-h.w+((k % h.q:Nat):Int),(rI h.V (k / h.q)).x0,(rI h.V (k / h.q)).x1⟩
noncomputable def DiG.o (h:DiG):List Rn:=av8 ⟨h.V.length*h.q,h.R⟩
theorem DiG.jo {h:DiG}(hh:h.Ok):∀ i,i<=h.g.n->JoP (fun k=>wid h.w (h.g.f k)) h.g.n i (h.W i)
 | 0,_=>a14 _ _
 | i+1,hi=>by
  refine bk5 (fun k hk=>?_) (fun j k hjk hk=>?_) (DiG.jo hh i (by omega)) hi
  ·have h1:=hh.g.b k hk;have h2:=hh.w;have h3:=(bk0 hh.g.v hk).2;unfold wid okR;show ((-8192<=(h.g.f k).y/\(h.g.f k).y<8192)/\(-8192<=(h.g.f k).x0-(h.w:Int)/\(h.g.f k).x0-(h.w:Int)<=8192)/\ -8192<=(h.g.f k).x1+(h.w:Int)/\(h.g.f k).x1+(h.w:Int)<=8192)/\(h.g.f k).x0-(h.w:Int)<(h.g.f k).x1+(h.w:Int);omega
  ·have h1:=ca2 hh.g.v hjk hk;have h3:=(bk0 hh.g.v (show j<h.g.n by omega)).2;unfold ltR at h1;show (h.g.f j).y<(h.g.f k).y\/((h.g.f j).y=(h.g.f k).y/\(h.g.f j).x0-(h.w:Int)<=(h.g.f k).x0-(h.w:Int));omega
theorem aD0 (L:List Rn) (r:Rn):(addR L r).length<=L.length+1:=by
 rcases aj7 L with rfl | ⟨P,s,rfl⟩
 ·rw [add_nil]; split<;>simp
 ·rw [av3];split
  ·split<;>simp
  ·exact uG _
theorem DiG.ce0 (h:DiG):∀ i,(h.W i).length<=i
 | 0=>lf _
 | i+1=>by
  have h1:=aD0 (h.W i) (wid h.w (h.g.f i));have h2:=DiG.ce0 h i;show (addR (h.W i) (wid h.w (h.g.f i))).length<=i+1;omega
theorem DiG.bV9 {h:DiG}(hh:h.Ok) {y x:Int}:mem h.V y x=true<->∃ i,i<h.g.n/\(h.g.f i).y=y/\(h.g.f i).x0-h.w<=x/\x<(h.g.f i).x1+h.w:=by
 rw [show mem h.V y x=mem (Lf (fun k=>wid h.w (h.g.f k)) h.g.n) y x from (DiG.jo hh h.g.n (lf _)).hm y x];exact a09 (g:=⟨h.g.n,fun k=>wid h.w (h.g.f k)⟩)
theorem DiG.V_vld {h:DiG}(hh:h.Ok):vld h.V:=(DiG.jo hh h.g.n (lf _)).hL
theorem bY6 {L:List Rn}{i:Nat}(h:i<L.length):rI L i∈L:=by
 unfold rI;rw [la,lw h];exact xA _
theorem b03 {L:List Rn}{y x:Int}:mem L y x=true<->∃ i,i<L.length/\(rI L i).y=y/\(rI L i).x0<=x/\x<(rI L i).x1:=by
 have h:=a09 (g:=⟨L.length,rI L⟩) (y:=y) (x:=x);rw [Rg.L_of] at h;exact h
theorem DiG.cp4 {h:DiG}(hh:h.Ok) {m:Nat}(hm:m<h.V.length):(-1000<=(rI h.V m).y/\(rI h.V m).y<=1000)/\(-1100<=(rI h.V m).x0/\(rI h.V m).x1<=1100)/\(rI h.V m).x0<(rI h.V m).x1:=by
 have hr:=bY6 hm;have ok:=((DiG.V_vld hh).1 _ hr).2;have hw:=hh.w;obtain ⟨i,hi,a1,a2,a3⟩:=(DiG.bV9 hh).1 ((mem_iff _ _ _).2 ⟨_,hr,rfl,xl _,ok⟩);obtain ⟨j,hj,b1,b2,b3⟩:=(DiG.bV9 hh).1 ((mem_iff _ (rI h.V m).y ((rI h.V m).x1-1)).2 ⟨_,hr,rfl,by omega,by omega⟩);have c1:=hh.g.b i hi;have c2:=hh.g.b j hj;omega
theorem DiG.R_ok {h:DiG}(hh:h.Ok) {k:Nat}(hk:k<h.V.length*h.q):okR (h.R k):=by
 have hq:0<h.q:=xD _;have hw:=hh.w;obtain ⟨⟨h1,h2⟩,⟨h3,h4⟩,h5⟩:=DiG.cp4 hh (Nat.div_lt_of_lt_mul (show k<h.q*h.V.length by rw [xI]; exact hk));have hr:=xO k hq;have hq':h.q=2*h.w+1:=rfl;unfold okR DiG.R;show ((-8192<=(rI h.V (k / h.q)).y-(h.w:Int)+((k % h.q:Nat):Int)/\(rI h.V (k / h.q)).y-(h.w:Int)+((k % h.q:Nat):Int)<8192)/\(-8192<=(rI h.V (k / h.q)).x0/\(rI h.V (k / h.q)).x0<=8192)/\ -8192<=(rI h.V (k / h.q)).x1/\(rI h.V (k / h.q)).x1<=8192)/\(rI h.V (k / h.q)).x0<(rI h.V (k / h.q)).x1;omega
theorem DiG.at {h:DiG}{m c:Nat}(hc:c<h.q):(m*h.q+c) / h.q=m/\(m*h.q+c) % h.q=c:=by
 have hq:0<h.q:=xD _;constructor
 ·rw [xI,Nat.mul_add_div hq,Nat.div_eq_of_lt hc,lU]
 ·rw [xI,Nat.mul_add_mod,uJ hc]
theorem DiG.cm5 (h:DiG):vld h.o:=aA8 _
theorem DiG.o_mem {h:DiG}(hh:h.Ok) {y x:Int}:mem h.o y x=true<->∃ a b:Int,(-(h.w:Int)<=a/\a<=h.w)/\(-(h.w:Int)<=b/\b<=h.w)/\mem h.g.L (y+a) (x+b)=true:=by
 rw [show h.o=av8 ⟨h.V.length*h.q,h.R⟩ from rfl,b12 (fun k hk=>DiG.R_ok hh hk),a09];have hq':h.q=2*h.w+1:=rfl;have hq:0<h.q:=xD _;constructor
 ·rintro ⟨k,hk,h1,h2,h3⟩;have hk:k<h.V.length*h.q:=hk;have hm:=Nat.div_lt_of_lt_mul (show k<h.q*h.V.length by rw [xI]; exact hk);have hr:=xO k hq;have h1:(rI h.V (k / h.q)).y-(h.w:Int)+((k % h.q:Nat):Int)=y:=h1;obtain ⟨i,hi,a1,a2,a3⟩:=(DiG.bV9 hh).1 (b03.2 ⟨_,hm,rfl,h2,h3⟩);have ok:=(bk0 hh.g.v hi).2;by_cases c1:x<(h.g.f i).x0
  ·exact ⟨(h.g.f i).y-y,(h.g.f i).x0-x,by omega,by omega,a09.2 ⟨i,hi,by omega,by omega,by omega⟩⟩
  ·by_cases c2:x<(h.g.f i).x1
   ·exact ⟨(h.g.f i).y-y,0,by omega,by omega,a09.2 ⟨i,hi,by omega,by omega,by omega⟩⟩
   ·exact ⟨(h.g.f i).y-y,(h.g.f i).x1-1-x,by omega,by omega,a09.2 ⟨i,hi,by omega,by omega,by omega⟩⟩
 ·rintro ⟨a,b,ha,hb,hm⟩;obtain ⟨i,hi,a1,a2,a3⟩:=a09.1 hm;obtain ⟨m,hm,b1,b2,b3⟩:=b03.1 ((DiG.bV9 hh).2 ⟨i,hi,rfl,show (h.g.f i).x0-(h.w:Int)<=x by omega,show x<(h.g.f i).x1+(h.w:Int) by omega⟩);obtain ⟨c,hc⟩:∃ c:Nat,(c:Int)=h.w-a:=⟨(h.w-a).toNat,by omega⟩
  have e1:(m*h.q+c) / h.q=m:=by
   rw [xI,Nat.mul_add_div hq,Nat.div_eq_of_lt (by omega),lU]
  have e2:(m*h.q+c) % h.q=c:=by
   rw [xI,Nat.mul_add_mod,uJ (by omega)]
  have hlt:m*h.q+c<h.V.length*h.q:=by
   have:(m+1)*h.q<=h.V.length*h.q:=lk _ hm
   rw [ur] at this;omega
  refine ⟨m*h.q+c,hlt,?_⟩;show (rI h.V ((m*h.q+c) / h.q)).y-(h.w:Int)+(((m*h.q+c) % h.q:Nat):Int)=y/\(rI h.V ((m*h.q+c) / h.q)).x0<=x/\x<(rI h.V ((m*h.q+c) / h.q)).x1;rw [e1,e2];exact ⟨by omega,b2,b3⟩
def Ls (L:List Rn):Rg:=⟨L.length,rI L⟩
noncomputable def dil (w:Nat) (L:List Rn):List Rn:=DiG.o ⟨Ls L,w⟩
theorem Ls_L (L:List Rn):(Ls L).L=L:=Rg.L_of L
structure Bx (B:Int) (L:List Rn):Prop where
 v:vld L
 b:∀ y x,mem L y x=true->(-B<=y/\y<=B)/\ -B<=x/\x<=B
theorem Bx.run {B:Int}{L:List Rn}(h:Bx B L) {r:Rn}(hr:r∈L):(-B<=r.y/\r.y<=B)/\(-B<=r.x0/\r.x1<=B+1)/\r.x0<r.x1:=by
 have ok:=(h.v.1 r hr).2;have h1:=h.b r.y r.x0 ((mem_iff _ _ _).2 ⟨r,hr,rfl,xl _,ok⟩);have h2:=h.b r.y (r.x1-1) ((mem_iff _ _ _).2 ⟨r,hr,rfl,by omega,by omega⟩);omega
theorem Bx.mono {B C:Int}{L:List Rn}(h:Bx B L) (hBC:B<=C):Bx C L:=⟨h.v,fun y x hm=>by have:=h.b y x hm; omega⟩
theorem Bx.ok {B:Int}{L:List Rn}(h:Bx B L) (hB:B<=900) {w:Nat}(hw:w<=64):(⟨Ls L,w⟩:DiG).Ok:=by
 refine ⟨⟨by rw [Ls_L]; exact h.v,fun i hi=>?_⟩,hw⟩;have:=h.run (bY6 (L:=L) (i:=i) hi)
 show (-1000<=(rI L i).y/\(rI L i).y<=1000)/\ -1000<=(rI L i).x0/\(rI L i).x1<=1000;omega
theorem cc8 {B:Int}{L:List Rn}(h:Bx B L) (hB:B<=900) {w:Nat}(hw:w<=64) {y x:Int}:mem (dil w L) y x=true<->∃ a b:Int,(-(w:Int)<=a/\a<=w)/\(-(w:Int)<=b/\b<=w)/\mem L (y+a) (x+b)=true:=by
 have:=DiG.o_mem (h.ok hB hw) (y:=y) (x:=x)
 rw [show (DiG.g ⟨Ls L,w⟩).L=L from Ls_L L] at this;exact this
def rowF (n:Nat) (f:Nat->Rn):SO:= .row 0 n 3 (fun i=>lst (rnL (f i))) 48
def bldS (k:Nat):SO:= .cells 1 (lst [.osl k 0]) 51
def di1 (h:DiG):Inv:=⟨Nat,fun i=>i<=h.g.n,fun i=>⟨[(1,.int .i64 h.w),(5,.own 0 0),(12,rgS h.g),(13,.int .i64 h.g.n),(14,.int .i64 i)],[bldS 1,rowF (h.W i).length (rI (h.W i))]⟩,fun i=>h.g.n-i⟩
def di2 (h:DiG):Inv:=⟨Nat,fun m=>m<=h.V.length,fun m=>⟨[(1,.int .i64 h.w),(8,.osl 2 0),(41,.osl 1 0),(42,.int .i64 h.V.length),(43,.int .i64 m)],[bldS 1,rowF h.V.length (rI h.V),rowF (m*h.q) h.R]⟩,fun m=>h.V.length-m⟩
def di3 (h:DiG) (m:Nat):Inv:=⟨Nat,fun c=>m<h.V.length/\c<=h.q,fun c=>⟨[(1,.int .i64 h.w),(8,.osl 2 0),(41,.osl 1 0),(42,.int .i64 h.V.length),(43,.int .i64 m),(10,.own 3 0),(11,.int .i64 ((rI h.V m).y-(h.w:Int)+(c:Int)))],[bldS 1,rowF h.V.length (rI h.V),rowF (m*h.q+c) h.R,.cells 3 (lst (rnL (rI h.V m))) 48]⟩,fun c=>h.q-c⟩
noncomputable def bo6:FSpec:=ab0 35 (γ:=DiG) (fun | [s,.int _ w]=>some ⟨⟨aj5 s,rgD s⟩,w.toNat⟩ | _=>none) (fun h=>[rgS h.g,.int .i64 h.w]) (fun h=>h.Ok/\h.g.n*h.q<=1000000) (fun h=>ax0 h.o)
theorem bH6:aa7 Tw.prog bo6:=by
 refine ssW (specs:=[aV0,giv bE5]) (⟨aN6,aH6 bH5,trivial⟩) Tw.func35 (fun g=>(⟨[(3,.inv (di1 g)),(9,.nest (di2 g) (fun m=>[(12,.inv (di3 g m))]))],[(2,[.ownC 0 0 48 3])]⟩:Ann)) ?_;rintro g hg;refine ad5 (B:=let T5:=fun p:Prop=>True/\True/\True/\True/\True/\p;let T8:=fun p:Prop=>True/\True/\True/\True/\True/\True/\True/\True/\p;let A:=Aq;let z29:=(0:Int);let z28:=(↑g.g.n:Int);let z26:=(True/\True);let z25:=(1:Int);let z22:=(-8192:Int);let z20:=((0:Nat)=(0:Nat));let z12:=(↑g.V.length:Int);let z8:=(-9223372036854775808:Int);let z7:=(9223372036854775807:Int);let z4:=(↑g.w:Int);let z14:=((2:Int)*z4+z25);let z0:=(IntKind.i64=IntKind.i64);let q0:=fun p:Int=>A z0/\A (p=p);let z24:=(q0 z12);let z11:=(q0 z4);let z9:=(A (g.g.n=g.g.n)/\∀ i:Nat,i<g.g.n->((True/\q0 ((g.g.f i).y))/\q0 ((g.g.f i).x0))/\q0 ((g.g.f i).x1));let z3:=(A (g.V.length=g.V.length)/\∀ i:Nat,let z27:=(rI g.V i); i<g.V.length->((True/\q0 z27.y)/\q0 z27.x0)/\q0 z27.x1);T5 ((∃ g_1:Nat,A ((di1 g).pre g_1)/\(z11/\A z20/\z9/\(q0 z28)/\(A z0/\A (z29=(↑g_1:Int)))/\True)/\z26/\(A ((0:Nat)=(g.W g_1).length)/\∀ i:Nat,i<(g.W g_1).length->((True/\False)/\False)/\False)/\True)/\∀ g_1:Nat,let z31:=(↑g_1:Int);let z13:=(g.W g_1);let z21:=(↑z13.length:Int);let z5:=(g.g.f z31.toNat);let z32:=(if z22>z5.x0-z4 then z22 else z5.x0-z4);let z23:=(if (8192:Int)<z5.x1+z4 then (8192:Int) else z5.x1+z4);let z1:=(AdG.mk z13.length (rI z13) (Rn.mk z5.y z32 z23)); (di1 g).pre g_1->True/\Br (decide (z31<z28)) (A (z29<=z31/\z31<z28)/\T8 (A (z8<=z5.x0-z4/\z5.x0-z4<=z7)/\True/\True/\True/\True/\A (z8<=z5.x1+z4/\z5.x1+z4<=z7)/\True/\((True/\(A z20/\(q0 z5.y)/\(A z0/\A (z32=if z22>z5.x0-z4 then z22 else z5.x0-z4))/\(A z0/\A (z23=if (8192:Int)<z5.x1+z4 then (8192:Int) else z5.x1+z4))/\True)/\z26/\(A (z13.length=z13.length)/\∀ i:Nat,let z30:=(rI z13 i); i<z13.length->((True/\q0 z30.y)/\q0 z30.x0)/\q0 z30.x1)/\True)/\A (z13.length<=(4294967296:Nat)))/\A (z8<=z31+z25/\z31+z25<=z7)/\True/\∃ (g':Nat),A ((di1 g).pre g')/\((z11/\A z20/\z9/\(q0 z28)/\(A z0/\A (z31+z25=(↑g':Int)))/\True)/\z26/\(A (z1.L.length=(g.W g').length)/\∀ i:Nat,i<(g.W g').length->((True/\A z0/\A ((rI z1.L i).y=(rI (g.W g') i).y))/\A z0/\A ((rI z1.L i).x0=(rI (g.W g') i).x0))/\A z0/\A ((rI z1.L i).x1=(rI (g.W g') i).x1))/\True)/\A ((di1 g).meas g'<(di1 g).meas g_1))) (True/\True/\True/\True/\A (z8<=(2:Int)*z4/\(2:Int)*z4<=z7)/\A (z8<=(2:Int)*z4+z25/\(2:Int)*z4+z25<=z7)/\A (z8<=z21*z14/\z21*z14<=z7)/\A (z29<=z29/\z29<=z21*z14/\(↑(24:Nat):Int)*(z21*z14)<=(140737488355328:Int)/\z21*z14<=z7)/\T5 ((∃ g_2:Nat,A ((di2 g).pre g_2)/\(z11/\True/\True/\(A z0/\A (z21=z12))/\(A z0/\A (z29=(↑g_2:Int)))/\True)/\z26/\(A (z13.length=g.V.length)/\∀ i:Nat,i<g.V.length->((True/\A z0/\A ((rI z13 i).y=(rI g.V i).y))/\A z0/\A ((rI z13 i).x0=(rI g.V i).x0))/\A z0/\A ((rI z13 i).x1=(rI g.V i).x1))/\(A (Int.toNat z29=g_2*g.q)/\∀ i:Nat,let z34:=(rI g.V (i / g.q)); i<g_2*g.q->((True/\A z0/\A (z29=z34.y-z4+(↑(i % g.q):Int)))/\A z0/\A (z29=z34.x0))/\A z0/\A (z29=z34.x1))/\True)/\∀ g_2:Nat,let z19:=(↑g_2:Int);let z10:=(rI g.V z19.toNat);let z6:=(rI g.V g_2);let z2:=(Rg.mk (g_2*g.q) fun (i:Nat)=>let z35:=(rI g.V (i / g.q)); Rn.mk (z35.y-z4+(↑(i % g.q):Int)) z35.x0 z35.x1); (di2 g).pre g_2->True/\Br (decide (z19<z12)) (A (z29<=z19/\z19<z12)/\A (z19.toNat<g.V.length)/\T5 (A (z8<=z10.y-z4/\z10.y-z4<=z7)/\True/\True/\(∃ g_3:Nat,A ((di3 g g_2).pre g_3)/\(z11/\True/\True/\z24/\(q0 z19)/\A z20/\(A z0/\A ((if z22>z10.y-z4 then z22 else z10.y-z4)=z6.y-z4+(↑g_3:Int)))/\True)/\z26/\z3/\(A (g_2*g.q=g_2*g.q+g_3)/\∀ i:Nat,let z15:=(rI g.V (i / g.q)); i<g_2*g.q+g_3->((True/\q0 (z15.y-z4+(↑(i % g.q):Int)))/\q0 z15.x0)/\q0 z15.x1)/\(((True/\A z0/\A (z10.y=z6.y))/\A z0/\A (z10.x0=z6.x0))/\A z0/\A (z10.x1=z6.x1))/\True)/\∀ g_3:Nat,let z37:=(↑g_3:Int); (di3 g g_2).pre g_3->True/\True/\True/\True/\A (z8<=z6.y+z4/\z6.y+z4<=z7)/\True/\True/\Br (decide (z6.y-z4+z37<=if (8191:Int)<z6.y+z4 then (8191:Int) else z6.y+z4)) (T8 (A (g_2*g.q+g_3+(1:Nat)<=(9223372036854775807:Nat)/\(g_2*g.q+g_3+(1:Nat))*(24:Nat)<=(140737488355328:Nat))/\True/\True/\A (z8<=z6.y-z4+z37+z25/\z6.y-z4+z37+z25<=z7)/\True/\∃ (g':Nat),A ((di3 g g_2).pre g')/\((z11/\True/\True/\z24/\(q0 z19)/\A z20/\(A z0/\A (z6.y-z4+z37+z25=z6.y-z4+(↑g':Int)))/\True)/\z26/\z3/\(A (g_2*g.q+g_3+(1:Nat)=g_2*g.q+g')/\∀ i:Nat,let z36:=(i<g_2*g.q+g_3);let z16:=(rI g.V (i / g.q)); i<g_2*g.q+g'->((True/\A z0/\A ((bif decide z36 then z16.y-z4+(↑(i % g.q):Int) else z6.y-z4+z37)=z16.y-z4+(↑(i % g.q):Int)))/\A z0/\A ((bif decide z36 then z16.x0 else z6.x0)=z16.x0))/\A z0/\A ((bif decide z36 then z16.x1 else z6.x1)=z16.x1))/\(((True/\q0 z6.y)/\q0 z6.x0)/\q0 z6.x1)/\True)/\A ((di3 g g_2).meas g'<(di3 g g_2).meas g_3))) (A (z8<=z19+z25/\z19+z25<=z7)/\True/\∃ (g':Nat),A ((di2 g).pre g')/\((z11/\True/\True/\z24/\(A z0/\A (z19+z25=(↑g':Int)))/\True)/\z26/\z3/\(A (g_2*g.q+g_3=g'*g.q)/\∀ i:Nat,let z17:=(rI g.V (i / g.q)); i<g'*g.q->((True/\q0 (z17.y-z4+(↑(i % g.q):Int)))/\q0 z17.x0)/\q0 z17.x1)/\True)/\A ((di2 g).meas g'<(di2 g).meas g_2)))) (True/\(((A (g_2*g.q=g_2*g.q)/\∀ i:Nat,let z18:=(rI g.V (i / g.q)); i<g_2*g.q->((True/\q0 (z18.y-z4+(↑(i % g.q):Int)))/\q0 z18.x0)/\q0 z18.x1)/\True)/\A (joOk z2))/\True/\True/\A ((av8 z2).length=g.o.length)/\∀ i:Nat,let z33:=(rI (av8 z2) i); i<g.o.length->((True/\A z0/\A (z33.y=(rI g.o i).y))/\A z0/\A (z33.x0=(rI g.o i).x0))/\A z0/\A (z33.x1=(rI g.o i).x1)))))) ?_;simp only [cln];obtain ⟨hh,hn⟩:=hg;have hw:=hh.w;have hq:g.q=2*g.w+1:=rfl;have hgl:=ar9 hh.g.v;rw [Rg.len] at hgl;have hVn:g.V.length<=g.g.n:=DiG.ce0 g g.g.n;have hprod:g.V.length*g.q<=1000000:=lW (lk _ hVn) hn;refine ⟨⟨0,lC _,rfl,rfl,fun i hi=>absurd hi (ln i)⟩,fun i hi=>⟨fun hlt=>?_,fun hge=>?_⟩⟩
 ·have hi:i<=g.g.n:=hi;have hin:i<g.g.n:=by omega
  have z:((i:Int)).toNat=i:=rfl;have b:=hh.g.b i hin;have ok:=(bk0 hh.g.v hin).2;have hWl:=DiG.ce0 g i;have e1:(if -8192>(g.g.f i).x0-(g.w:Int) then -8192 else (g.g.f i).x0-(g.w:Int))=(g.g.f i).x0-(g.w:Int):=lr (by omega);have e2:(if 8192<(g.g.f i).x1+(g.w:Int) then 8192 else (g.g.f i).x1+(g.w:Int))=(g.g.f i).x1+(g.w:Int):=lr (by omega);rw [z,e1,e2,Rgb.addL];refine ⟨by omega,by omega,by omega,by omega,by omega,i+1,hin,⟨rfl,rfl,fun k _=>⟨⟨rfl,rfl⟩,rfl⟩⟩,?_⟩;show g.g.n-(i+1)<g.g.n-i;omega
 ·have hi:i<=g.g.n:=hi;have ei:i=g.g.n:=by omega
  subst ei;have hV:g.W g.g.n=g.V:=rfl;rw [hV];have hpI:(g.V.length:Int)*(2*(g.w:Int)+1)=((g.V.length*g.q:Nat):Int):=by rw [hq]; simp
  rw [hpI];refine ⟨by omega,by omega,by omega,by omega,⟨0,lC _,⟨rfl,rfl⟩,⟨rfl,fun k _=>⟨⟨rfl,rfl⟩,rfl⟩⟩,(xx _).symm,fun k hk=>absurd hk (by rw [xx]; exact ln k)⟩,fun m hm=>⟨fun hlt=>?_,fun hge=>?_⟩⟩
  ·have hmV:m<g.V.length:=by omega
   have z:((m:Int)).toNat=m:=rfl;obtain ⟨⟨b1,b2⟩,⟨b3,b4⟩,b5⟩:=DiG.cp4 hh hmV;rw [z];refine ⟨by omega,hmV,by omega,⟨0,⟨hmV,lC _⟩,by rw [lr (by omega)]; omega,rfl,⟨rfl,rfl⟩,rfl⟩,fun c hc=>?_⟩;obtain ⟨-,hcq⟩:m<g.V.length/\c<=g.q:=hc;rw [lr (show ¬ 8191<(rI g.V m).y+(g.w:Int) by omega)];have hb:(m+1)*g.q<=g.V.length*g.q:=lk _ hmV;rw [ur] at hb;refine ⟨by omega,fun hle=>⟨by omega,by omega,c+1,⟨hmV,by omega⟩,⟨by omega,rfl,fun k hk=>?_⟩,?_⟩,fun hgt=>⟨by omega,m+1,hmV,⟨rfl,?_⟩,?_⟩⟩
   ·by_cases ck:k<m*g.q+c
    ·rw [lj ck]; exact ⟨⟨rfl,rfl⟩,rfl⟩
    ·have ek:k=m*g.q+c:=by omega
     obtain ⟨d1,d2⟩:=DiG.at (h:=g) (m:=m) (c:=c) (by omega);rw [lg ck,ek,d1,d2];exact ⟨⟨rfl,rfl⟩,rfl⟩
   ·show g.q-(c+1)<g.q-c;omega
   ·rw [ur]; omega
   ·show g.V.length-(m+1)<g.V.length-m;omega
  ·have hm:m<=g.V.length:=hm;have em:m=g.V.length:=by omega
   subst em;exact ⟨⟨fun k hk=>DiG.R_ok hh hk,by show g.V.length*g.q<=100000000; omega⟩,rfl,fun k _=>⟨⟨rfl,rfl⟩,rfl⟩⟩
def bo9:FSpec:=ab0 52 (γ:=DiG) (fun | [s,.int _ w]=>some ⟨⟨aj5 s,rgD s⟩,w.toNat⟩ | _=>none) (fun h=>[rgS h.g,.int .i64 h.w]) (fun h=>vld h.g.L/\h.w<=64) (fun _=> .int .i64 0)
theorem bH9:aa7 Tw.prog bo9:=by
 refine ssW (specs:=[aA0]) (⟨aA7,trivial⟩) Tw.func52 (fun g=>A0) ?_;rintro g hg;refine ad5 (B:=let A:=Aq;let z0:=(IntKind.i64=IntKind.i64);let q0:=fun p:Int=>A z0/\A (p=p);True/\True/\(((A (g.g.n=g.g.n)/\∀ i:Nat,i<g.g.n->((True/\q0 ((g.g.f i).y))/\q0 ((g.g.f i).x0))/\q0 ((g.g.f i).x1))/\True)/\A (vld g.g.L/\g.g.n<=(4294967296:Nat)))/\True/\True/\True/\True/\True/\True/\True/\True/\True/\Br (decide ((64:Int)<(↑g.w:Int))) (True/\True/\A z0/\A ((3:Int)=(0:Int))) (True/\True/\q0 ((0:Int)))) ?_;simp only [cln];obtain ⟨hv,hw⟩:=hg;have hl:=ar9 hv;rw [Rg.len] at hl;exact ⟨⟨hv,by omega⟩,fun h=>absurd h (by omega)⟩
def DiOk (h:DiG):Prop:=h.Ok/\h.g.n*h.q<=1000000
noncomputable def bE0:FSpec:=ab0 34 (γ:=DiG) (fun | [s,.int _ w,.fn _ _ _]=>some ⟨⟨aj5 s,rgD s⟩,w.toNat⟩ | _=>none) (fun h=>[rgS h.g,.int .i64 h.w,.fn 35 0 (lst [])]) DiOk (fun h=>okP (ax0 (h.o)))
theorem bR8:aa7 Tw.prog bE0:=by
 refine ssW (specs:=[bo9,bo6]) (⟨bH9,bH6,trivial⟩) Tw.func34 (fun g=>A0) ?_;rintro g hg;refine ad5 (B:=let A:=Aq;let z1:=(IntKind.i64=IntKind.i64);let q1:=fun p:Int=>A z1/\A (p=p);let z0:=((A (g.g.n=g.g.n)/\∀ i:Nat,i<g.g.n->((True/\q1 ((g.g.f i).y))/\q1 ((g.g.f i).x0))/\q1 ((g.g.f i).x1))/\(A z1/\A ((↑g.w:Int)=(↑(↑g.w:Int).toNat:Int)))/\True);True/\True/\True/\True/\(z0/\A (vld g.g.L/\g.w<=(64:Nat)))/\True/\True/\True/\True/\True/\True/\(z0/\A (g.Ok/\g.g.n*g.q<=(1000000:Nat)))/\True/\True/\True/\(True/\A (g.o.length=g.o.length)/\∀ i:Nat,let z2:=(rI g.o i); i<g.o.length->((True/\q1 z2.y)/\q1 z2.x0)/\q1 z2.x1)/\q1 ((0:Int))) ?_;simp only [cln];exact ⟨⟨rfl,hg.1.g.v,hg.1.w⟩,rfl,hg⟩
noncomputable def ch4:FSpec:=ab0 16 (γ:=DiG) (fun | [s,.int _ w]=>some ⟨⟨aj5 s,rgD s⟩,w.toNat⟩ | _=>none) (fun h=>[rgS h.g,.int .i64 h.w]) DiOk (fun h=>okP (ax0 (h.o)))
theorem cm2:aa7 Tw.prog ch4:=by
 refine ssW (specs:=[bE0]) (⟨bR8,trivial⟩) Tw.func16 (fun g=>A0) ?_;rintro g hg;refine ad5 (B:=let A:=Aq;let z0:=(IntKind.i64=IntKind.i64);let q0:=fun p:Int=>A z0/\A (p=p);True/\True/\True/\True/\(((A (g.g.n=g.g.n)/\∀ i:Nat,i<g.g.n->((True/\q0 ((g.g.f i).y))/\q0 ((g.g.f i).x0))/\q0 ((g.g.f i).x1))/\(A z0/\A ((↑g.w:Int)=(↑(↑g.w:Int).toNat:Int)))/\(A ((35:Nat)=(35:Go.FuncId))/\True)/\True)/\A (DiOk g))/\True/\True/\True/\True/\True/\(True/\A (g.o.length=g.o.length)/\∀ i:Nat,let z1:=(rI g.o i); i<g.o.length->((True/\q0 z1.y)/\q0 z1.x0)/\q0 z1.x1)/\q0 ((0:Int))) ?_;simp only [cln];exact ⟨rfl,hg⟩
end Dil
namespace Tmq
open Go.RowKit Sx Num Aff Con Rga Rgl Rgm Rgn Rgb Rgo Gat Gar Ows Apl Apt Som Cel Ofl Ftp Cof Wid Trp Tsp Tpn Tco Ttr Trq Trt Dil
theorem b99 {b:Vec->Bool}{P:Pcs}{y x:Int}:mem (sel b P P.n) y x=true<->∃ k,k<P.n/\b (P.ink k)=true/\mem (Pcs.L P k) y x=true:=by
 rw [mem_iff];constructor
 ·rintro ⟨r,hr,h1,h2,h3⟩;obtain ⟨k,i,hk,hb,hi,rfl⟩:=aM9.1 hr;exact ⟨k,hk,hb,(mem_iff _ _ _).2 ⟨_,ay3 hi,h1,h2,h3⟩⟩
 ·rintro ⟨k,hk,hb,hm⟩;obtain ⟨r,hr,h1,h2,h3⟩:=(mem_iff _ _ _).1 hm;obtain ⟨i,hi,rfl⟩:=xi.1 hr;exact ⟨_,aM9.2 ⟨k,i,hk,hb,lH.1 hi,rfl⟩,h1,h2,h3⟩
theorem aD8 (b:Vec->Bool) (P:Pcs):vld (smR b P):=aA8 _
theorem b70 {b:Vec->Bool}{P:Pcs}(h:SmOk b P) (y x:Int):mem (smR b P) y x=mem (sel b P P.n) y x:=by
 have e:Rg.L ⟨(sel b P P.n).length,rI (sel b P P.n)⟩=sel b P P.n:=Rg.L_of _;have:=b12 (g:=⟨(sel b P P.n).length,rI (sel b P P.n)⟩) (ci0 h).1 y x
 rw [e] at this;exact this
theorem b15 {g:OfG}{P:Pcs}(h:OfOK g P) {j:Nat}(hj:j<8) {y x:Int}:mem (smR (has ⟨j,1⟩) P) y x=true<->((0<=y/\y<16*(g.h:Int))/\0<=x/\x<16*(g.w:Int))/\1<=g.f (ix g.w y x) j:=by
 rw [b70 (ch9 h.c.P _),b99];have hs:∀ v:Vec,has ⟨j,1⟩ v=true<->1<=v j:=fun v=>by unfold has; rw [lL]
 constructor
 ·rintro ⟨k,hk,hbk,hm⟩;obtain ⟨h1,h2⟩:=(h.m k hk y x).1 hm;have h2:kOf (g.f (ix g.w y x))=kOf (P.ink k):=h2;exact ⟨h1,by rw [aO7 h2 hj]; exact (hs _).1 hbk⟩
 ·rintro ⟨h1,hbb⟩;have hz:ck g.f (16*g.w) y x≠nul:=fun hc=>by
   have hc:kOf (g.f (ix g.w y x))=kOf (fun _=>0):=hc;rw [aO7 hc hj] at hbb;omega
  obtain ⟨k,hk,he⟩:=h.cov y x h1 hz;have he:kOf (P.ink k)=kOf (g.f (ix g.w y x)):=he;exact ⟨k,hk,(hs _).2 (by rw [aO7 he hj]; exact hbb),(h.m k hk y x).2 ⟨h1,he.symm⟩⟩
noncomputable def oneL (P:Pcs) (a b:Nat):List Rn:=ao0 mn ⟨Ls (smR (has ⟨a,1⟩) P),Ls (smR (has ⟨b,1⟩) P)⟩
noncomputable def meets (P:Pcs) (a b:Nat):List Rn:=ao0 and ⟨Ls (oneL P a b),Ls (dil 1 (oneL P b a))⟩
theorem bH2 (P:Pcs) (a b:Nat):vld (oneL P a b):=aA8 _
theorem bj8 {g:OfG}{P:Pcs}(h:OfOK g P) {a b:Nat}(ha:a<8) (hb:b<8) {y x:Int}:mem (oneL P a b) y x=true<->((0<=y/\y<16*(g.h:Int))/\0<=x/\x<16*(g.w:Int))/\1<=g.f (ix g.w y x) a/\g.f (ix g.w y x) b<1:=by
 unfold oneL;rw [b22 (by rw [Ls_L]; exact aD8 _ _) (by rw [Ls_L]; exact aD8 _ _) rfl,Ls_L,Ls_L];show (mem _ y x&&!mem _ y x)=true<->_;rw [lu,uD,<-uk,b15 h ha,b15 h hb];constructor
 ·rintro ⟨⟨h1,h2⟩,h3⟩;exact ⟨h1,h2,by have:=fun hc=>h3 ⟨h1,hc⟩; omega⟩
 ·rintro ⟨h1,h2,h3⟩;exact ⟨⟨h1,h2⟩,fun hc=>by omega⟩
theorem bH3 {g:OfG}{P:Pcs}(h:OfOK g P) (hw:g.w<=2) (hh:g.h<=2) {a b:Nat}(ha:a<8) (hb:b<8):Bx 32 (oneL P a b):=⟨bH2 P a b,fun y x hm=>by
 have:=((bj8 h ha hb).1 hm).1
 omega⟩
theorem cm8 {L:List Rn}(h:vld L) (hn:∀ y x,¬ mem L y x=true):L.length=0:=by
 cases L with
 | nil=>rfl
 | cons r R=>exact absurd ((mem_iff _ _ _).2 ⟨r,lK,rfl,xl _,(h.1 r lK).2⟩) (hn r.y r.x0)
theorem bJ5:∀ (L:List Rn) (r:Rn),vld (r::L)->(∀ s∈r::L,(-50<=s.y/\s.y<=50)/\ -50<=s.x0/\s.x0<=50)->2*((r::L).length:Int)<=5202-(r.y*103+r.x0)
 | [],r,h,hb=>by
  have:=hb r (lK ..)
  show 2*(1:Int)<=_;omega
 | s::L,r,h,hb=>by
  have ih:=bJ5 L s (ae2.1 h).2.2 (fun t ht=>hb t (lR _ ht));have hl:=(ae2.1 h).2.1 s (lK ..);have h1:=hb r (lK ..);have h2:=hb s (lR _ (lK ..));have ok:=(ae2.1 h).1.2;have e:((r::s::L).length:Int)=((s::L).length:Int)+1:=by simp
  rw [e];unfold ltR at hl;omega
theorem cp0 {L:List Rn}(h:Bx 50 L):L.length<=5210:=by
 cases L with
 | nil=>exact lC _
 | cons r L=>
  have:=bJ5 L r h.v (fun s hs=>by have:=h.run hs; omega)
  have:=h.run (lK (a:=r) (l:=L))
  omega
theorem bx_di {B:Int}{L:List Rn}(h:Bx B L) (hB:B<=50) {w:Nat}(hw:w<=64):DiOk ⟨Ls L,w⟩:=by
 refine ⟨h.ok (by omega) hw,?_⟩;have h1:=cp0 (h.mono hB);show L.length*(2*w+1)<=1000000;exact lW (uI h1 (show 2*w+1<=129 by omega)) (by decide)
theorem b64 {g:SpG}(hc:∀ i,byt (g.c i)) (i:Nat):0<=spr g i/\spr g i<=255:=⟨bn3 _ _ _ _,bh9 (by decide) fun _ _=>bh9 (by decide) fun _ _=>(hc _ _).2⟩
theorem cf7 {og:OfG}{P:Pcs}{r:Nat}(ho:OfOK og P) (hf:∀ i,byt (og.f i)):∀ i,byt ((tk og P 2 o01 r).of.f i):=fun i j=>by
 have hc:∀ i,byt ((tk og P 2 o01 r).c i):=bN0 (g:=⟨og.w,og.h,P⟩) (b25 ho hf) _ (lf _);by_cases hi:i<(tk og P 2 o01 r).N
 ·rw [aY3 hi,tc2];split
  ·exact b64 (g:=(tk og P 2 o01 r).pl.sp 0) hc i
  ·exact hc i j
 ·have e:(tk og P 2 o01 r).of.f i j=(tk og P 2 o01 r).c i j:=by
   show (bif decide (i<(tk og P 2 o01 r).N) then _ else _)=_;rw [lg hi];rfl
  rw [e];exact hc i j
theorem cg6 {g:SpG}(hw:1<=g.w) {y x y' x':Nat}(hy:y<g.h) (hx:x<g.w) (hy':y'<g.h) (hx':x'<g.w) (h1:y<=y'+g.r) (h2:y'<=y+g.r) (h3:x<=x'+g.r) (h4:x'<=x+g.r):g.c (y'*g.w+x') g.ink<=spr g (y*g.w+x):=by
 unfold spr;rw [aC5 hx,aI1 hx];refine Int.le_trans ?_ (aU2 (f:=fun a=>al1 g a x) (j:=y') h1 h2 hy');exact aU2 (f:=fun j=>g.c (y'*g.w+j) g.ink) (j:=x') h3 h4 hx'
theorem bI9 {og:OfG}{P:Pcs}{r:Nat}(h:Tk og 2 o01 r) (ho:OfOK og P) (hr:1<=r):(meets (Gt.P (ofA (tk og P 2 o01 r).of)) 1 0).length=0:=by
 have H:=aL5 h ho;have ew:(tk og P 2 o01 r).of.w=og.w:=rfl;have eh:(tk og P 2 o01 r).of.h=og.h:=rfl;have b10:=bH3 H h.wB.2 h.hB.2 (a:=1) (b:=0) (by decide) (by decide);have b01:=bH3 H h.wB.2 h.hB.2 (a:=0) (b:=1) (by decide) (by decide);have m10:=fun y x=>bj8 H (a:=1) (b:=0) (by decide) (by decide) (y:=y) (x:=x)
 have m01:=fun y x=>bj8 H (a:=0) (b:=1) (by decide) (by decide) (y:=y) (x:=x)
 rw [ew,eh] at m10 m01;refine cm8 (aA8 _) fun y x hm=>?_
 unfold meets at hm;rw [b22 (by rw [Ls_L]; exact b10.v) (by rw [Ls_L]; exact DiG.cm5 _) rfl,Ls_L,Ls_L,lu] at hm;obtain ⟨hm,hd⟩:=hm;obtain ⟨a,b,ha,hb,hd⟩:=(cc8 b01 (by decide) (by decide)).1 hd;obtain ⟨h1,h2,h3⟩:=(m10 y x).1 hm;obtain ⟨g1,g2,g3⟩:=(m01 (y+a) (x+b)).1 hd;have lt:∀ y x:Int,((0<=y/\y<16*(og.h:Int))/\0<=x/\x<16*(og.w:Int))->ix og.w y x<(tk og P 2 o01 r).N:=fun y x hin=>by
  show y.toNat*(16*og.w)+x.toNat<256*og.w*og.h;have e:256*og.w*og.h=16*og.h*(16*og.w):=by rw [Nat.mul_assoc 16 og.h,Nat.mul_left_comm og.h 16,<-Nat.mul_assoc 16 16,Nat.mul_assoc 256,xI og.w]
  have:=lk (16*og.w) (show y.toNat+1<=16*og.h by omega)
  rw [ur] at this;omega
 rw [aY3 (lt y x h1)] at h2 h3;rw [aY3 (lt _ _ g1)] at g2 g3;rw [tc2] at h2 h3 g2 g3;have n0:=b45 h ho (ix og.w y x) (show 0<8 by decide);have n1:=b45 h ho (ix og.w (y+a) (x+b)) (show 1<8 by decide);rw [lr (fun hc=>absurd hc.2 (by decide))] at h2 g3;have c1:(tk og P 2 o01 r).c (ix og.w (y+a) (x+b)) 1=0:=by omega
 rw [lr (fun hc=>hc.1.2 c1)] at g2;have c0:(tk og P 2 o01 r).c (ix og.w y x) 0=0:=by
  by_cases hz:(tk og P 2 o01 r).c (ix og.w y x) 0=0
  ·exact hz
  ·rw [lr (fun hc=>hz hc.1.1)] at h3; omega
 rw [lm ⟨⟨c0,by omega⟩,rfl⟩] at h3;have hge:=cg6 (g:=(tk og P 2 o01 r).pl.sp 0) (y:=y.toNat) (x:=x.toNat) (y':=(y+a).toNat) (x':=(x+b).toNat) (by show 1<=16*og.w; have:=h.wB.1; omega) (by show y.toNat<16*og.h; omega) (by show x.toNat<16*og.w; omega) (by show (y+a).toNat<16*og.h; omega) (by show (x+b).toNat<16*og.w; omega) (by show y.toNat<=(y+a).toNat+r; omega) (by show (y+a).toNat<=y.toNat+r; omega) (by show x.toNat<=(x+b).toNat+r; omega) (by show (x+b).toNat<=x.toNat+r; omega);have e1:(tk og P 2 o01 r).W (ix og.w y x) 0=spr ((tk og P 2 o01 r).pl.sp 0) (y.toNat*(16*og.w)+x.toNat):=rfl;have e2:((tk og P 2 o01 r).pl.sp 0).c ((y+a).toNat*(16*og.w)+(x+b).toNat) ((tk og P 2 o01 r).pl.sp 0).ink=(tk og P 2 o01 r).c (ix og.w (y+a) (x+b)) 0:=rfl;have hge:((tk og P 2 o01 r).pl.sp 0).c ((y+a).toNat*(16*og.w)+(x+b).toNat) ((tk og P 2 o01 r).pl.sp 0).ink<=spr ((tk og P 2 o01 r).pl.sp 0) (y.toNat*(16*og.w)+x.toNat):=hge;rw [e2,<-e1] at hge;omega
end Tmq
namespace Tmt
open Go.RowKit Sx Num Aff Con Rga Rgl Rgm Rgn Rgb Rgc Rgo Gat Gar Ows Apl Apt Som Cel Ofl Ftp Cof Wid Trp Tsp Tpn Tco Ttr Pcs Trq Trt Trd Dil Tmq
theorem _root_.Go.Proofs.YtbkgncikjhibiaaGreat.Tw.func18:Tw.prog.funcs[18]?=some Tryz.f18:=by kernel_rfl
theorem _root_.Go.Proofs.YtbkgncikjhibiaaGreat.Tw.func8:Tw.prog.funcs[8]?=some Tryz.f8:=by kernel_rfl
theorem _root_.Go.Proofs.YtbkgncikjhibiaaGreat.Tw.func3:Tw.prog.funcs[3]?=some Tryz.f3:=by kernel_rfl
def bX8:FSpec:=ab0 18 (γ:=Rg) (fun | [s]=>some ⟨aj5 s,rgD s⟩ | _=>none) (fun g=>[rgS g]) (fun _=>True) (fun g=>rgS g)
theorem b91:aa7 Tw.prog bX8:=by
 refine ssW (specs:=[]) trivial Tw.func18 (fun g=>A0) ?_;rintro ⟨n,f⟩ hg;cases n with
 | zero=>
  refine ad5 (B:=True/\True/\True/\True/\True/\True/\True/\True/\True/\Aq ((0:Nat)=(0:Nat))) ?_;simp only [cln,lF,lS,xg]
 | succ m=>
  refine ad5 (B:=let K:=Int.ofNat;let A:=Aq;let z2:=(IntKind.i64=IntKind.i64);let z1:=(m+(1:Nat));True/\True/\True/\True/\True/\True/\A ((0:Int)<=K (0:Nat)/\K (0:Nat)<=K z1/\K z1<=K z1/\K z1<=(↑z1:Int))/\True/\True/\A ((K z1-K (0:Nat)).toNat=m+(1:Nat))/\∀ i:Nat,let z0:=(f ((K (0:Nat)).toNat+i)); i<m+(1:Nat)->((True/\A z2/\A (z0.y=(f i).y))/\A z2/\A (z0.x0=(f i).x0))/\A z2/\A (z0.x1=(f i).x1)) ?_;simp only [cln,lF,lS,xg];exact ⟨⟨by omega,by omega,by omega,by omega⟩,by omega⟩
structure MeG where
 w:Nat
 h:Nat
 P:Pcs
 a:Nat
 b:Nat
structure MeG.Ok (g:MeG):Prop where
 c:ChG.Ok ⟨g.w,g.h,g.P⟩
 i:g.a<8/\g.b<8
 v:∀ k j,k<g.P.n->j<8->0<=g.P.ink k j/\g.P.ink k j<=255
 d:DiOk ⟨Ls (oneL g.P g.b g.a),1⟩
structure L2 where
 A:List Rn
 B:List Rn
def RgEq (g:Rg) (L:List Rn):Prop:=g.n=L.length/\g.f=rI L
structure RR where
 A:Rg
 B:Rg
theorem eqRg {g:Rg}{L:List Rn}(h:RgEq g L):g=Ls L:=by
 obtain ⟨n,f⟩:=g;obtain ⟨h1,h2⟩:n=L.length/\f=rI L:=h;subst h1 h2;rfl
theorem aX4 {L:List Rn}(h:vld L):vld (Ls L).L:=by rw [Ls_L]; exact h
def me7 (g:MeG):Inv:=⟨Rg,fun A=>RgEq A (smR (has ⟨g.a,1⟩) g.P),fun A=>⟨[(0,.int .i64 g.w),(1,.int .i64 g.h),(2,pcS g.P),(4,.int .i64 g.b),(13,rgS A)],[]⟩,fun _=>0⟩
def me8 (g:MeG):Inv:=⟨RR,fun s=>RgEq s.A (smR (has ⟨g.a,1⟩) g.P)/\RgEq s.B (smR (has ⟨g.b,1⟩) g.P),fun s=>⟨[(13,rgS s.A),(15,rgS s.B)],[]⟩,fun _=>0⟩
def me9 (g:MeG):Inv:=⟨RR×Rg,fun s=>(RgEq s.1.A (smR (has ⟨g.a,1⟩) g.P)/\RgEq s.1.B (smR (has ⟨g.b,1⟩) g.P))/\RgEq s.2 (oneL g.P g.a g.b),fun s=>⟨[(13,rgS s.1.A),(15,rgS s.1.B),(17,rgS s.2)],[]⟩,fun _=>0⟩
def me10 (g:MeG):Inv:=⟨RR,fun s=>RgEq s.A (oneL g.P g.a g.b)/\RgEq s.B (oneL g.P g.b g.a),fun s=>⟨[(17,rgS s.A),(19,rgS s.B)],[]⟩,fun _=>0⟩
def me11 (g:MeG):Inv:=⟨RR,fun s=>RgEq s.A (oneL g.P g.a g.b)/\RgEq s.B (dil 1 (oneL g.P g.b g.a)),fun s=>⟨[(17,rgS s.A),(21,rgS s.B)],[]⟩,fun _=>0⟩
def me12 (g:MeG):Inv:=⟨Rg,fun s=>RgEq s (meets g.P g.a g.b),fun s=>⟨[(23,rgS s)],[]⟩,fun _=>0⟩
noncomputable def bE4:FSpec:=ab0 8 (γ:=MeG) (fun | [.int _ w,.int _ h,s,.int _ a,.int _ b]=>some ⟨w.toNat,h.toNat,pcD s,a.toNat,b.toNat⟩ | _=>none)
 (fun g=>[.int .i64 g.w,.int .i64 g.h,pcS g.P,.int .i64 g.a,.int .i64 g.b]) MeG.Ok (fun g=>okP (ax0 (meets g.P g.a g.b)))
theorem bS1:aa7 Tw.prog bE4:=by
 refine ssW (specs:=[aJ8,ch3,bE3,ch4,aM5,bX8]) (⟨aN5,cl5,bS6,cm2,bc5,b91,trivial⟩) Tw.func8 (fun g=>(⟨[(7,.cut (me7 g)),(8,.cut (me8 g)),(9,.cut (me9 g)),(10,.cut (me10 g)),(11,.cut (me11 g)),(12,.cut (me12 g))],[]⟩:Ann)) ?_;rintro g hg;refine ad5 (B:=let T5:=fun p:Prop=>True/\True/\True/\True/\True/\p;let A:=Aq;let z18:=(↑g.w:Int);let z17:=(↑g.h:Int);let z16:=(1:Int);let z13:=(↑g.a:Int);let z12:=(↑g.b:Int);let z11:=(Tmq.meets g.P g.a g.b);let z20:=(True/\A (z11.length=(0:Nat)));let z4:=(IntKind.u8=IntKind.u8);let q4:=fun p:Int=>A z4/\A (p=p);let z3:=(smR (Som.has (InG.mk z12.toNat z16)) g.P);let z2:=(smR (Som.has (InG.mk z13.toNat z16)) g.P);let z1:=(IntKind.i64=IntKind.i64);let q1:=fun p:Int=>A z1/\A (p=p);let z9:=(A z1/\A (z17=(↑z17.toNat:Int)));let z8:=(A z1/\A (z18=(↑z18.toNat:Int)));let z0:=(A (g.P.n=g.P.n)/\∀ i:Nat,i<g.P.n->(chp (True/\A (g.P.m i=g.P.m i)/\∀ i_1:Nat,let z19:=(g.P.p i i_1); i_1<g.P.m i->((True/\q1 z19.y)/\q1 z19.x0)/\q1 z19.x1) (fun j:Nat=>q4 (g.P.ink i j)) 7)/\q4 (g.P.ink i (7:Nat)));T5 (((z8/\z9/\z0/\True)/\A (ChG.mk z18.toNat z17.toNat g.P).Ok)/\T5 (True/\True/\True/\Br (decide ((if z12<z13 then z12 else z13)<(0:Int))) (True/\True/\True/\True/\z20/\A z1/\A ((3:Int)=(0:Int))) (T5 (Br (decide ((8:Int)<=if z12>z13 then z12 else z13)) (True/\True/\True/\z20/\A z1/\A ((3:Int)=(0:Int))) ((True/\True/\True/\True/\((z8/\z9/\z0/\(A z1/\A (z13=(↑z13.toNat:Int)))/\(q1 z16)/\True)/\A (IkG.mk z18.toNat z17.toNat g.P (InG.mk z13.toNat z16)).Ok)/\T5 (∃ g_1:Rg,A ((me7 g).pre g_1)/\((q1 z18)/\(q1 z17)/\z0/\(q1 z12)/\(A (z2.length=g_1.n)/\∀ i:Nat,i<g_1.n->((True/\A z1/\A ((rI z2 i).y=(g_1.f i).y))/\A z1/\A ((rI z2 i).x0=(g_1.f i).x0))/\A z1/\A ((rI z2 i).x1=(g_1.f i).x1))/\True)/\True))/\∀ g_1:Rg,(me7 g).pre g_1->(True/\True/\True/\True/\((z8/\z9/\z0/\(A z1/\A (z12=(↑z12.toNat:Int)))/\(q1 z16)/\True)/\A (IkG.mk z18.toNat z17.toNat g.P (InG.mk z12.toNat z16)).Ok)/\T5 (∃ g_2:RR,A ((me8 g).pre g_2)/\((A (g_1.n=g_2.A.n)/\∀ i:Nat,i<g_2.A.n->((True/\A z1/\A ((g_1.f i).y=(g_2.A.f i).y))/\A z1/\A ((g_1.f i).x0=(g_2.A.f i).x0))/\A z1/\A ((g_1.f i).x1=(g_2.A.f i).x1))/\(A (z3.length=g_2.B.n)/\∀ i:Nat,i<g_2.B.n->((True/\A z1/\A ((rI z3 i).y=(g_2.B.f i).y))/\A z1/\A ((rI z3 i).x0=(g_2.B.f i).x0))/\A z1/\A ((rI z3 i).x1=(g_2.B.f i).x1))/\True)/\True))/\∀ g_2:RR,let z10:=(ao0 mn (CbG.mk g_2.A g_2.B)); (me8 g).pre g_2->(True/\True/\(((A (g_2.A.n=g_2.A.n)/\∀ i:Nat,let z21:=(g_2.A.f i); i<g_2.A.n->((True/\q1 z21.y)/\q1 z21.x0)/\q1 z21.x1)/\(A (g_2.B.n=g_2.B.n)/\∀ i:Nat,let z22:=(g_2.B.f i); i<g_2.B.n->((True/\q1 z22.y)/\q1 z22.x0)/\q1 z22.x1)/\True)/\A (vld g_2.A.L/\vld g_2.B.L))/\T5 (∃ (g_3:RR×Rg),A ((me9 g).pre g_3)/\((A (g_2.A.n=g_3.fst.A.n)/\∀ i:Nat,i<g_3.fst.A.n->((True/\A z1/\A ((g_2.A.f i).y=(g_3.fst.A.f i).y))/\A z1/\A ((g_2.A.f i).x0=(g_3.fst.A.f i).x0))/\A z1/\A ((g_2.A.f i).x1=(g_3.fst.A.f i).x1))/\(A (g_2.B.n=g_3.fst.B.n)/\∀ i:Nat,i<g_3.fst.B.n->((True/\A z1/\A ((g_2.B.f i).y=(g_3.fst.B.f i).y))/\A z1/\A ((g_2.B.f i).x0=(g_3.fst.B.f i).x0))/\A z1/\A ((g_2.B.f i).x1=(g_3.fst.B.f i).x1))/\(A (z10.length=g_3.snd.n)/\∀ i:Nat,i<g_3.snd.n->((True/\A z1/\A ((rI z10 i).y=(g_3.snd.f i).y))/\A z1/\A ((rI z10 i).x0=(g_3.snd.f i).x0))/\A z1/\A ((rI z10 i).x1=(g_3.snd.f i).x1))/\True)/\True))/\∀ (g_3:RR×Rg),let z6:=(ao0 mn (CbG.mk g_3.fst.B g_3.fst.A)); (me9 g).pre g_3->(True/\True/\(((A (g_3.fst.B.n=g_3.fst.B.n)/\∀ i:Nat,let z14:=(g_3.fst.B.f i); i<g_3.fst.B.n->((True/\q1 z14.y)/\q1 z14.x0)/\q1 z14.x1)/\(A (g_3.fst.A.n=g_3.fst.A.n)/\∀ i:Nat,let z15:=(g_3.fst.A.f i); i<g_3.fst.A.n->((True/\q1 z15.y)/\q1 z15.x0)/\q1 z15.x1)/\True)/\A (vld g_3.fst.B.L/\vld g_3.fst.A.L))/\T5 (∃ g_4:RR,A ((me10 g).pre g_4)/\((A (g_3.snd.n=g_4.A.n)/\∀ i:Nat,i<g_4.A.n->((True/\A z1/\A ((g_3.snd.f i).y=(g_4.A.f i).y))/\A z1/\A ((g_3.snd.f i).x0=(g_4.A.f i).x0))/\A z1/\A ((g_3.snd.f i).x1=(g_4.A.f i).x1))/\(A (z6.length=g_4.B.n)/\∀ i:Nat,i<g_4.B.n->((True/\A z1/\A ((rI z6 i).y=(g_4.B.f i).y))/\A z1/\A ((rI z6 i).x0=(g_4.B.f i).x0))/\A z1/\A ((rI z6 i).x1=(g_4.B.f i).x1))/\True)/\True))/\∀ g_4:RR,let z5:=(DiG.mk g_4.B (Int.toNat z16)); (me10 g).pre g_4->(True/\(((A (g_4.B.n=g_4.B.n)/\∀ i:Nat,let z23:=(g_4.B.f i); i<g_4.B.n->((True/\q1 z23.y)/\q1 z23.x0)/\q1 z23.x1)/\(A z1/\A (z16=(↑(Int.toNat z16):Int)))/\True)/\A (DiOk z5))/\T5 (∃ g_5:RR,A ((me11 g).pre g_5)/\((A (g_4.A.n=g_5.A.n)/\∀ i:Nat,i<g_5.A.n->((True/\A z1/\A ((g_4.A.f i).y=(g_5.A.f i).y))/\A z1/\A ((g_4.A.f i).x0=(g_5.A.f i).x0))/\A z1/\A ((g_4.A.f i).x1=(g_5.A.f i).x1))/\(A (z5.o.length=g_5.B.n)/\∀ i:Nat,i<g_5.B.n->((True/\A z1/\A ((rI z5.o i).y=(g_5.B.f i).y))/\A z1/\A ((rI z5.o i).x0=(g_5.B.f i).x0))/\A z1/\A ((rI z5.o i).x1=(g_5.B.f i).x1))/\True)/\True))/\∀ g_5:RR,let z7:=(ao0 Bool.and (CbG.mk g_5.A g_5.B)); (me11 g).pre g_5->(True/\True/\(((A (g_5.A.n=g_5.A.n)/\∀ i:Nat,let z24:=(g_5.A.f i); i<g_5.A.n->((True/\q1 z24.y)/\q1 z24.x0)/\q1 z24.x1)/\(A (g_5.B.n=g_5.B.n)/\∀ i:Nat,let z25:=(g_5.B.f i); i<g_5.B.n->((True/\q1 z25.y)/\q1 z25.x0)/\q1 z25.x1)/\True)/\A (vld g_5.A.L/\vld g_5.B.L))/\T5 (∃ g_6:Rg,A ((me12 g).pre g_6)/\((A (z7.length=g_6.n)/\∀ i:Nat,i<g_6.n->((True/\A z1/\A ((rI z7 i).y=(g_6.f i).y))/\A z1/\A ((rI z7 i).x0=(g_6.f i).x0))/\A z1/\A ((rI z7 i).x1=(g_6.f i).x1))/\True)/\True))/\∀ g_6:Rg,(me12 g).pre g_6->True/\(((A (g_6.n=g_6.n)/\∀ i:Nat,i<g_6.n->((True/\q1 ((g_6.f i).y))/\q1 ((g_6.f i).x0))/\q1 ((g_6.f i).x1))/\True)/\A True)/\True/\True/\True/\(True/\A (g_6.n=z11.length)/\∀ i:Nat,i<z11.length->((True/\A z1/\A ((g_6.f i).y=(rI z11 i).y))/\A z1/\A ((g_6.f i).x0=(rI z11 i).x0))/\A z1/\A ((g_6.f i).x1=(rI z11 i).x1))/\q1 ((0:Int)))))))) ?_;simp only [chp];simp only [cln,lF,lS,xg];have hi:=hg.i;have kI:∀ i,i<8->IkG.Ok ⟨g.w,g.h,g.P,⟨i,1⟩⟩:=fun i h8=>⟨hg.c,h8,⟨xl 1,by show (1:Int)<=255; decide⟩,fun k hk=>hg.v k i hk h8⟩
 refine ⟨hg.c,fun h=>by split at h<;>omega,fun _=>⟨fun h=>by split at h<;>omega,fun _=>⟨⟨kI _ hi.1,Ls (smR (has ⟨g.a,1⟩) g.P),⟨rfl,rfl⟩,rfl,fun _ _=>⟨⟨rfl,rfl⟩,rfl⟩⟩,fun A hA=>?_⟩⟩⟩;obtain rfl:=eqRg (show RgEq A _ from hA)
 refine ⟨⟨kI _ hi.2,⟨Ls (smR (has ⟨g.a,1⟩) g.P),Ls (smR (has ⟨g.b,1⟩) g.P)⟩,⟨⟨rfl,rfl⟩,rfl,rfl⟩,⟨rfl,fun _ _=>⟨⟨rfl,rfl⟩,rfl⟩⟩,rfl,fun _ _=>⟨⟨rfl,rfl⟩,rfl⟩⟩,fun s hs=>?_⟩;obtain ⟨A,B⟩:=s;obtain ⟨hA,hB⟩:RgEq A (smR (has ⟨g.a,1⟩) g.P)/\RgEq B (smR (has ⟨g.b,1⟩) g.P):=hs;obtain rfl:=eqRg hA
 obtain rfl:=eqRg hB
 refine ⟨⟨⟨aX4 (aD8 _ _),aX4 (aD8 _ _)⟩,⟨⟨Ls (smR (has ⟨g.a,1⟩) g.P),Ls (smR (has ⟨g.b,1⟩) g.P)⟩,Ls (oneL g.P g.a g.b)⟩,⟨⟨⟨rfl,rfl⟩,rfl,rfl⟩,rfl,rfl⟩,⟨rfl,fun _ _=>⟨⟨rfl,rfl⟩,rfl⟩⟩,⟨rfl,fun _ _=>⟨⟨rfl,rfl⟩,rfl⟩⟩,rfl,fun _ _=>⟨⟨rfl,rfl⟩,rfl⟩⟩,fun s hs=>?_⟩;obtain ⟨⟨A,B⟩,C⟩:=s;obtain ⟨⟨hA,hB⟩,hC⟩:(RgEq A (smR (has ⟨g.a,1⟩) g.P)/\RgEq B (smR (has ⟨g.b,1⟩) g.P))/\RgEq C (oneL g.P g.a g.b):=hs;obtain rfl:=eqRg hA
 obtain rfl:=eqRg hB
 obtain rfl:=eqRg hC
 refine ⟨⟨⟨aX4 (aD8 _ _),aX4 (aD8 _ _)⟩,⟨Ls (oneL g.P g.a g.b),Ls (oneL g.P g.b g.a)⟩,⟨⟨rfl,rfl⟩,rfl,rfl⟩,⟨rfl,fun _ _=>⟨⟨rfl,rfl⟩,rfl⟩⟩,rfl,fun _ _=>⟨⟨rfl,rfl⟩,rfl⟩⟩,fun s hs=>?_⟩;obtain ⟨A,B⟩:=s;obtain ⟨hA,hB⟩:RgEq A (oneL g.P g.a g.b)/\RgEq B (oneL g.P g.b g.a):=hs;obtain rfl:=eqRg hA
 obtain rfl:=eqRg hB
 refine ⟨⟨⟨rfl,hg.d⟩,⟨Ls (oneL g.P g.a g.b),Ls (dil 1 (oneL g.P g.b g.a))⟩,⟨⟨rfl,rfl⟩,rfl,rfl⟩,⟨rfl,fun _ _=>⟨⟨rfl,rfl⟩,rfl⟩⟩,rfl,fun _ _=>⟨⟨rfl,rfl⟩,rfl⟩⟩,fun s hs=>?_⟩;obtain ⟨A,B⟩:=s;obtain ⟨hA,hB⟩:RgEq A (oneL g.P g.a g.b)/\RgEq B (dil 1 (oneL g.P g.b g.a)):=hs;obtain rfl:=eqRg hA
 obtain rfl:=eqRg hB
 refine ⟨⟨⟨aX4 (bH2 _ _ _),aX4 (DiG.cm5 _)⟩,Ls (meets g.P g.a g.b),⟨rfl,rfl⟩,rfl,fun _ _=>⟨⟨rfl,rfl⟩,rfl⟩⟩,fun s hs=>?_⟩;obtain rfl:=eqRg (show RgEq s _ from hs)
 exact ⟨rfl,fun _ _=>⟨⟨rfl,rfl⟩,rfl⟩⟩
structure LwG where
 w:Int
 n:Nat
 f:Nat->Vec
 k:Int
 r:Int
structure LwG.Ok (g:LwG):Prop where
 n:g.n<=17592186044416
 v:∀ i j,i<g.n->j<8->0<=g.f i j/\g.f i j<=255
def LwG.W (g:LwG):Nat:=(cutI g.w 1 2).toNat
def LwG.R (g:LwG):Nat:=(cutI g.r 1 6).toNat
def two (v:Vec):Vec:=fun j=>if j=0 then v 0 else if j=1 then v 1 else 0
def LwG.pg (g:LwG):PiG:=⟨g.W,g.n,fun i=>two (g.f i),g.k⟩
noncomputable def LwG.P (g:LwG):Pcs:=Gt.P (ofA g.pg.of)
noncomputable def LwG.td (g:LwG):TrG:=tk g.pg.of g.P 2 o01 g.R
noncomputable def LwG.Q (g:LwG):Pcs:=Gt.P (ofA g.td.of)
def lwI (g:LwG):Inv:=⟨Nat,fun i=>i<=g.n,fun i=>⟨[(0,.int .i64 g.W),(2,.int .i64 g.k),(3,.int .i64 g.r),(9,.osl 0 0),(21,a69 g.n g.f),(22,.int .i64 g.n),(23,.int .i64 i)],
 [.row 0 i 8 (fun a j=> .int .u8 (two (g.f a) j)) 26]⟩,fun i=>g.n-i⟩
def i11 (g:LwG):Inv:=⟨Pcs,fun P=>P=g.P,fun P=>⟨[(0,.int .i64 g.W),(3,.int .i64 g.r),(12,pcS P)],[]⟩,fun _=>0⟩
def i12 (g:LwG):Inv:=⟨Pcs,fun Q=>Q=g.Q,fun Q=>⟨[(0,.int .i64 g.W),(13,pcS Q),(14,.int .i64 0)],[]⟩,fun _=>0⟩
noncomputable def spLaw:FSpec:=ab0 3 (γ:=LwG) (fun | [.int _ w,s,.int _ k,.int _ r]=>some ⟨w,aj5 s,bV2 s,k,r⟩ | _=>none) (fun g=>[.int .i64 g.w,a69 g.n g.f,.int .i64 g.k,.int .i64 g.r]) LwG.Ok (fun _=> .bool true)
theorem W_ok (g:LwG):1<=g.W/\g.W<=2:=by
 have:=ap5 g.w 1 2 (by omega)
 unfold LwG.W;omega
theorem R_ok (g:LwG):1<=g.R/\g.R<=6:=by
 have:=ap5 g.r 1 6 (by omega)
 unfold LwG.R;omega
theorem b04 {g:LwG}(hg:g.Ok) (i:Nat):byt (g.pg.of.f i):=fun j=>by
 have z:(0:Int)<=0/\(0:Int)<=255:=by decide
 show 0<=(if i<256*g.W then g.pg.cel i j else 0)/\(if i<256*g.W then g.pg.cel i j else 0)<=255;by_cases hi:i<256*g.W
 ·rw [lm hi];unfold PiG.cel;by_cases hn:0<g.n
  ·rw [lm (show 0<g.pg.n from hn)];have ha:g.pg.at' i<g.n:=xO _ hn;have h0:=hg.v _ 0 ha (by decide);have h1:=hg.v _ 1 ha (by decide);show 0<=three (two (g.f (g.pg.at' i))) j/\three (two (g.f (g.pg.at' i))) j<=255;unfold three;split
   ·exact h0
   ·split
    ·exact h1
    ·split
     ·exact z
     ·exact z
  ·rw [lr (show ¬ 0<g.pg.n from hn)]; exact z
 ·rw [lr hi]; exact z
theorem lw_hi (g:LwG) (i:Nat) {j:Nat}(hj:2<=j):g.pg.of.f i j=0:=by
 show (if i<256*g.W then g.pg.cel i j else 0)=0;split
 ·unfold PiG.cel;split
  ·unfold three;rw [lr (by omega),lr (by omega)];split
   ·rfl
   ·rfl
  ·rfl
 ·rfl
theorem ca0 {g:LwG}(hg:g.Ok):Tk g.pg.of 2 o01 g.R:=by
 refine ⟨W_ok g,⟨lf 1,uG 1⟩,fun i j _=>(b04 hg i j).1,by decide,fun k hk=>?_,fun i j hij hj=>?_,fun i j _ hne=>?_,by have:=R_ok g; omega⟩
 ·match k,hk with
  | 0,_ | 1,_=>decide
 ·obtain ⟨rfl,rfl⟩:i=0/\j=1:=by omega
  decide
 ·have hj:j<2:=Nat.lt_of_not_le fun hc=>hne (lw_hi g i hc)
  match j,hj with
  | 0,_=>exact ⟨0,by decide,rfl⟩
  | 1,_=>exact ⟨1,by decide,rfl⟩
theorem ca1 {g:LwG}(hg:g.Ok):OfOK g.pg.of g.P:=tk_of (ca0 hg)
theorem lw_me {g:LwG}(hg:g.Ok):MeG.Ok ⟨g.W,1,g.Q,1,0⟩:=by
 have H:=aL5 (ca0 hg) (ca1 hg);refine ⟨H.c,⟨by show 1<8; decide,by show 0<8; decide⟩,fun k j hk _=>b25 H (cf7 (ca1 hg) (b04 hg)) k hk j,?_⟩;exact bx_di (bH3 H (W_ok g).2 (show 1<=2 by decide) (a:=0) (b:=1) (by decide) (by decide)) (by decide) (by decide)
theorem cl3:aa7 Tw.prog spLaw:=by
 refine ssW (specs:=[cg8,b69,giv spPc,bX3,bE4]) (⟨ck9,bZ4,aH6 ok_pc,b86,bS1,trivial⟩) Tw.func3 (fun g=>(⟨[(6,.inv (lwI g)),(11,.cut (i11 g)),(12,.cut (i12 g))],[(5,[.own 9 26 8])]⟩:Ann)) ?_;rintro g hg;refine ad5 (B:=let K:=Int.toNat;let A:=Aq;let z31:=(6:Int);let z21:=(7:Nat);let z20:=(6:Nat);let z19:=(5:Nat);let z18:=(4:Nat);let z17:=(3:Nat);let z16:=(4611686018427387903:Int);let z13:=(2:Nat);let z10:=(0:Nat);let z9:=(1:Nat);let z8:=(0:Int);let z7:=(↑g.W:Int);let z6:=(1:Int);let z29:=(K z6);let z3:=(IntKind.i64=IntKind.i64);let q3:=fun p:Int=>A z3/\A (p=p);let z26:=(q3 ((↑g.n:Int)));let z25:=(q3 z7);let z22:=(q3 g.k);let z15:=(A z3/\A (z7=(↑z7.toNat:Int)));let z14:=(q3 g.r);let z12:=(A z3/\A (z6=(↑z29:Int)));let z1:=(IntKind.u8=IntKind.u8);let q1:=fun p:Int=>A z1/\A (p=p);let z4:=(A (g.n=g.n)/\∀ i:Nat,i<g.n->(chp True (fun j:Nat=>q1 (g.f i j)) 7)/\q1 (g.f i z21));True/\(True/\A True)/\True/\True/\(((q3 g.w)/\(q3 z6)/\(q3 ((2:Int)))/\True)/\A (((-2305843009213693952:Int)<=z6/\z6<=(2:Int))/\(2:Int)<=z16/\(2:Int)-z6<=z16))/\True/\True/\True/\True/\True/\(∃ g_1:Nat,A ((lwI g).pre g_1)/\((A z3/\A (cutI g.w z6 (2:Int)=z7))/\z22/\z14/\True/\z4/\z26/\(A z3/\A (z8=(↑g_1:Int)))/\True)/\(A (z10=g_1)/\∀ i:Nat,i<g_1->(((((((True/\False)/\False)/\False)/\False)/\False)/\False)/\False)/\False)/\True)/\∀ g_1:Nat,let z24:=(↑g_1:Int);let z23:=(PiG.mk z7.toNat g_1 (fun (i:Nat)=>two (g.f i)) g.k);let z2:=(ofA z23.of);let z11:=(Gar.Gt.P z2); (lwI g).pre g_1->True/\Br (decide (z24<(↑g.n:Int))) (A (z8<=z24/\z24<(↑g.n:Int))/\True/\True/\True/\True/\A (z8<=z8/\z8<(↑(8:Nat):Int))/\True/\A (z8<=z6/\z6<(↑(8:Nat):Int))/\True/\True/\True/\A (g_1+z9<=(9223372036854775807:Nat)/\(g_1+z9)*(8:Nat)<=(140737488355328:Nat))/\True/\A ((-9223372036854775808:Int)<=z24+z6/\z24+z6<=(9223372036854775807:Int))/\True/\∃ (g':Nat),A ((lwI g).pre g')/\((z25/\z22/\z14/\True/\z4/\z26/\(A z3/\A (z24+z6=(↑g':Int)))/\True)/\(A (g_1+z9=g')/\∀ i:Nat,let z30:=(i<g_1); i<g'->(((((((True/\A z1/\A ((bif decide z30 then two (g.f i) z10 else g.f z24.toNat (z10+(z10+K z8*z9)))=two (g.f i) z10))/\A z1/\A ((bif decide z30 then two (g.f i) z9 else g.f z24.toNat (z10+(z10+K z6*z9)))=two (g.f i) z9))/\A z1/\A ((bif decide z30 then two (g.f i) z13 else z8)=two (g.f i) z13))/\A z1/\A ((bif decide z30 then two (g.f i) z17 else z8)=two (g.f i) z17))/\A z1/\A ((bif decide z30 then two (g.f i) z18 else z8)=two (g.f i) z18))/\A z1/\A ((bif decide z30 then two (g.f i) z19 else z8)=two (g.f i) z19))/\A z1/\A ((bif decide z30 then two (g.f i) z20 else z8)=two (g.f i) z20))/\A z1/\A ((bif decide z30 then two (g.f i) z21 else z8)=two (g.f i) z21))/\True)/\A ((lwI g).meas g'<(lwI g).meas g_1)) ((True/\True/\True/\((z15/\(A (g_1=g_1)/\∀ i:Nat,i<g_1->(chp True (fun j:Nat=>q1 (two (g.f i) j)) 7)/\q1 (two (g.f i) z21))/\z22/\True)/\A z23.Ok)/\True/\∃ g_2:Gar.Pcs,A ((i11 g).pre g_2)/\(z25/\z14/\(A ((bif z2.full then z10 else z2.n)=g_2.n)/\∀ i:Nat,i<g_2.n->((((((((True/\A (z11.m i=g_2.m i)/\∀ i_1:Nat,i_1<g_2.m i->((True/\A z3/\A ((z11.p i i_1).y=(g_2.p i i_1).y))/\A z3/\A ((z11.p i i_1).x0=(g_2.p i i_1).x0))/\A z3/\A ((z11.p i i_1).x1=(g_2.p i i_1).x1))/\A z1/\A (z11.ink i z10=g_2.ink i z10))/\A z1/\A (z11.ink i z9=g_2.ink i z9))/\A z1/\A (z11.ink i z13=g_2.ink i z13))/\A z1/\A (z11.ink i z17=g_2.ink i z17))/\A z1/\A (z11.ink i z18=g_2.ink i z18))/\A z1/\A (z11.ink i z19=g_2.ink i z19))/\A z1/\A (z11.ink i z20=g_2.ink i z20))/\A z1/\A (z11.ink i z21=g_2.ink i z21))/\True)/\True)/\∀ g_2:Gar.Pcs,let z0:=(TrG.mk z7.toNat z29 g_2 z13 (fun (k:Nat)=>(bif decide (k=z9) then z6 else z8).toNat) (cutI g.r z6 z31).toNat);let z32:=(ofA z0.of);let z5:=(Gar.Gt.P z32); (i11 g).pre g_2->(True/\True/\True/\True/\((z14/\(q3 z6)/\(q3 z31)/\True)/\A (((-2305843009213693952:Int)<=z6/\z6<=z31)/\z31<=z16/\z31-z6<=z16))/\((z15/\z12/\(A (g_2.n=g_2.n)/\∀ i:Nat,i<g_2.n->(chp (True/\A (g_2.m i=g_2.m i)/\∀ i_1:Nat,let z27:=(g_2.p i i_1); i_1<g_2.m i->((True/\q3 z27.y)/\q3 z27.x0)/\q3 z27.x1) (fun j:Nat=>q1 (g_2.ink i j)) 7)/\q1 (g_2.ink i z21))/\(A (z13=z13)/\∀ i:Nat,let z33:=(bif decide (i=z9) then z6 else z8); i<z13->True/\A z3/\A (z33=(↑z33.toNat:Int)))/\(A z3/\A (cutI g.r z6 z31=(↑(cutI g.r z6 z31).toNat:Int)))/\True)/\A (z0.Ok/\z0.ck.Ok))/\True/\True/\True/\True/\True/\∃ g_3:Gar.Pcs,A ((i12 g).pre g_3)/\(z25/\(A ((bif z32.full then z10 else z32.n)=g_3.n)/\∀ i:Nat,i<g_3.n->((((((((True/\A (z5.m i=g_3.m i)/\∀ i_1:Nat,i_1<g_3.m i->((True/\A z3/\A ((z5.p i i_1).y=(g_3.p i i_1).y))/\A z3/\A ((z5.p i i_1).x0=(g_3.p i i_1).x0))/\A z3/\A ((z5.p i i_1).x1=(g_3.p i i_1).x1))/\A z1/\A (z5.ink i z10=g_3.ink i z10))/\A z1/\A (z5.ink i z9=g_3.ink i z9))/\A z1/\A (z5.ink i z13=g_3.ink i z13))/\A z1/\A (z5.ink i z17=g_3.ink i z17))/\A z1/\A (z5.ink i z18=g_3.ink i z18))/\A z1/\A (z5.ink i z19=g_3.ink i z19))/\A z1/\A (z5.ink i z20=g_3.ink i z20))/\A z1/\A (z5.ink i z21=g_3.ink i z21))/\(A z3/\A ((bif z32.full then (2:Int) else z8)=z8))/\True)/\True)/\∀ g_3:Gar.Pcs,(i12 g).pre g_3->True/\True/\((z15/\z12/\(A (g_3.n=g_3.n)/\∀ i:Nat,i<g_3.n->(chp (True/\A (g_3.m i=g_3.m i)/\∀ i_1:Nat,let z28:=(g_3.p i i_1); i_1<g_3.m i->((True/\q3 z28.y)/\q3 z28.x0)/\q3 z28.x1) (fun j:Nat=>q1 (g_3.ink i j)) 7)/\q1 (g_3.ink i z21))/\z12/\(A z3/\A (z8=(↑(K z8):Int)))/\True)/\A (MeG.mk z7.toNat z29 g_3 z29 (K z8)).Ok)/\True/\True/\True/\True/\True/\True/\True/\True/\True/\True/\True/\True/\True/\True/\True/\True/\True/\True/\A (decide ((↑(Tmq.meets g_3 z29 (K z8)).length:Int)=z8)=true))) ?_;simp only [chp];simp only [cln,lF,lS,xg];have hT:=ca0 hg;have ho:=ca1 hg;have hW:=W_ok g;have hR:=R_ok g;have hn:=hg.n;have hwr:=ap5 g.w 1 2 (by omega);have hrr:=ap5 g.r 1 6 (by omega);have eW:cutI g.w 1 2=(g.W:Int):=by unfold LwG.W; omega
 have eR:cutI g.r 1 6=(g.R:Int):=by unfold LwG.R; omega
 refine ⟨by omega,⟨0,lC _,⟨eW,rfl⟩,rfl,fun i hi=>absurd hi (ln _)⟩,fun a ha=>⟨fun hlt=>?_,fun hge=>?_⟩⟩
 ·have ha:a<=g.n:=ha;exact ⟨by omega,by omega,by omega,by omega,by omega,a+1,(by show a+1<=g.n; omega),⟨by omega,rfl,fun i hi=>eight (a:=fun j=>bif decide (i<a) then two (g.f i) j else two (g.f a) j) (b:=two (g.f i)) (fun j _=>by
   show (bif decide (i<a) then two (g.f i) j else two (g.f a) j)=_;by_cases h:i<a
   ·rw [lj h]; rfl
   ·obtain rfl:i=a:=by omega
    rw [lg h]; rfl)⟩,(by show g.n-(a+1)<g.n-a; omega)⟩
 ·have ha:a<=g.n:=ha;obtain rfl:a=g.n:=by omega
  refine ⟨⟨⟨hW,hn⟩,g.P,rfl,pEq (P:=g.P) rfl⟩,fun P hP=>?_⟩;have hP:P=g.P:=hP;subst hP;rw [eR];refine ⟨⟨by omega,⟨⟨rfl,fun i hi=>?_,rfl⟩,bP6 hT ho,cf6 hT ho⟩,g.Q,rfl,pEq (P:=g.Q) rfl,?_⟩,fun Q hQ=>?_⟩
  ·match i,hi with
   | 0,_=>rfl
   | 1,_=>rfl
  ·show (bif (ofA (tk g.pg.of g.P 2 o01 g.R).of).full then (2:Int) else 0)=0;rw [(aL5 hT ho).n]; rfl
  ·have hQ:Q=g.Q:=hQ;subst hQ;exact ⟨⟨⟨rfl,rfl,rfl⟩,lw_me hg⟩,congrArg Int.ofNat (bI9 hT ho hR.1)⟩
end Tmt
namespace Hid
open Go.RowKit Go.Conc
variable [LoopOK] [Junk]
def dmF (p : Program) : Frame := { fn := p.funcs.size, tmps := #[undef], todo := [.call default true "fmt's door!" #[]], defers := [], mode := .run, kind := .normal }
theorem bz2 (p:Program) (m:FrameMode):({ dmF p with mode:=m }:Frame).catches p=true:=by
 have:p.funcs[p.funcs.size]?=none:=by simp
 simp only [Frame.catches,dmF,this];decide +kernel
inductive Lost (p P:Program):Goroutine->Prop
 | fr {x:Frame}{xs:List Frame}{ch:List PanicEntry}(hm:x.mode = .panicking ch) (hd:x.defers=[]) (hxs:∀ y∈xs,y.defers=[]/\(y.mode = .run\/y.mode = .returning)):Lost p P (G x (xs++[dmF p]))
 | dm {ch:List PanicEntry}:Lost p P (G { dmF p with mode:= .panicking ch } [])
theorem bd3 {p P:Program}{g:Goroutine}(h:Lost p P g) (w:World):(∃ o w' es,stepG p true g w = .ended o w' es)\/∃ g',stepG p true g w = .go g' w #[]/\Lost p P g':=by
 cases h with
 | @fr x xs ch hm hd hxs=>
  by_cases hc:x.catches p=true
  ·left;simp only [stepG,G,hm,unwind,hd,hc,xh];exact ⟨_,_,_,rfl⟩
  ·right;cases xs with
   | nil=>
    refine ⟨_,by simp only [stepG,G,hm,unwind,hd,hc,uR]; rfl,?_⟩;exact .dm
   | cons y ys=>
    refine ⟨_,by simp only [stepG,G,hm,unwind,hd,hc,uL]; rfl,?_⟩;have hy:=hxs y (by simp);have e:y.raise ch={ y with mode:= .panicking ch }:=by
     unfold Frame.raise;rcases hy.2 with h | h<;>rw [h]
    rw [e];exact .fr rfl hy.1 fun z hz=>hxs z (by simp [hz])
 | @dm ch=>
  left;have:=bz2 p (.panicking ch)
  simp only [stepG,G,unwind,this,xh];exact ⟨_,_,_,rfl⟩
theorem am0 {P:Program}{a:Goroutine}{w w':World}{o:Outcome}{es:Array Event}(hs:a.status = .running) (h:stepG P true a w = .ended o w' es):step P (solo a w) = .ended o w':=by
 rw [step,stepT_solo hs];simp [runT,solo,Array.swapAt!,Array.swapAt,h,GStep.es]
theorem Lost.status {p P:Program}{g:Goroutine}(h:Lost p P g):g.status = .running:=by cases h<;>rfl
theorem bd4 {p P:Program}:∀ (n:Nat) {g:Goroutine}{w:World}{m:Machine},Lost p P g->runN p n (solo g w) = .next m->∃ g' w',m=solo g' w'/\Lost p P g'
 | 0,g,w,m,h,hr=>by cases hr; exact ⟨g,w,rfl,h⟩
 | n+1,g,w,m,h,hr=>by
  rcases bd3 h w with ⟨o,w',es,e⟩ | ⟨g',e,h'⟩
  ·simp only [runN,am0 h.status e] at hr; cases hr
  ·simp only [runN,step_solo_go h.status e] at hr;exact bd4 n h' hr
theorem Lost.mode {p P:Program}{x:Frame}{xs:List Frame}(h:Lost p P (G x xs)):∃ ch,x.mode = .panicking ch:=by
 generalize hg:G x xs=g at h;cases h with
 | fr hm _ _=>simp only [G,Goroutine.mk.injEq] at hg; exact ⟨_,hg.1▸hm⟩
 | dm=>simp only [G,Goroutine.mk.injEq] at hg; exact ⟨_,by rw [hg.1]⟩
theorem bm3 (p:Program) (v:Value) (w:World):∃ o w' es,stepG p true (G ((dmF p).finish v) []) w = .ended o w' es:=by
 have hx : Extern.next "fmt's door!" = none := by rfl
 simp only [stepG,G,dmF,Frame.finish,stepG.exec,hx,Option.elim];exact ⟨_,_,_,rfl⟩
inductive Tree (p:Program) (Stop:Goroutine->World->Prop):Goroutine->World->Prop
 | stop {g:Goroutine}{w:World}(h:Stop g w):Tree p Stop g w
 | step {g:Goroutine}{w:World}(nx:Nat->Goroutine×World) (h:∀ d,∃ es,stepG p true g (w.at d) = .go (nx d).1 (nx d).2 es) (ih:∀ d,Tree p Stop (nx d).1 (nx d).2):Tree p Stop g w
theorem Tree.mk {p:Program}{Stop:Goroutine->World->Prop}{g:Goroutine}{w:World}(h:∀ d,∃ g' w' es,stepG p true g (w.at d) = .go g' w' es/\Tree p Stop g' w'):Tree p Stop g w:=
 .step (fun d=>((h d).choose,(h d).choose_spec.choose)) (fun d=>⟨_,(h d).choose_spec.choose_spec.choose_spec.1⟩) fun d=>(h d).choose_spec.choose_spec.choose_spec.2
def AtRet (p:Program) (f:FuncId) (Q:Value->World->Prop) (g:Goroutine) (w:World):Prop:=∃ fr v,g=G fr [dmF p]/\fr.fn=f/\fr.leaving p w (.returned v)/\Q v w
section
variable {p:Program}{Stop:Goroutine->World->Prop}
def bP1 (r:GStep):Prop:=∃ g' w' es,r = .go g' w' es/\∀ ch,g'.frame.mode≠.panicking ch
noncomputable def badD (p:Program) (Stop:Goroutine->World->Prop) (s:Goroutine×World):Nat:=
 open Classical in if h:∃ d,∀ g' w' es,stepG p true s.1 (s.2.at d) = .go g' w' es->¬ Tree p Stop g' w' then h.choose else 0
noncomputable def nxt (p:Program) (Stop:Goroutine->World->Prop) (s:Goroutine×World):Goroutine×World:=
 open Classical in if bP1 (stepG p true s.1 (s.2.at (badD p Stop s))) then (match stepG p true s.1 (s.2.at (badD p Stop s)) with | .go g' w' _=>(g',w') | _=>s) else s
noncomputable def sq (p:Program) (Stop:Goroutine->World->Prop) (s:Goroutine×World):Nat->Goroutine×World
 | 0=>s
 | i+1=>nxt p Stop (sq p Stop s i)
def bh7 (p:Program) (Stop:Goroutine->World->Prop) (s:Goroutine×World) (i:Nat):Prop:=bP1 (stepG p true (sq p Stop s i).1 ((sq p Stop s i).2.at (badD p Stop (sq p Stop s i))))
noncomputable def pos (p:Program) (Stop:Goroutine->World->Prop) (s:Goroutine×World):Nat->Nat
 | 0=>s.2.drawn
 | i+1=>pos p Stop s i+((sq p Stop s (i+1)).2.drawn-badD p Stop (sq p Stop s i))
def Here (p:Program) (Stop:Goroutine->World->Prop) (s:Goroutine×World) (n i:Nat):Prop:=n<pos p Stop s (i+1)\/¬ bh7 p Stop s i
noncomputable def bB6 (p:Program) (Stop:Goroutine->World->Prop) (s:Goroutine×World) (n:Nat):Question->Nat:=
 open Classical in if h:∃ i,Here p Stop s n i/\∀ j,j<i->¬ Here p Stop s n j then s.2.tape (badD p Stop (sq p Stop s h.choose)+(n-pos p Stop s h.choose)) else s.2.tape n
variable {s:Goroutine×World}
theorem bN3 {q:Goroutine×World}(h:¬ Tree p Stop q.1 q.2):∀ g' w' es,stepG p true q.1 (q.2.at (badD p Stop q)) = .go g' w' es->¬ Tree p Stop g' w':=by
 have hex:∃ d,∀ g' w' es,stepG p true q.1 (q.2.at d) = .go g' w' es->¬ Tree p Stop g' w':=by
  refine ly fun hc=>h (.mk fun d=>ly fun hd=>hc ⟨d,fun g' w' es e ht=>hd ⟨g',w',es,e,ht⟩⟩)
 unfold badD;rw [dif_pos hex];exact hex.choose_spec
theorem sq_go {i:Nat}{g':Goroutine}{w':World}{es:Array Event}(h:stepG p true (sq p Stop s i).1 ((sq p Stop s i).2.at (badD p Stop (sq p Stop s i))) = .go g' w' es) (hm:∀ ch,g'.frame.mode≠.panicking ch):bh7 p Stop s i/\sq p Stop s (i+1)=(g',w'):=by
 have hg:bP1 (stepG p true (sq p Stop s i).1 ((sq p Stop s i).2.at (badD p Stop (sq p Stop s i)))):=⟨g',w',es,h,hm⟩
 refine ⟨hg,?_⟩;show nxt p Stop (sq p Stop s i)=_;unfold nxt;rw [lm hg,h]
theorem bp8 (i:Nat):∀ j,i<=j->pos p Stop s i<=pos p Stop s j
 | 0,h=>by
  obtain rfl:i=0:=by omega
  exact lf _
 | j+1,h=>by
  rcases ug i (j+1) with h' | h'
  ·have:=bp8 i j (by omega)
   simp only [pos];omega
  ·obtain rfl:i=j+1:=by omega
   exact lf _
theorem bB5 {i:Nat}(hg:∀ j,j<i->bh7 p Stop s j) (k:Nat) (hk:pos p Stop s i+k<pos p Stop s (i+1)\/¬ bh7 p Stop s i) :
  bB6 p Stop s (pos p Stop s i+k)=s.2.tape (badD p Stop (sq p Stop s i)+k):=by
 have h1:Here p Stop s (pos p Stop s i+k) i:=hk;have h2:∀ j,j<i->¬ Here p Stop s (pos p Stop s i+k) j:=fun j hj hh=>by
  rcases hh with hh | hh
  ·have:=bp8 (p:=p) (Stop:=Stop) (s:=s) (j+1) i hj
   omega
  ·exact hh (hg j hj)
 have hex:∃ i',Here p Stop s (pos p Stop s i+k) i'/\∀ j,j<i'->¬ Here p Stop s (pos p Stop s i+k) j:=⟨i,h1,h2⟩
 have e:hex.choose=i:=by
  have hc:=hex.choose_spec;rcases xL hex.choose i with h | h | h
  ·exact absurd hc.1 (h2 _ h)
  ·exact h
  ·exact absurd h1 (hc.2 _ h)
 unfold bB6;rw [dif_pos hex,e];congr 1;omega
theorem WR.at' {C L:World}(h:WR C L) (d:Nat):WR C (L.at d):=⟨h.os,h.out,h.size,h.blk,h.nv,h.np,h.lp⟩
theorem WR.bv0 {C L:World}(h:WR C L) (e:C.heap=L.heap):WR L C:=⟨h.os.symm,h.out.symm,h.size.symm,fun b o ho=>⟨o,by rw [<-e]; exact ho,.inl rfl⟩,fun b a u=>by rw [e]; exact h.nv b a u,fun b a u=>by rw [e]; exact h.np b a u,fun b r=>by rw [e]; exact h.lp b r⟩
theorem bT9 {C L:World}(h:∀ b:Nat,C.heap[b]?=L.heap[b]?):C.heap=L.heap:=Array.ext_getElem? h
theorem a02 {g g':Goroutine}{w w':World}{es:Array Event}{k:Nat}{m:Machine}(hs:g.status = .running) (h:stepG p true g w = .go g' w' es) (hr:runN p (k+1) (solo g w) = .next m):runN p k (solo g' w') = .next m:=by
 simpa only [runN,step_solo_go hs h] using hr
theorem bN4 {f:FuncId}{x c:Frame}{v:Value}{w w':World}{k:Nat}{fr:Frame}(hr:runN p k (solo (G ((dmF p).finish v) []) w) = .next (lone fr [c] w')):False:=by
 cases k with
 | zero=>
  cases hr
 | succ k=>
  obtain ⟨o,w1,es,e⟩:=bm3 p v w;simp only [runN,am0 rfl e] at hr;cases hr
theorem road (h:Pair p p) {f:FuncId}{Q:Value->World->Prop}{s:Goroutine×World}{fr:Frame}{v:Value}{w':World}(hfn:fr.fn=f)
  (hl:fr.leaving p w' (.returned v)) (hQv:Q v w') (hQ:∀ v (w1 w2:World),w1.heap=w2.heap->w1.os=w2.os->w1.output=w2.output->Q v w1->Q v w2)
  (hres:∀ fn,p.funcs[f]?=some fn->∀ tmps,∃ v,∀ w,(results fn tmps).run p w = .ok v w):∀ (k i:Nat) (x:Frame) (xs:List Frame) (W:World),
  (sq p (AtRet p f Q) s i).1=G x (xs++[dmF p])->FrOK p p x->(∀ y∈xs,FrOK p p y)->¬ Tree p (AtRet p f Q) (sq p (AtRet p f Q) s i).1 (sq p (AtRet p f Q) s i).2->(∀ j,j<i->bh7 p (AtRet p f Q) s j)->
  WR W (sq p (AtRet p f Q) s i).2->W.heap=(sq p (AtRet p f Q) s i).2.heap->W.tape=bB6 p (AtRet p f Q) s->(sq p (AtRet p f Q) s i).2.tape=s.2.tape->W.drawn=pos p (AtRet p f Q) s i->
  runN p k (solo (G x (xs++[dmF p])) W) = .next (lone fr [dmF p] w')->False:=by
 intro k;induction k with
 | zero=>
  intro i x xs W hg hx hxs hnt hgo hw hh hT hT0 hd hr;simp only [runN,Stepped.next.injEq,solo,lone,Machine.mk.injEq,List.cons.injEq,Array.mk.injEq,G,Goroutine.mk.injEq,and_true,true_and] at hr;obtain ⟨rfl,rfl,hcs⟩:=hr;refine hnt (.stop ⟨x,v,?_,hfn,?_,hQ v _ _ hh hw.os hw.out hQv⟩)
  ·rw [hg]; simp only [G,hcs]
  ·obtain ⟨h1,h2,h3,fn,h4,h5⟩:=hl;refine ⟨h1,h2,h3,fn,h4,?_⟩;obtain ⟨v',hv'⟩:=hres fn (hfn▸h4) x.tmps;rw [hv'] at h5 ⊢;cases h5;rfl
 | succ k ih=>
  intro i x xs W hg hx hxs hnt hgo hw hh hT hT0 hd hr;generalize hS:AtRet p f Q=Stop at *
  generalize hq:sq p Stop s i=q at *
  have hrun:(G x (xs++[dmF p])).status = .running:=rfl;by_cases hG:bh7 p Stop s i
  ·
   have hG':=hG;unfold bh7 bP1 at hG';rw [hq,hg] at hG';obtain ⟨g',w1,es,e,hm⟩:=hG';obtain ⟨_,hnx⟩:=sq_go (i:=i) (s:=s) (Stop:=Stop) (p:=p) (by rw [hq,hg]; exact e) hm;have hpos:pos p Stop s (i+1)=pos p Stop s i+(w1.drawn-badD p Stop q):=by simp only [pos,hnx,hq]
   have hst:=aJ7 (mT:=true) (mP:=true) (C:=W) (L:=q.2.at (badD p Stop q)) (c:=dmF p) (csT:=[]) (csP:=[dmF p]) h hx hxs (hw.at' _) (fun b _=>by rw [hh]; rfl) (fun g2 L2 es2 e2 k hk=>by
    rw [e] at e2;cases e2;have hk':badD p Stop q+k<w1.drawn:=hk;have:=bB5 (p:=p) (Stop:=Stop) (s:=s) hgo k (.inl (by rw [hpos]; omega))
    rw [hT,hd,this,hq];show _=q.2.tape _;rw [hT0];rfl)
   have hnt':¬ Tree p Stop g' w1:=bN3 hnt g' w1 es (by rw [hg]; exact e);rw [e] at hst;generalize hr2:stepG p true (G x (xs++[dmF p])) W=r2 at hst;cases hst with
   | @go x' xs' C' _ _ hx' hxs' ho=>
    have hr':=a02 hrun hr2 hr;refine ih (i+1) x' xs' C' (by rw [hnx]) hx' hxs' (by rw [hnx]; exact hnt') (fun j hj=>?_) (by rw [hnx]; exact ho.wr) (by rw [hnx]; exact bT9 fun b=>ho.heq b (by rw [hh]; rfl)) (ho.tc.trans hT) (by rw [hnx]; exact ho.tl.trans hT0) ?_ hr'
    ·rcases ug j i with h' | h'
     ·exact hgo j h'
     ·obtain rfl:j=i:=by omega
      exact hG
    ·rw [hpos,ho.dr.2,hd];rfl
   | as4 hf _=>exact hf rfl
   | ret he hm ho=>
    have e3:∀ (w:World) (v:Value),doReturn p true x [dmF p] none v w = .go (G ((dmF p).finish v) []) w:=fun w v=>by simp only [doReturn,hx.kind]; rfl
    rw [e3,ac7] at hr2;exact bN4 (f:=f) (x:=x) (a02 hrun hr2 hr)
   | bad hb=>
    cases hb with
    | panic hm' _=>exact hm _ hm'
  ·
   have hst:=aJ7 (mT:=true) (mP:=true) (C:=q.2.at (badD p Stop q)) (L:=W) (c:=dmF p) (csT:=[]) (csP:=[dmF p]) h hx hxs (by
    have:=hw.bv0 hh
    exact ⟨this.os,this.out,this.size,this.blk,this.nv,this.np,this.lp⟩) (fun b _=>by rw [hh]; rfl) (fun g2 L2 es2 e2 k hk=>by
    have:=bB5 (p:=p) (Stop:=Stop) (s:=s) hgo k (.inr hG)
    rw [hT,hd,this,hq];show q.2.tape _=_;rw [hT0];rfl)
   generalize hr2:stepG p true (G x (xs++[dmF p])) W=r2 at hst;generalize hr3:stepG p true (G x (xs++[dmF p])) (q.2.at (badD p Stop q))=r3 at hst;cases hst with
   | @go x' xs' C' L' es hx' hxs' ho=>
    refine hG ?_;unfold bh7 bP1;rw [hq,hg];refine ⟨_,_,_,hr3,fun ch hc=>?_⟩;rcases hx'.mode with h | h<;>exact absurd (h.symm.trans hc) (by simp)
   | as4 hf _=>exact hf rfl
   | ret he hm ho=>exact bN4 (f:=f) (x:=x) (a02 hrun hr2 hr)
   | bad hb=>
    cases hb with
    | ended=>
     simp only [runN,am0 hrun hr2] at hr;cases hr
    | panic hm' hd'=>
     obtain ⟨g2,w2,e2,hlost⟩:=bd4 (P:=p) k (.fr hm' hd' fun y hy=>⟨(hxs y hy).defers,(hxs y hy).mode⟩) (a02 hrun hr2 hr);have e4:g2=G fr [dmF p]:=by
      simp only [solo,lone,Machine.mk.injEq,Array.mk.injEq,List.cons.injEq,and_true,true_and] at e2;exact e2.2.symm
     rw [e4] at hlost;obtain ⟨ch,hc⟩:=hlost.mode;exact absurd (hl.1.symm.trans hc) (by simp)
theorem aY2 (h:Pair p p) {f:FuncId}(hJ:LoopOK.fn f) {args:Array Value}{w:World}{Q:Value->World->Prop}(hw:WR w w)
  (hC:∀ T,Calls p f args { w with tape:=T } fun e w'=>∃ v,e = .returned v/\Q v w') (hQ:∀ v (w1 w2:World),w1.heap=w2.heap->w1.os=w2.os->w1.output=w2.output->Q v w1->Q v w2)
  {fn:Func}(hf:p.funcs[f]?=some fn) (hres:∀ tmps,∃ v,∀ w,(results fn tmps).run p w = .ok v w):Tree p (AtRet p f Q) (G (Frame.enter p f args .normal) [dmF p]) w:=by
 refine ly fun hn=>?_
 obtain ⟨e,w',fr,⟨v,rfl,hQv⟩,⟨N,hN⟩,hfn,hl⟩:=hC (bB6 p (AtRet p f Q) (G (Frame.enter p f args .normal) [dmF p],w)) [dmF p];exact road h (s:=(G (Frame.enter p f args .normal) [dmF p],w)) hfn hl hQv hQ (fun fn' hf'=>by rw [hf] at hf'; cases hf'; exact hres) N 0 (Frame.enter p f args .normal) []
  { w with tape:=bB6 p (AtRet p f Q) (G (Frame.enter p f args .normal) [dmF p],w) } rfl (aK6 h hJ hf args) (by simp) hn (by simp) ⟨hw.os,hw.out,hw.size,hw.blk,hw.nv,hw.np,hw.lp⟩ rfl rfl rfl rfl hN
end
end Hid
namespace Hid
open Go.RowKit Go.Conc
variable [LoopOK] [Junk]
def Wins (P:Program) (Post:Value->World->Prop) (m:Machine) (t:Trace):Prop:=
 ∃ N last o w' t',runNT P (N+1) m t=(.ended o w',t')/\runN P N m = .next last/\step P last = .ended o w'/\Go.Conc.Good P Post last o w' t'
section
variable {P:Program}{Post:Value->World->Prop}{Shun:Loc->Prop}
theorem Wins.step {m m':Machine}{t:Trace}{ops:Array MemOp}(h:stepT P m=(.next m',ops)) (hw:Wins P Post m' (t++ops)):Wins P Post m t:=by
 obtain ⟨N,last,o,w',t',h1,h2,h3,h4⟩:=hw;exact ⟨N+1,last,o,w',t',by rw [runNT_succ_next h]; exact h1,by rw [runN_succ_next h]; exact h2,h3,h4⟩
theorem bm8:∀ (M:Nat) {B:Nat}{gs:Array Goroutine}{a:Goroutine}{C:World}{sl:Option (Nat×Nat)}{t:Trace}{q:Nat->Nat},sumTo gs.size q<=M->gs[0]?=some a->a.status = .running->Leavers P t gs q->Past Shun B t->
  (∀ d,∃ a' C' es B',stepG P true a (C.at d) = .go a' C' es/\(∀ e∈es,EvL Shun B' e)/\B<=B'/\
   ∀ gs' sl' t' q',gs'[0]?=some a'->gs'.size=gs.size->Leavers P t' gs' q'->Past Shun B' t'->Wins P Post (crowd gs' C' sl') t')->Wins P Post (crowd gs C sl) t:=by
 intro M;induction M with
 | zero | succ M ih=>?_
 all_goals
  intro B gs a C sl t q hM h0 hrun hL hP hstep;have haw:∀ g∈gs,awake g:=by
   intro g hg;obtain ⟨i,hi,rfl⟩:=uf.1 hg;rcases xy i with rfl | hpos
   ·have:gs[0]=a:=by simpa [lD hi] using h0
    rw [this]; exact awake_of (.inl hrun)
   ·exact awake_of ((hL.old i _ hpos (lD hi)).status.elim .inl fun x=> .inr (.inr x))
  obtain ⟨i,g,d,sl',hi,hg,hst⟩:=crowd_pick (P:=P) (w:=C) (sl:=sl) haw ⟨0,a,h0,hrun⟩;rcases xy i with rfl | hpos
  ·obtain rfl:g=a:=by rw [h0] at hi; exact (sj hi).symm
   obtain ⟨a',C',es,B',hgo,hev,hB,hk⟩:=hstep d;have hrunT:=runT_crowd_go (P:=P) (sl:=sl') (i:=0) hi (show stepG P (0==0) g (C.at d)=_ from hgo);have hlt:0<gs.size:=(lh.1 h0).1;refine .step (hst.trans hrunT) (hk _ _ _ q (by simp [hlt]) (by simp) ⟨fun j x hj hx=>?_,fun j hj=>?_⟩ ((hP.mono hB).own hev))
   ·have hne:0≠j:=by omega
    rw [li hne,lZ] at hx;obtain ⟨y,hy,rfl⟩:=xk.1 hx;have hq:=hL.old j y hj hy;rw [woken_quitsD hq,Deaf_other t (by omega) _ (fun op hop=>by obtain ⟨e,_,rfl⟩:=lI hop; rfl)];exact hq
   ·rw [Deaf_other t (g':=0) (by simp at hj; omega) _ (fun op hop=>by obtain ⟨e,_,rfl⟩:=lI hop; rfl)];exact hL.above j (by simpa using hj)
  ·have hq:=hL.old i g hpos hi;have hi0:(i==0)=false:=by simp; omega
   have hlt:i<gs.size:=(lh.1 hi).1;cases hqi:q i with
   | zero=>rw [hqi] at hq; rw [hq.1] at hg; cases hg
   | succ k=>
    rw [hqi] at hq;rcases hq with ⟨hf,_⟩ | ⟨_,g',es,hm,hstp,hq'⟩
    ·rw [hf] at hg; cases hg
    have hsum:sumTo gs.size (upd q i k)+(k+1)=sumTo gs.size q+k:=by
     have:=sumTo_upd q k id hlt
     simpa [hqi] using this
    first
    | (exfalso; omega)
    | (have hrunT:=runT_crowd_go (P:=P) (sl:=sl') (i:=i) hi (by rw [hi0]; exact hstp (C.at d))
       have hsz:((gs.map (woken P g g' (C.at d))).setIfInBounds i g').size=gs.size:=by simp
       refine .step (hst.trans hrunT) (ih (B:=B) (a:=a) (q:=upd q i k) (by rw [hsz]; omega) ?_ hrun ⟨fun j x hj hx=>?_,fun j hj=>?_⟩ (hP.mute (by omega) hm) fun e=>?_)
       ·have hne:i≠0:=by omega
        rw [li hne,lZ,h0];simp [woken_run hrun]
       ·by_cases hji:i=j
        ·subst hji;rw [ll (by simpa using hlt)] at hx;obtain rfl:=sj hx
         rw [upd_same,Deaf_own];exact hq'
        ·rw [li hji,lZ] at hx;obtain ⟨y,hy,rfl⟩:=xk.1 hx;have hqj:=hL.old j y hj hy;rw [woken_quitsD hqj,upd_ne q k (xE hji),Deaf_other t hji _ (fun op hop=>by obtain ⟨e,_,rfl⟩:=lI hop; rfl)];exact hqj
       ·rw [Deaf_other t (g':=i) (by simp at hj; omega) _ (fun op hop=>by obtain ⟨e,_,rfl⟩:=lI hop; rfl)];exact hL.above j (by simpa using hj)
       ·obtain ⟨a',C',es',B',h1,h2,h3,h4⟩:=hstep e;exact ⟨a',C',es',B',h1,h2,h3,fun gs' sl' t' q' g0 gz=>h4 gs' sl' t' q' g0 (gz.trans hsz)⟩)
theorem co5 {L:World}(hs:∀ l,Shun l->∃ a T fz,l = .cell a/\L.heap[a.block]?=some (.cells #[] T fz)) {e:Event}(he:EvOK L e):EvL Shun L.heap.size e:=by
 obtain ⟨loc,wr,sy⟩:=e;have lt:∀ {b:Nat}{o:Obj},L.heap[b]?=some o->b<L.heap.size:=fun h=>(lh.1 h).1
 cases loc with
 | cell a=>
  obtain ⟨c,T,fz,h1,h2⟩:=he;refine ⟨fun x hx hsh=>?_,by simp,by simp,?_⟩
  ·rw [ofEvent_cell0] at hx;simp only [MemAct.touch?,sk] at hx;subst hx;obtain ⟨a',T',fz',e1,e2⟩:=hs _ hsh;cases e1;rw [h1] at e2;cases e2;simp at h2
  ·rw [ofEvent_cell0]; exact lt h1
 | obj r=>
  obtain ⟨o,h1,h2,_⟩:=he;refine ⟨fun x hx hsh=>?_,by simp,by simp,by cases wr<;>cases sy<;>exact lt h1⟩;have hl:x.loc = .obj r:=by cases wr<;>cases sy<;>simp [MemAct.ofEvent,MemAct.touch?] at hx<;>subst hx<;>rfl
  obtain ⟨a',T',fz',e1,_⟩:=hs _ hsh;rw [hl] at e1;cases e1
 | mark m=>
  cases m<;>first | exact he.elim | skip
  refine ⟨fun x hx hsh=>?_,by simp,by simp,trivial⟩;simp [MemAct.ofEvent,MemAct.touch?] at hx
 | output=>exact he.elim
 | goroutines=>exact he.elim
end
inductive Later (p:Program):Goroutine->World->Goroutine->World->Prop
 | refl (g:Goroutine) (w:World):Later p g w g w
 | step {g:Goroutine}{w:World}{d:Nat}{g':Goroutine}{w':World}{es:Array Event}{g2:Goroutine}{w2:World}(h:stepG p true g (w.at d) = .go g' w' es) (r:Later p g' w' g2 w2):Later p g w g2 w2
theorem Later.trans {p:Program}{a b c:Goroutine}{u v w:World}(h:Later p a u b v) (k:Later p b v c w):Later p a u c w:=by
 induction h with
 | refl=>exact k
 | step h _ ih=>exact .step h (ih k)
structure Sit (P:Program) (B0:Nat) (Shun:Loc->Prop) (B:Nat) (gs:Array Goroutine) (C L:World) (t:Trace) (q:Nat->Nat):Prop where
 lv:Leavers P t gs q
 past:Past Shun B t
 wr:WR C L
 low:B<=L.heap.size
 shun:∀ l,Shun l->∃ a T fz,l = .cell a/\L.heap[a.block]?=some (.cells #[] T fz)
 tape:C.tape=L.tape
 old:∀ b:Nat,b<B0->C.heap[b]?=U b L.heap[b]?
 big:B0<=L.heap.size
def Claim (p P:Program) (B0:Nat) (Post:Value->World->Prop) (g:Goroutine) (L:World):Prop:=
 ∀ (x:Frame) (xs:List Frame),g=G x (xs++[dmF p])->FrOK p P x->(∀ y∈xs,FrOK p P y)->∀ (Shun:Loc->Prop) (B:Nat) (gs:Array Goroutine) (C:World) (sl:Option (Nat×Nat)) (t:Trace) (q:Nat->Nat),
  Sit P B0 Shun B gs C L t q->gs[0]?=some (G x xs)->Wins P Post (crowd gs C sl) t
def cp8 (p P:Program) (B0:Nat) (Post:Value->World->Prop) (Stop:Goroutine->World->Prop) (f:FuncId):Prop:=
 ∀ (args:Array Value) (x:Frame) (xs:List Frame) (Shun:Loc->Prop) (B:Nat) (gs:Array Goroutine) (C L:World) (sl:Option (Nat×Nat)) (t:Trace) (q:Nat->Nat),
  FrOK p P x->(∀ y∈xs,FrOK p P y)->Sit P B0 Shun B gs C L t q->gs[0]?=some (G (Frame.enter P f args .normal) (x::xs))->Tree p Stop (G (Frame.enter p f args .normal) (x::xs++[dmF p])) L->
  (∀ g' L',Later p (G (Frame.enter p f args .normal) (x::xs++[dmF p])) L g' L'->Claim p P B0 Post g' L')->Wins P Post (crowd gs C sl) t
theorem bo3 {L L':World}(h:Stay L L') {b:Nat}{T:TypeId}{fz:Nat×Nat}(hb:L.heap[b]?=some (.cells #[] T fz)):∃ fz',L'.heap[b]?=some (.cells #[] T fz'):=by
 obtain ⟨c',fz',h1,h2⟩:=h.row b _ _ _ hb;obtain rfl:c' = #[]:=xW.1 (by simpa using h2)
 exact ⟨fz',h1⟩
section
variable {p P:Program}{B0:Nat}{Post:Value->World->Prop}{f:FuncId}{Q:Value->World->Prop}
theorem aO2 {g:Goroutine}{w:World}(ht:Tree p (AtRet p f Q) g w):¬ Lost p P g:=by
 induction ht with
 | stop h=>
  intro hl;obtain ⟨fr,v,rfl,_,⟨hm,_⟩,_⟩:=h;obtain ⟨ch,hc⟩:=hl.mode;exact absurd (hm.symm.trans hc) (by simp)
 | @step g w nx h _ ih=>
  intro hl;obtain ⟨es,e⟩:=h 0;rcases bd3 hl (w.at 0) with ⟨o,w',es',e'⟩ | ⟨g',e',hl'⟩
  ·rw [e] at e'; cases e'
  ·rw [e] at e';simp only [GStep.go.injEq] at e';exact ih 0 (e'.1▸hl')
theorem cc5 {v:Value}{w:World}(ht:Tree p (AtRet p f Q) (G ((dmF p).finish v) []) w):False:=by
 cases ht with
 | stop h=>
  obtain ⟨fr,v,e,_⟩:=h;simp [G] at e
 | step nx h _=>
  obtain ⟨es,e⟩:=h 0;obtain ⟨o,w',es',e'⟩:=bm3 p v (w.at 0);rw [e] at e';cases e'
theorem bx5 {v:Value}{w:World}{g:Goroutine}{w':World}(h:Later p (G ((dmF p).finish v) []) w g w'):g=G ((dmF p).finish v) []:=by
 cases h with
 | refl=>rfl
 | @step _ _ d _ _ _ _ _ h _=>
  obtain ⟨o,w',es',e'⟩:=bm3 p v (w.at d);rw [h] at e';cases e'
theorem Sit.step {P:Program}{Shun:Loc->Prop}{B:Nat}{gs:Array Goroutine}{C L:World}{t:Trace}{q:Nat->Nat}(h:Sit P B0 Shun B gs C L t q) (d:Nat) {C' L':World}{es:Array Event}(ho:Out (C.at d) (L.at d) C' L' #[] es)
  {gs':Array Goroutine}{t':Trace}{q':Nat->Nat}(hl:Leavers P t' gs' q') (hp:Past Shun L'.heap.size t'):Sit P B0 Shun L'.heap.size gs' C' L' t' q':=by
 refine ⟨hl,hp,ho.wr,lf _,fun l hs=>?_,?_,fun b hb=>ho.old b (h.old b hb),lW h.big ho.stay.size⟩
 ·obtain ⟨a,T,fz,e,hb⟩:=h.shun l hs;obtain ⟨fz',hb'⟩:=bo3 ho.stay hb;exact ⟨a,T,fz',e,hb'⟩
 ·rw [ho.tc,ho.tl]; exact h.tape
theorem Sit.ev {P:Program}{Shun:Loc->Prop}{B:Nat}{gs:Array Goroutine}{C L:World}{t:Trace}{q:Nat->Nat}(h:Sit P B0 Shun B gs C L t q) (d:Nat) {C' L':World}{es:Array Event}(ho:Out (C.at d) (L.at d) C' L' #[] es):(∀ e∈es,EvL Shun L'.heap.size e)/\B<=L'.heap.size:=by
 refine ⟨fun e he=>co5 (fun l hs=>?_) ?_,lW h.low ho.stay.size⟩
 ·obtain ⟨a,T,fz,e,hb⟩:=h.shun l hs;obtain ⟨fz',hb'⟩:=bo3 ho.stay hb;exact ⟨a,T,fz',e,hb'⟩
 ·obtain ⟨ns,e1,h1⟩:=ho.evs;rw [e1] at he;exact h1 e (by simpa using he)
theorem bz9 (h:Pair p P) (hB0:GB p B0) {f6:FuncId}(hgo:cp8 p P B0 Post (AtRet p f Q) f6)
  (hsp:∀ (k:FuncId),P.funcs[k]?≠p.funcs[k]?->(k=f6/\∃ Fn:Func,P.funcs[k]?=some Fn/\Fn.body.isSome)\/∃ fn s,p.funcs[k]?=some fn/\fn.body=some (.refuse s))
  (hin:P.inits.idxOf? f=none) {fn:Func}(hf:p.funcs[f]?=some fn) (hres:∀ tmps,∃ v,∀ (q:Program) (w:World) (es:Array Event),(results fn tmps).runT q w es=(.ok v w,es))
  (hPost:∀ v (C L:World),WR C L->(∀ b:Nat,b<B0->C.heap[b]?=U b L.heap[b]?)->Q v L->Post v C)
  {g:Goroutine}{L:World}(ht:Tree p (AtRet p f Q) g L):∀ g' L',Later p g L g' L'->Claim p P B0 Post g' L':=by
 induction ht with
 | @stop g L hs=>
  have hs':=hs;obtain ⟨fr,v,rfl,hfn,hl,hQ⟩:=hs;intro g' L' hlat;have key:Claim p P B0 Post (G fr [dmF p]) L:=by
   intro x xs hg hx hxs Shun B gs C sl t q hsit h0;simp only [G,Goroutine.mk.injEq,and_true,true_and] at hg;obtain ⟨rfl,hxs'⟩:=hg;obtain rfl:xs=[]:=by simpa using hxs'
   obtain ⟨hm,hd,hk,fn',hfn',hr⟩:=hl;obtain rfl:fn'=fn:=by rw [hfn,hf] at hfn'; exact (sj hfn').symm
   obtain ⟨Fn,hF,hE⟩:∃ Fn,P.funcs[fr.fn]?=some Fn/\Fn.results=fn'.results:=by
    obtain ⟨b,Fn,_,hF,hE⟩:=h.twin.fn _ _ hfn';exact ⟨Fn,hF,by rw [hE]⟩
   obtain ⟨v',hv'⟩:=hres fr.tmps;obtain rfl:v'=v:=by
    rw [<-Sem.runT_fst p _ L #[],hv'] at hr;cases hr;rfl
   refine beside_ends (D:=fun _ _ _=>False) (n:=0) (fun _ _ _ hf=>hf.elim) h0 hsit.lv hsit.past (fun w₁ hw₁=>?_);obtain ⟨d,rfl⟩:=hw₁;refine ⟨rfl,v',#[],?_,by simp,hPost _ _ L ⟨hsit.wr.os,hsit.wr.out,hsit.wr.size,hsit.wr.blk,hsit.wr.nv,hsit.wr.np,hsit.wr.lp⟩ hsit.old hQ⟩;have hin':P.inits.idxOf? fr.fn=none:=by rw [hfn]; exact hin
   have e:∀ w,stepG P true (G fr []) w=GStep.after (seen P fr.fn #[]) (.ended (.done v') w):=fun w=>by
    simp only [stepG,G,hm,unwind,hd];rw [hF];simp only [au5 (a:=Fn) (b:=fn') fr.tmps hE,hv',doReturn,hk,hin'];rfl
   rw [e];rfl
  cases hlat with
  | refl=>exact key
  | @step _ _ d g1 w1 es _ _ e r=>
   obtain ⟨hm,hd,hk,fn',hfn',hr⟩:=hl;obtain rfl:fn'=fn:=by rw [hfn,hf] at hfn'; exact (sj hfn').symm
   obtain ⟨v',hv'⟩:=hres fr.tmps;have e2:∀ w,stepG p true (G fr [dmF p]) w=GStep.after (seen p fr.fn #[]) (.go (G ((dmF p).finish v') []) w):=fun w=>by
    simp only [stepG,G,hm,unwind,hd];rw [hfn'];simp only [hv',doReturn,hk]
   rw [e2,ac7] at e;simp only [GStep.go.injEq] at e;obtain ⟨rfl,rfl,_⟩:=e;intro x xs hg;rw [bx5 r] at hg;simp [G] at hg
 | @step g L nx hst htr ih=>
  intro g' L' hlat;cases hlat with
  | @step _ _ d g1 w1 es _ _ e r=>
   obtain ⟨es',e'⟩:=hst d;rw [e] at e';simp only [GStep.go.injEq] at e';obtain ⟨rfl,rfl,_⟩:=e';exact ih d g' L' r
  | refl=>
   intro x xs hg hx hxs Shun B gs C sl t q hsit h0;subst hg;refine bm8 (sumTo gs.size q) (lf _) h0 rfl hsit.lv hsit.past fun d=>?_
   obtain ⟨es,e⟩:=hst d;have htr':=htr d;have ih':=ih d;have hstp:=aJ7 (mT:=true) (mP:=true) (C:=C.at d) (L:=L.at d) (c:=dmF p) (csT:=[]) (csP:=[]) h hx hxs ⟨hsit.wr.os,hsit.wr.out,hsit.wr.size,hsit.wr.blk,hsit.wr.nv,hsit.wr.np,hsit.wr.lp⟩ (hsit.wr.gl hB0 hsit.old) (fun g2 L2 es2 _ i _=>by
    show C.tape _=L.tape _;rw [hsit.tape];rfl)
   rw [e] at hstp;rw [uO] at hstp;generalize hr:stepG P true (G x xs) (C.at d)=r at hstp;generalize hn:nx d=n at *
   obtain ⟨g1,L1⟩:=n;simp only at hstp htr' ih'
   cases hstp with
   | @go x' xs' C' _ _ hx' hxs' ho=>
    refine ⟨G x' (xs'++[]),C',es,L1.heap.size,rfl,(hsit.ev d ho).1,(hsit.ev d ho).2,fun gs' sl' t' q' g0 _ hl hp=>?_⟩;exact ih' _ _ (.refl _ _) x' xs' rfl hx' hxs' Shun _ gs' C' sl' t' q' (hsit.step d ho hl hp) (by rw [g0,uO])
   | @as4 k args _ _ _ hne _ _ hr'=>
    rcases hsp k hne with ⟨rfl,Fn,hF,hb⟩ | ⟨fn1,s,hfn1,hb⟩
    ·rcases hr' with ⟨Fn',hF',hb'⟩ | ⟨C',rfl,ho⟩
     ·rw [hF] at hF';cases hF';rw [hb'] at hb;cases hb
     ·refine ⟨_,C',es,L1.heap.size,rfl,(hsit.ev d ho).1,(hsit.ev d ho).2,fun gs' sl' t' q' g0 _ hl hp=>?_⟩;exact hgo args x xs Shun _ gs' C' L1 sl' t' q' hx hxs (hsit.step d ho hl hp) (by rw [g0,uO]) htr' fun g2 L2 hl2=>ih' g2 L2 hl2
    ·exfalso;cases htr' with
     | stop hs=>
      obtain ⟨fr,v,e3,_,⟨hm,_⟩,_⟩:=hs;simp only [G,Goroutine.mk.injEq] at e3;rw [<-e3.1] at hm;cases hm
     | step nx2 h2 _=>
      obtain ⟨es2,e3⟩:=h2 0;simp only [stepG,G,Frame.enter,hfn1,lag,hb,lY,stepG.exec] at e3;cases e3
   | ret he hm ho=>exact (cc5 htr').elim
   | bad hb=>
    cases hb with
    | panic hm hd=>exact (aO2 (P:=P) htr' (.fr hm hd fun y hy=>⟨(hxs y hy).defers,(hxs y hy).mode⟩)).elim
end
end Hid
namespace Hid
open Go.RowKit Go.Conc
variable [LoopOK] [Junk]
structure AtOp (x:Frame) (o:Oper):Prop where
 mode:x.mode = .run
 kind:x.kind = .normal
 round:x.roundOf=none
 todo:∃ ops i rest k,x.todo = .inRegion ops (i::rest)::k/\ops[i]?=some o/\o.guard=none
section
variable {p P:Program}{x y:Frame}{o:Oper}
theorem AtOp.step (h:AtOp x o) (q:Program) (m:Bool) (cs:List Frame) (w:World):stepG q m (G x cs) w=stepG.apply q true x cs none (execOp x.eval o) w:=by
 obtain ⟨hm,_,hr,ops,i,rest,k,ht,ho,hg⟩:=h;have hw:(((ops[i]?).map (Region.wanted · (yielded ops x.tmps))).getD false)=true:=by
  rw [ho];simp [Region.wanted,hg]
 have ho':x.oper?=some o:=by simp only [Frame.oper?,ht,ho]
 simp only [stepG,G,hm,stepG.exec,ht,hw,xh,stepG.oper,ho',hr]
theorem AtOp.cm7 (h:AtOp x o):∀ d b r sv k,x.todo≠.call d b r sv::k:=by
 obtain ⟨_,_,_,ops,i,rest,k,ht,_,_⟩:=h;intro d b r sv k e;rw [ht] at e;simp at e
theorem AtOp.go (h:AtOp x o) {q:Program}{m:Bool}{cs:List Frame}{w w':World}{n:Next}{es:Array Event}(hr:(execOp x.eval o).runT q w #[]=(.ok n w',es)) (hp:PlainN n) :
  stepG q m (G x cs) w=match n with
   | .value v=> .go (G (x.finish v) cs) w' (seen q x.fn es)
   | .enter f args=> .go (G (Frame.enter q f args .normal) (x::cs)) w' (seen q x.fn es)
   | _=> .go (G (x.finish undef) cs) w' (seen q x.fn es):=by
 have hearly:(x.kind==CallKind.early)=false:=by rw [h.kind]; rfl
 have hk:=h.cm7;rw [h.step];unfold stepG.apply;simp only [hr,xh,hearly,lE,xn];cases hp<;>simp only [ac7]
 ·rfl
 ·rfl
 ·split
  ·rename_i e; exact (hk _ _ _ _ _ e).elim
  ·rfl
theorem AtOp.inv (h:AtOp x o) (hP:Pair p P) (hT:OpT p P o) {m:Bool}{cs:List Frame}{L L':World}{g':Goroutine}{es:Array Event}(hw:WR L L)
  (e:stepG p m (G x cs) L = .go g' L' es) (hn:∀ ch,g'.frame.mode≠.panicking ch):∃ n es0,(execOp x.eval o).runT p L #[]=(.ok n L',es0)/\PlainN n/\es=seen p x.fn es0:=by
 have hearly:(x.kind==CallKind.early)=false:=by rw [h.kind]; rfl
 cases hr:(execOp x.eval o).runT p L #[] with
 | mk r es0=>
  cases r with
  | ok n w=>
   have hp:=((hT x.eval fun _=>rfl).plain hP hw hr).1;have e2:=h.go (m:=m) (cs:=cs) hr hp;rw [e] at e2;refine ⟨n,es0,?_,hp,?_⟩
   ·cases hp<;>(simp only [GStep.go.injEq] at e2; rw [e2.2.1])
   ·cases hp<;>(simp only [GStep.go.injEq] at e2; exact e2.2.2)
  | halt hh w=>
   exfalso;have hn':=(hT x.eval fun _=>rfl).bK6 hP.twin hw hr;rw [h.step] at e;unfold stepG.apply at e;simp only [hr,xh,hearly,lE,xn] at e;cases hn' with
   | panic v=>
    simp only [ac7,GStep.go.injEq] at e;rw [<-e.1] at hn;have:x.raise [{ v,recovered:=false }]={ x with mode:= .panicking [{ v,recovered:=false }] }:=by
     unfold Frame.raise;rw [h.mode]
    exact hn [{ v,recovered:=false }] (by simp only [this])
   | uns u hu=>cases u<;>first | (simp [GStep.after] at e; done) | exact absurd rfl (hu _)
   | stuck s=>simp [GStep.after] at e
end
end Hid
namespace Hid
open Go.RowKit Go.Conc
open Go.ConcN (sumTo)
variable [LoopOK] [Junk]
inductive Idle (q:Program):Frame->Frame->Prop
 | refl (x:Frame):Idle q x x
 | step {x y z:Frame}(hm:x.mode = .run) (h:∀ m cs w,stepG q m (G x cs) w = .go (G y cs) w #[]) (r:Idle q y z):Idle q x z
theorem Idle.trans {q:Program}{x y z:Frame}(h:Idle q x y) (k:Idle q y z):Idle q x z:=by
 induction h with
 | refl=>exact k
 | step hm h _ ih=>exact .step hm h (ih k)
section
variable {p P:Program}{f:FuncId}{Q:Value->World->Prop}{Post:Value->World->Prop}{Shun:Loc->Prop}
theorem as9 {x:Frame}{cs:List Frame}{L:World}(hm:x.mode = .run):¬ AtRet p f Q (G x cs) L:=by
 rintro ⟨fr,v,e,_,⟨h,_⟩,_⟩;simp only [G,Goroutine.mk.injEq] at e;rw [<-e.1,hm] at h;cases h
theorem Tree.adv {g g':Goroutine}{L L':World}{d:Nat}{es:Array Event}(ht:Tree p (AtRet p f Q) g L) (hn:¬ AtRet p f Q g L) (e:stepG p true g (L.at d) = .go g' L' es):Tree p (AtRet p f Q) g' L':=by
 cases ht with
 | stop h=>exact absurd h hn
 | step nx h ih=>
  obtain ⟨es',e'⟩:=h d;rw [e] at e';simp only [GStep.go.injEq] at e';obtain ⟨rfl,rfl,_⟩:=e';exact ih d
theorem Tree.goes {g:Goroutine}{L:World}(ht:Tree p (AtRet p f Q) g L) (hn:¬ AtRet p f Q g L) (d:Nat):∃ g' L' es,stepG p true g (L.at d) = .go g' L' es/\Tree p (AtRet p f Q) g' L'/\Later p g L g' L':=by
 cases ht with
 | stop h=>exact absurd h hn
 | step nx h ih=>
  obtain ⟨es,e⟩:=h d;exact ⟨_,_,es,e,ih d,.step e (.refl _ _)⟩
end
end Hid
namespace Hid
open Go.RowKit Go.Conc
structure Area where
 Bx:Nat->Prop
 Wg:Nat
 Ch:Nat
 Shun:Loc->Prop
 n:Nat
def st0 (Wg:Nat):Addr:=⟨Wg,0,none⟩
namespace Area
variable (A:Area)
def hid (l:Loc):Prop:=(∃ a,l = .cell a/\(A.Bx a.block\/a.block=A.Wg))\/l = .obj A.Ch
def qn (x:Touch):Prop:=(∃ a,x.loc = .cell a/\A.Bx a.block/\x.write=false/\x.kind = .plain)\/(∃ a,x.loc = .cell a/\a.block=A.Wg/\x.kind = .atomic)\/(x.loc = .obj A.Ch/\x.kind = .atomic)
def q0 (x:Touch):Prop:=(∃ a,x.loc = .cell a/\A.Bx a.block/\x.write=false/\x.kind = .plain)\/(∃ a,x.loc = .cell a/\a.block=A.Wg/\x.kind≠.plain)\/(x.loc = .obj A.Ch/\x.kind = .atomic)
def ok0 (x:MemAct):Prop:=(∀ b,x.touch?=some b->A.q0 b)/\x≠.mark (.release (st0 A.Wg))
def okn (x:MemAct):Prop:=(∀ b,x.touch?=some b->(¬ A.hid b.loc/\(A.Shun b.loc->b.kind≠.plain))\/A.qn b)/\x≠.mark (.release (st0 A.Wg))
end Area
structure Apart (A:Area):Prop where
 bx:∀ b,A.Bx b->b≠A.Wg
 shun:∀ l,A.Shun l->¬ A.hid l
 n:0<A.n
structure TI (A:Area) (B:Nat) (t:Trace):Prop where
 clean:∀ said,¬ Race said t
 k0:∀ i a,touchAt t i=some a->a.loc.isMemory=true->Knows t 0 i\/(A.Shun a.loc/\a.kind = .atomic)\/(t.g? i=some A.n/\((¬ A.hid a.loc/\(A.Shun a.loc->a.kind≠.plain))\/A.qn a))
 kn:∀ i a,touchAt t i=some a->a.loc.isMemory=true->Knows t A.n i\/(A.Shun a.loc/\a.kind = .atomic)\/(t.g? i=some 0/\A.q0 a)
 over:∀ i g,t.g? i=some g->g≠0->t.counts i->(∃ j,t.g? j=some 0/\HappensBefore t i j)\/g=A.n
 norel:NoRelease (st0 A.Wg) t
 seen:∀ op∈t,op.act.low B
section
variable {A:Area}{B:Nat}{t:Trace}
theorem bw7 {a:Touch}(h:¬ A.hid a.loc):¬ A.q0 a:=by
 rintro (⟨x,h1,h2,_⟩ | ⟨x,h1,h2,_⟩ | ⟨h1,_⟩)
 ·exact h (.inl ⟨x,h1,.inl h2⟩)
 ·exact h (.inl ⟨x,h1,.inr h2⟩)
 ·exact h (.inr h1)
theorem bb9 {a:Touch}(h:A.q0 a):A.hid a.loc:=ly fun hn=>bw7 hn h
theorem ck2 {a:Touch}(h:A.qn a):A.hid a.loc:=by
 rcases h with ⟨x,h1,h2,_⟩ | ⟨x,h1,h2,_⟩ | ⟨h1,_⟩
 ·exact .inl ⟨x,h1,.inl h2⟩
 ·exact .inl ⟨x,h1,.inr h2⟩
 ·exact .inr h1
theorem am1 (hA:Apart A) {said:Bool}{a b:Touch}(h:A.q0 a) (k:A.qn b):¬ a.conflicts said b/\¬ b.conflicts said a:=by
 have key:a.loc=b.loc->(a.write=false/\b.write=false)\/(a.kind≠.plain/\b.kind = .atomic):=fun e=>by
  rcases h with ⟨x,h1,h2,h3,h4⟩ | ⟨x,h1,h2,h3⟩ | ⟨h1,h2⟩<;>rcases k with ⟨y,k1,k2,k3,k4⟩ | ⟨y,k1,k2,k3⟩ | ⟨k1,k2⟩
  ·exact .inl ⟨h3,k3⟩
  ·rw [h1,k1] at e;cases e;exact absurd k2 (hA.bx _ h2)
  ·rw [h1,k1] at e; cases e
  ·rw [h1,k1] at e;cases e;exact absurd h2 (hA.bx _ k2)
  ·exact .inr ⟨h3,k3⟩
  ·rw [h1,k1] at e; cases e
  ·rw [h1,k1] at e; cases e
  ·rw [h1,k1] at e; cases e
  ·exact .inr ⟨by rw [h2]; simp,k2⟩
 refine ⟨fun hc=>?_,fun hc=>?_⟩
 ·rcases key hc.1 with ⟨e1,e2⟩ | ⟨e1,e2⟩
  ·rcases hc.2.2.1 with x | x
   ·rw [e1] at x; cases x
   ·rw [e2] at x; cases x
  ·rcases hc.2.2.2 with x | x | ⟨_,_,x⟩
   ·exact e1 x
   ·rw [e2] at x; cases x
   ·rw [e2] at x; cases x
 ·rcases key hc.1.symm with ⟨e1,e2⟩ | ⟨e1,e2⟩
  ·rcases hc.2.2.1 with x | x
   ·rw [e2] at x; cases x
   ·rw [e1] at x; cases x
  ·rcases hc.2.2.2 with x | x | ⟨_,x,_⟩
   ·rw [e2] at x; cases x
   ·exact e1 x
   ·rw [e2] at x; cases x
theorem aV6 {u:Trace}{i:Nat}{op:MemOp}(hi:u[i]?=some op) (hn:op.act.touch?=none):¬ u.counts i:=by
 rintro ⟨x,hx,_⟩;obtain ⟨op',h1,h2⟩:=touch_of hx;rw [hi] at h1;cases h1;rw [hn] at h2;cases h2
theorem an3 {u:Trace}{i g:Nat}(h:t.g? i=some g):(t++u).g? i=some g:=by
 obtain ⟨op,ho,_⟩:=xk.1 h;rw [g?_old (lt_size_of_getElem? ho)];exact h
theorem au7 {C:Nat->Nat->Prop}{u:Trace}(h:∀ i g,t.g? i=some g->g≠0->t.counts i->(∃ j,t.g? j=some 0/\HappensBefore t i j)\/C i g)
  (hu:∀ i op,t.size<=i->(t++u)[i]?=some op->op.g≠0->(t++u).counts i->C i op.g) :
  ∀ i g,(t++u).g? i=some g->g≠0->(t++u).counts i->(∃ j,(t++u).g? j=some 0/\HappensBefore (t++u) i j)\/C i g:=by
 intro i g hg hne hc;obtain ⟨op,hop,rfl⟩:=xk.1 hg;rcases getElem?_append_cases hop with ⟨hi,hop'⟩ | ⟨hi,_⟩
 ·refine (h i op.g (by simp [Trace.g?,hop']) hne ((counts_old hi).1 hc)).imp (fun ⟨j,hj,hb⟩=>⟨j,an3 hj,hb_app u hb⟩) id
 ·exact .inr (hu i op hi hop hne hc)
theorem TI.mute (h:TI A B t) {u:Trace}(hn:∀ op∈u,op.act.touch?=none) (hr:∀ op∈u,op.act≠.mark (.release (st0 A.Wg))) (hl:∀ op∈u,op.act.low B):TI A B (t++u):=by
 have old:∀ i a,touchAt (t++u) i=some a->touchAt t i=some a/\i<t.size:=fun i a ha=>by
  obtain ⟨x,hx,hxa⟩:=touch_of ha;rcases getElem?_append_cases hx with ⟨hi,hx'⟩ | ⟨_,hxu⟩
  ·exact ⟨by rw [touchAt_of hx']; exact hxa,hi⟩
  ·rw [hn x hxu] at hxa; cases hxa
 refine ⟨fun said=>?_,fun i a ha hm=>?_,fun i a ha hm=>?_,?_,h.norel.app hr,seen_app h.seen hl⟩
 ·rintro ⟨i,j,hij,⟨a,b,ha,hb,hc⟩,n1,n2⟩;obtain ⟨ha',hi⟩:=old i a ha;obtain ⟨hb',hj⟩:=old j b hb;exact h.clean said ⟨i,j,hij,⟨a,b,ha',hb',hc⟩,fun e=>n1 (hb_app u e),fun e=>n2 (hb_app u e)⟩
 ·obtain ⟨ha',hi⟩:=old i a ha;rcases h.k0 i a ha' hm with x | x | ⟨x,y⟩
  ·exact .inl (x.app u)
  ·exact .inr (.inl x)
  ·exact .inr (.inr ⟨an3 x,y⟩)
 ·obtain ⟨ha',hi⟩:=old i a ha;rcases h.kn i a ha' hm with x | x | ⟨x,y⟩
  ·exact .inl (x.app u)
  ·exact .inr (.inl x)
  ·exact .inr (.inr ⟨an3 x,y⟩)
 ·refine au7 h.over fun i op hi hop hne hc=>?_
  rcases getElem?_append_cases hop with ⟨h1,_⟩ | ⟨_,hm⟩
  ·omega
  ·exact absurd hc (aV6 hop (hn op hm))
theorem TI.app0 (hA:Apart A) (h:TI A B t) {B':Nat}(hB:B<=B') {u:Trace}(hg:∀ op∈u,op.g=0) (hu:∀ op∈u,A.ok0 op.act) (hl:∀ op∈u,op.act.low B'):TI A B' (t++u):=by
 refine ⟨fun said=>noRace_append (h.clean said) hg fun i a ha op hop b hb hc=>?_,fun i a ha hm=>?_,fun i a ha hm=>?_,?_,h.norel.app fun op hop=>(hu op hop).2,seen_app (fun op hop=>MemAct.low_mono hB (h.seen op hop)) hl⟩
 ·have hq:=(hu op hop).1 b hb;rcases h.k0 i a ha hc.2.1 with x | ⟨x,y⟩ | ⟨_,x | x⟩
  ·exact x
  ·exact absurd (bb9 hq) (by rw [<-hc.1]; exact hA.shun _ x)
  ·exact absurd (bb9 hq) (by rw [<-hc.1]; exact x.1)
  ·exact absurd hc (am1 hA hq x).2
 ·obtain ⟨x,hx,hxa⟩:=touch_of ha;rcases getElem?_append_cases hx with ⟨hi,hx'⟩ | ⟨_,hxu⟩
  ·rcases h.k0 i a (by rw [touchAt_of hx']; exact hxa) hm with x | x | ⟨x,y⟩
   ·exact .inl (x.app u)
   ·exact .inr (.inl x)
   ·exact .inr (.inr ⟨an3 x,y⟩)
  ·have:=knows_own hx
   rw [hg x hxu] at this;exact .inl this
 ·obtain ⟨x,hx,hxa⟩:=touch_of ha;rcases getElem?_append_cases hx with ⟨hi,hx'⟩ | ⟨_,hxu⟩
  ·rcases h.kn i a (by rw [touchAt_of hx']; exact hxa) hm with x | x | ⟨x,y⟩
   ·exact .inl (x.app u)
   ·exact .inr (.inl x)
   ·exact .inr (.inr ⟨an3 x,y⟩)
  ·exact .inr (.inr ⟨by simp [Trace.g?,hx,hg x hxu],(hu x hxu).1 a hxa⟩)
 ·refine au7 h.over fun i op hi hop hne hc=>?_
  rcases getElem?_append_cases hop with ⟨h1,_⟩ | ⟨_,hm⟩
  ·omega
  ·exact absurd (hg op hm) hne
theorem TI.appn (hA:Apart A) (h:TI A B t) {B':Nat}(hB:B<=B') {u:Trace}(hg:∀ op∈u,op.g=A.n) (hu:∀ op∈u,A.okn op.act) (hl:∀ op∈u,op.act.low B'):TI A B' (t++u):=by
 refine ⟨fun said=>noRace_append (h.clean said) hg fun i a ha op hop b hb hc=>?_,fun i a ha hm=>?_,fun i a ha hm=>?_,?_,h.norel.app fun op hop=>(hu op hop).2,seen_app (fun op hop=>MemAct.low_mono hB (h.seen op hop)) hl⟩
 ·rcases h.kn i a ha hc.2.1 with x | ⟨x,y⟩ | ⟨_,x⟩
  ·exact x
  ·rcases (hu op hop).1 b hb with ⟨hv,hs⟩ | hv
   ·exfalso;have hs:=hs (hc.1▸x);obtain ⟨_,_,_,hcase⟩:=hc;rw [y] at hcase;rcases hcase with z | z | ⟨_,z,_⟩
    ·cases z
    ·exact hs z
    ·cases z
   ·exact absurd (ck2 hv) (by rw [<-hc.1]; exact hA.shun _ x)
  ·rcases (hu op hop).1 b hb with ⟨hv,_⟩ | hv
   ·exact absurd (bb9 x) (by rw [hc.1]; exact hv)
   ·exact absurd hc (am1 hA x hv).1
 ·obtain ⟨x,hx,hxa⟩:=touch_of ha;rcases getElem?_append_cases hx with ⟨hi,hx'⟩ | ⟨_,hxu⟩
  ·rcases h.k0 i a (by rw [touchAt_of hx']; exact hxa) hm with x | x | ⟨x,y⟩
   ·exact .inl (x.app u)
   ·exact .inr (.inl x)
   ·exact .inr (.inr ⟨an3 x,y⟩)
  ·exact .inr (.inr ⟨by simp [Trace.g?,hx,hg x hxu],(hu x hxu).1 a hxa⟩)
 ·obtain ⟨x,hx,hxa⟩:=touch_of ha;rcases getElem?_append_cases hx with ⟨hi,hx'⟩ | ⟨_,hxu⟩
  ·rcases h.kn i a (by rw [touchAt_of hx']; exact hxa) hm with x | x | ⟨x,y⟩
   ·exact .inl (x.app u)
   ·exact .inr (.inl x)
   ·exact .inr (.inr ⟨an3 x,y⟩)
  ·have:=knows_own hx
   rw [hg x hxu] at this;exact .inl this
 ·refine au7 h.over fun i op hi hop hne hc=>?_
  rcases getElem?_append_cases hop with ⟨h1,_⟩ | ⟨_,hm⟩
  ·omega
  ·exact hg op hm
def Area.atWg (A:Area) (x:Touch):Prop:=∃ a,x.loc = .cell a/\a.block=A.Wg/\x.kind = .atomic
structure TJ (A:Area) (B r:Nat) (t:Trace):Prop where
 clean:∀ said,¬ Race said t
 k0:∀ i a,touchAt t i=some a->a.loc.isMemory=true->Knows t 0 i\/(A.Shun a.loc/\a.kind = .atomic)\/(t.g? i=some A.n/\((¬ A.hid a.loc/\(A.Shun a.loc->a.kind≠.plain))\/A.qn a)/\i<r)\/A.atWg a
 kn:∀ i a,touchAt t i=some a->a.loc.isMemory=true->Knows t A.n i\/(A.Shun a.loc/\a.kind = .atomic)\/(t.g? i=some 0/\A.q0 a)
 over:∀ i g,t.g? i=some g->g≠0->t.counts i->(∃ j,t.g? j=some 0/\HappensBefore t i j)\/(g=A.n/\i<r)
 norel:NoRelease (st0 A.Wg) t
 seen:∀ op∈t,op.act.low B
 rel:t.act? r=some (.mark (.releaseMerge (st0 A.Wg)))/\t.g? r=some A.n/\t.heard r
theorem TI.release (h:TI A B t) (hW:A.Wg<B) (hd:Deaf t A.n=0) (fn:FuncId) (pos:String):TJ A B t.size (t++#[{ g:=A.n,fn,pos,act:= .mark (.releaseMerge (st0 A.Wg)) }]):=by
 have k:TI A B (t++#[{ g:=A.n,fn,pos,act:= .mark (.releaseMerge (st0 A.Wg)) }]):=h.mute (fun op hop=>by simp at hop; subst hop; rfl) (fun op hop=>by simp at hop; subst hop; simp) (fun op hop=>by simp at hop; subst hop; exact hW);have hy:(t++#[({ g:=A.n,fn,pos,act:= .mark (.releaseMerge (st0 A.Wg)) }:MemOp)])[t.size]?=some { g:=A.n,fn,pos,act:= .mark (.releaseMerge (st0 A.Wg)) }:=by simp
 have lt:∀ i a,touchAt (t++#[({ g:=A.n,fn,pos,act:= .mark (.releaseMerge (st0 A.Wg)) }:MemOp)]) i=some a->i<t.size:=fun i a ha=>by
  obtain ⟨x,hx,hxa⟩:=touch_of ha;rcases getElem?_append_cases hx with ⟨hi,_⟩ | ⟨_,hxu⟩
  ·exact hi
  ·simp at hxu; subst hxu; cases hxa
 refine ⟨k.clean,fun i a ha hm=>?_,k.kn,fun i g hg hne hc=>?_,k.norel,k.seen,by rw [act?_of hy],by simp [Trace.g?],A.n,by simp [Trace.g?],by rw [deaf_old (lf _)]; exact hd⟩
 ·rcases k.k0 i a ha hm with x | x | ⟨x,y⟩
  ·exact .inl x
  ·exact .inr (.inl x)
  ·exact .inr (.inr (.inl ⟨x,y,lt i a ha⟩))
 ·refine (k.over i g hg hne hc).imp id fun e=>⟨e,?_⟩
  obtain ⟨x,hx,_⟩:=hc;exact lt i x hx
theorem TJ.bj4 {r:Nat}(h:TJ A B r t) (u:Trace):(t++u).act? r=some (.mark (.releaseMerge (st0 A.Wg)))/\(t++u).g? r=some A.n/\(t++u).heard r:=by
 have hr:=lt_of_act? h.rel.1;exact ⟨by rw [act?_old hr]; exact h.rel.1,an3 h.rel.2.1,(heard_old hr).2 h.rel.2.2⟩
theorem TJ.mute {r:Nat}(h:TJ A B r t) {u:Trace}(hn:∀ op∈u,op.act.touch?=none) (hr:∀ op∈u,op.act≠.mark (.release (st0 A.Wg))) (hl:∀ op∈u,op.act.low B):TJ A B r (t++u):=by
 have old:∀ i a,touchAt (t++u) i=some a->touchAt t i=some a/\i<t.size:=fun i a ha=>by
  obtain ⟨x,hx,hxa⟩:=touch_of ha;rcases getElem?_append_cases hx with ⟨hi,hx'⟩ | ⟨_,hxu⟩
  ·exact ⟨by rw [touchAt_of hx']; exact hxa,hi⟩
  ·rw [hn x hxu] at hxa; cases hxa
 refine ⟨fun said=>?_,fun i a ha hm=>?_,fun i a ha hm=>?_,?_,h.norel.app hr,seen_app h.seen hl,h.bj4 u⟩
 ·rintro ⟨i,j,hij,⟨a,b,ha,hb,hc⟩,n1,n2⟩;obtain ⟨ha',hi⟩:=old i a ha;obtain ⟨hb',hj⟩:=old j b hb;exact h.clean said ⟨i,j,hij,⟨a,b,ha',hb',hc⟩,fun e=>n1 (hb_app u e),fun e=>n2 (hb_app u e)⟩
 ·obtain ⟨ha',hi⟩:=old i a ha;rcases h.k0 i a ha' hm with x | x | ⟨x,y⟩ | x
  ·exact .inl (x.app u)
  ·exact .inr (.inl x)
  ·exact .inr (.inr (.inl ⟨an3 x,y⟩))
  ·exact .inr (.inr (.inr x))
 ·obtain ⟨ha',hi⟩:=old i a ha;rcases h.kn i a ha' hm with x | x | ⟨x,y⟩
  ·exact .inl (x.app u)
  ·exact .inr (.inl x)
  ·exact .inr (.inr ⟨an3 x,y⟩)
 ·refine au7 (C:=fun i g=>g=A.n/\i<r) h.over fun i op hi hop hne hc=>?_
  rcases getElem?_append_cases hop with ⟨h1,_⟩ | ⟨_,hm⟩
  ·omega
  ·exact absurd hc (aV6 hop (hn op hm))
theorem TJ.app0 (hA:Apart A) {r:Nat}(h:TJ A B r t) {B':Nat}(hB:B<=B') {u:Trace}(hg:∀ op∈u,op.g=0) (hu:∀ op∈u,A.ok0 op.act) (hl:∀ op∈u,op.act.low B'):TJ A B' r (t++u):=by
 refine ⟨fun said=>noRace_append (h.clean said) hg fun i a ha op hop b hb hc=>?_,fun i a ha hm=>?_,fun i a ha hm=>?_,?_,h.norel.app fun op hop=>(hu op hop).2,seen_app (fun op hop=>MemAct.low_mono hB (h.seen op hop)) hl,h.bj4 u⟩
 ·have hq:=(hu op hop).1 b hb;rcases h.k0 i a ha hc.2.1 with x | ⟨x,y⟩ | ⟨_,x | x,_⟩ | ⟨x,h1,h2,h3⟩
  ·exact x
  ·exact absurd (bb9 hq) (by rw [<-hc.1]; exact hA.shun _ x)
  ·exact absurd (bb9 hq) (by rw [<-hc.1]; exact x.1)
  ·exact absurd hc (am1 hA hq x).2
  ·exact absurd hc (am1 hA hq (.inr (.inl ⟨x,h1,h2,h3⟩))).2
 ·obtain ⟨x,hx,hxa⟩:=touch_of ha;rcases getElem?_append_cases hx with ⟨hi,hx'⟩ | ⟨_,hxu⟩
  ·rcases h.k0 i a (by rw [touchAt_of hx']; exact hxa) hm with x | x | ⟨x,y⟩ | x
   ·exact .inl (x.app u)
   ·exact .inr (.inl x)
   ·exact .inr (.inr (.inl ⟨an3 x,y⟩))
   ·exact .inr (.inr (.inr x))
  ·have:=knows_own hx
   rw [hg x hxu] at this;exact .inl this
 ·obtain ⟨x,hx,hxa⟩:=touch_of ha;rcases getElem?_append_cases hx with ⟨hi,hx'⟩ | ⟨_,hxu⟩
  ·rcases h.kn i a (by rw [touchAt_of hx']; exact hxa) hm with x | x | ⟨x,y⟩
   ·exact .inl (x.app u)
   ·exact .inr (.inl x)
   ·exact .inr (.inr ⟨an3 x,y⟩)
  ·exact .inr (.inr ⟨by simp [Trace.g?,hx,hg x hxu],(hu x hxu).1 a hxa⟩)
 ·refine au7 (C:=fun i g=>g=A.n/\i<r) h.over fun i op hi hop hne hc=>?_
  rcases getElem?_append_cases hop with ⟨h1,_⟩ | ⟨_,hm⟩
  ·omega
  ·exact absurd (hg op hm) hne
theorem TJ.appn (hA:Apart A) {r:Nat}(h:TJ A B r t) {u:Trace}(hg:∀ op∈u,op.g=A.n) (hu:∀ op∈u,(∀ b,op.act.touch?=some b->A.atWg b)/\op.act≠.mark (.release (st0 A.Wg))) (hl:∀ op∈u,op.act.low B)
  (hc:∀ i,t.size<=i->¬ (t++u).counts i):TJ A B r (t++u):=by
 refine ⟨fun said=>noRace_append (h.clean said) hg fun i a ha op hop b hb hc=>?_,fun i a ha hm=>?_,fun i a ha hm=>?_,?_,h.norel.app fun op hop=>(hu op hop).2,seen_app h.seen hl,h.bj4 u⟩
 ·obtain ⟨y,k1,k2,k3⟩:=(hu op hop).1 b hb;rcases h.kn i a ha hc.2.1 with x | ⟨x,y'⟩ | ⟨_,x⟩
  ·exact x
  ·exact absurd (.inl ⟨y,hc.1.trans k1,.inr k2⟩) (hA.shun _ x)
  ·exact absurd hc (am1 hA x (.inr (.inl ⟨y,k1,k2,k3⟩))).1
 ·obtain ⟨x,hx,hxa⟩:=touch_of ha;rcases getElem?_append_cases hx with ⟨hi,hx'⟩ | ⟨_,hxu⟩
  ·rcases h.k0 i a (by rw [touchAt_of hx']; exact hxa) hm with x | x | ⟨x,y⟩ | x
   ·exact .inl (x.app u)
   ·exact .inr (.inl x)
   ·exact .inr (.inr (.inl ⟨an3 x,y⟩))
   ·exact .inr (.inr (.inr x))
  ·exact .inr (.inr (.inr ((hu x hxu).1 a hxa)))
 ·obtain ⟨x,hx,hxa⟩:=touch_of ha;rcases getElem?_append_cases hx with ⟨hi,hx'⟩ | ⟨_,hxu⟩
  ·rcases h.kn i a (by rw [touchAt_of hx']; exact hxa) hm with x | x | ⟨x,y⟩
   ·exact .inl (x.app u)
   ·exact .inr (.inl x)
   ·exact .inr (.inr ⟨an3 x,y⟩)
  ·have:=knows_own hx
   rw [hg x hxu] at this;exact .inl this
 ·exact au7 (C:=fun i g=>g=A.n/\i<r) h.over fun i op hi _ _ hcc=>absurd hcc (hc i hi)
def Area.bF2 (A:Area) (l:Loc):Prop:=A.Shun l\/∃ a,l = .cell a/\a.block=A.Wg
theorem TJ.acquire {r:Nat}(h:TJ A B r t) (hW:A.Wg<B) (hd:Deaf t 0=0) (fn:FuncId) (pos:String):Past A.bF2 B (t++#[{ g:=0,fn,pos,act:= .mark (.acquire (st0 A.Wg)) }]):=by
 have k:TJ A B r (t++#[{ g:=0,fn,pos,act:= .mark (.acquire (st0 A.Wg)) }]):=h.mute (fun op hop=>by simp at hop; subst hop; rfl) (fun op hop=>by simp at hop; subst hop; simp) (fun op hop=>by simp at hop; subst hop; exact hW);have hr:=lt_of_act? h.rel.1;generalize hu:t++#[({ g:=0,fn,pos,act:= .mark (.acquire (st0 A.Wg)) }:MemOp)]=u at *
 have hy:u[t.size]?=some { g:=0,fn,pos,act:= .mark (.acquire (st0 A.Wg)) }:=by rw [<-hu]; simp
 have hh:u.heard t.size:=⟨0,by simp [Trace.g?,hy],by rw [<-hu,deaf_old (lf _)]; exact hd⟩
 have edge:HappensBefore u r t.size:= .single (.inr ⟨.marked hr (.inr k.rel.1) (by rw [act?_of hy]) (fun q _ _=>k.norel q),k.rel.2.2,hh⟩);have kn:∀ i,u.g? i=some A.n->i<r->HappensBefore u i t.size:=fun i hi hlt=> .trans (.single (.inl ⟨hlt,A.n,hi,k.rel.2.1⟩)) edge
 refine ⟨k.clean,fun i a ha hm=>?_,fun i g hg hne hc=>?_,?_,k.seen⟩
 ·rcases k.k0 i a ha hm with x | ⟨x,y⟩ | ⟨x,_,y⟩ | ⟨x,h1,h2,h3⟩
  ·exact .inl x
  ·exact .inr ⟨.inl x,y⟩
  ·exact .inl ⟨t.size,_,hy,rfl,.inr (kn i x y)⟩
  ·exact .inr ⟨.inr ⟨x,h1,h2⟩,h3⟩
 ·rcases k.over i g hg hne hc with x | ⟨rfl,x⟩
  ·exact x
  ·exact ⟨t.size,by simp [Trace.g?,hy],kn i hg x⟩
 ·rw [<-hu,Deaf_push,hd];rfl
end
end Hid
namespace Hid
open Go.RowKit Go.Conc
structure P0 (A:Area) (B d:Nat) (t:Trace):Prop where
 clean:∀ said,¬ Race said t
 known:∀ i a,touchAt t i=some a->a.loc.isMemory=true->Knows t 0 i\/(A.Shun a.loc/\a.kind = .atomic)
 over:t.HandedOver
 norel:NoRelease (st0 A.Wg) t
 seen:∀ op∈t,op.act.low B
 deaf:Deaf t 0=d
section
variable {A:Area}{B d:Nat}{t:Trace}
theorem bI4 (h:∀ op∈t,op.act.low B) {w:Nat}(hw:B<=w):NoRelease (st0 w) t:=by
 intro i hi;obtain ⟨op,ho,hoa⟩:=xk.1 hi;have:=h op (mem_of_getElem? ho)
 rw [hoa] at this;have hlt:w<B:=this;omega
theorem P0.of (h:Past A.Shun B t) (hw:B<=A.Wg) {B':Nat}(hB:B<=B'):P0 A B' 0 t:=⟨h.clean,h.known,h.over,bI4 h.seen hw,fun op hop=>MemAct.low_mono hB (h.seen op hop),h.hears⟩
def Area.okp (A:Area) (B:Nat) (x:MemAct):Prop:=(∀ b,x.touch?=some b->A.Shun b.loc->b.kind≠.plain)/\x≠.mark (.release (st0 A.Wg))/\x.low B
theorem P0.app (h:P0 A B d t) {B' d':Nat}(hB:B<=B') {u:Trace}(hg:∀ op∈u,op.g=0) (hu:∀ op∈u,A.okp B' op.act) (hd:Deaf (t++u) 0=d'):P0 A B' d' (t++u):=by
 refine ⟨fun said=>noRace_append (h.clean said) hg fun i a ha op hop b hb hc=>?_,fun i a ha hm=>?_,handedOver_app h.over fun op hop=> .inl (hg op hop),h.norel.app fun op hop=>(hu op hop).2.1,seen_app (fun op hop=>MemAct.low_mono hB (h.seen op hop)) fun op hop=>(hu op hop).2.2,hd⟩
 ·rcases h.known i a ha hc.2.1 with hk | ⟨hsa,hka⟩
  ·exact hk
  ·have hkb:=(hu op hop).1 b hb (hc.1▸hsa);obtain ⟨_,_,_,hcase⟩:=hc;rw [hka] at hcase;rcases hcase with x | x | ⟨_,x,_⟩
   ·cases x
   ·exact absurd x hkb
   ·cases x
 ·obtain ⟨x,hx,hxa⟩:=touch_of ha;rcases getElem?_append_cases hx with ⟨_,hx'⟩ | ⟨_,hxu⟩
  ·exact (h.known i a (by rw [touchAt_of hx']; exact hxa) hm).imp (·.app u) id
  ·have:=knows_own hx
   rw [hg x hxu] at this;exact .inl this
theorem P0.mute (h:P0 A B d t) {g:Nat}(hg:g≠0) {fn:FuncId}{pos:String}{es:Array Event}(hm:∀ e∈es,e.mute=true):P0 A B d (t++MemOp.ofEvents g fn pos es):=by
 have hgu:∀ op∈MemOp.ofEvents g fn pos es,op.g=g:=fun op hop=>by obtain ⟨e,_,rfl⟩:=lI hop; rfl
 have hn:∀ op∈MemOp.ofEvents g fn pos es,op.act.touch?=none:=fun op hop=>by obtain ⟨e,he,rfl⟩:=lI hop; exact touch_mute (hm e he)
 refine ⟨fun said=>noRace_append (h.clean said) hgu fun i a _ op hop b hb _=>(by rw [hn op hop] at hb; cases hb),fun i a ha hmm=>?_,handedOver_app h.over fun op hop=> .inr (hn op hop),h.norel.app fun op hop=>?_,seen_app h.seen fun op hop=>?_,(Deaf_other t hg _ hgu).trans h.deaf⟩
 ·obtain ⟨x,hx,hxa⟩:=touch_of ha;rcases getElem?_append_cases hx with ⟨_,hx'⟩ | ⟨_,hxu⟩
  ·exact (h.known i a (by rw [touchAt_of hx']; exact hxa) hmm).imp (·.app _) id
  ·rw [hn x hxu] at hxa; cases hxa
 ·obtain ⟨e,he,rfl⟩:=lI hop;have:=hm e he
  obtain ⟨loc,wr,sy⟩:=e;cases loc with
  | mark m=>cases m<;>simp_all [Event.mute,MemAct.ofEvent]
  | _=>simp [Event.mute] at this
 ·obtain ⟨e,he,rfl⟩:=lI hop;exact low_mute (hm e he) B
theorem P0.fork (hA:Apart A) (h:P0 A B 0 t) (hn:Deaf t A.n=0) (f1 f2:FuncId) (p1 p2:String) :
  TI A B (t++#[{ g:=0,fn:=f1,pos:=p1,act:= .go A.n },{ g:=A.n,fn:=f2,pos:=p2,act:= .start }]):=by
 have k:P0 A B 0 (t++#[{ g:=0,fn:=f1,pos:=p1,act:= .go A.n },{ g:=A.n,fn:=f2,pos:=p2,act:= .start }]):=by
  have e:t++#[({ g:=0,fn:=f1,pos:=p1,act:= .go A.n }:MemOp),{ g:=A.n,fn:=f2,pos:=p2,act:= .start }]=t++#[{ g:=0,fn:=f1,pos:=p1,act:= .go A.n }]++#[{ g:=A.n,fn:=f2,pos:=p2,act:= .start }]:=by rw [Array.append_assoc]; rfl
  have k1:P0 A B 0 (t++#[{ g:=0,fn:=f1,pos:=p1,act:= .go A.n }]):=h.app (lf _) (fun op hop=>by simp at hop; subst hop; rfl) (fun op hop=>by simp at hop; subst hop; exact ⟨fun b hb=>(by cases hb),by simp,trivial⟩) (by rw [Deaf_push,h.deaf]; rfl);rw [e];refine ⟨fun said=>noRace_append (g:=A.n) (k1.clean said) (fun op hop=>(by simp at hop; subst hop; rfl)) fun i a _ op hop b hb _=>(by simp at hop; subst hop; cases hb),fun i a ha hm=>?_,handedOver_app k1.over fun op hop=> .inr (by simp at hop; subst hop; rfl),k1.norel.app fun op hop=>(by simp at hop; subst hop; simp),seen_app k1.seen fun op hop=>(by simp at hop; subst hop; trivial),?_⟩
  ·obtain ⟨x,hx,hxa⟩:=touch_of ha;rcases getElem?_append_cases hx with ⟨_,hx'⟩ | ⟨_,hxu⟩
   ·exact (k1.known i a (by rw [touchAt_of hx']; exact hxa) hm).imp (·.app _) id
   ·simp at hxu; subst hxu; cases hxa
  ·rw [Deaf_push,k1.deaf];rfl
 generalize hu:t++#[({ g:=0,fn:=f1,pos:=p1,act:= .go A.n }:MemOp),{ g:=A.n,fn:=f2,pos:=p2,act:= .start }]=u at *
 have hs:u.size=t.size+2:=by rw [<-hu]; simp
 have h1:u[t.size]?=some { g:=0,fn:=f1,pos:=p1,act:= .go A.n }:=by rw [<-hu]; simp
 have h2:u[t.size+1]?=some { g:=A.n,fn:=f2,pos:=p2,act:= .start }:=by
  rw [<-hu,xq (by omega)];simp
 have d1:u.deaf 0 t.size=0:=by rw [<-hu,deaf_old (lf _)]; exact h.deaf
 have d2:u.deaf A.n (t.size+1)=0:=by
  rw [deaf_succ h1,<-hu,deaf_old (lf _)];exact hn
 have edge:HappensBefore u t.size (t.size+1):= .single (.inr ⟨.spawn (act?_of h1) (act?_of h2) (by simp [Trace.g?,h2]),⟨0,by simp [Trace.g?,h1],d1⟩,A.n,by simp [Trace.g?,h2],d2⟩);have lt:∀ i a,touchAt u i=some a->i<t.size:=fun i a ha=>by
  obtain ⟨x,hx,hxa⟩:=touch_of ha;refine Nat.lt_of_not_le fun hle=>?_
  have hlt:=lt_size_of_getElem? hx;rcases ug t.size i with h3 | h3
  ·obtain rfl:i=t.size+1:=by omega
   rw [h2] at hx; cases hx; cases hxa
  ·obtain rfl:i=t.size:=by omega
   rw [h1] at hx; cases hx; cases hxa
 refine ⟨k.clean,fun i a ha hm=>(k.known i a ha hm).imp id .inl,fun i a ha hm=>?_,fun i g hg hne hc=> .inl (k.over i g hg hne hc),k.norel,k.seen⟩;rcases h.known i a (by rw [<-touchAt_old (u:=#[_,_]) (lt i a ha),hu]; exact ha) hm with x | x
 ·left;have:=x.hb_new (u:=#[{ g:=0,fn:=f1,pos:=p1,act:= .go A.n },{ g:=A.n,fn:=f2,pos:=p2,act:= .start }]) (lf _) (by rw [hu]; exact h1) rfl
  rw [hu] at this;exact ⟨t.size+1,_,h2,rfl,.inr (this.trans edge)⟩
 ·exact .inr (.inl x)
end
section
variable [LoopOK] [Junk] {P:Program}{Post:Value->World->Prop}
def bh6 (T:Trace->Prop):Prop:=∀ t g fn pos (es:Array Event),g≠0->(∀ e∈es,e.mute=true)->T t->T (t++MemOp.ofEvents g fn pos es)
theorem aW9 {T:Trace->Prop}(hT:bh6 T):∀ (M:Nat) {gs:Array Goroutine}{a:Goroutine}{C:World}{sl:Option (Nat×Nat)}{t:Trace}{q:Nat->Nat},sumTo gs.size q<=M->gs[0]?=some a->a.status = .running->Leavers P t gs q->T t->
  (∀ d gs' sl' t' q',gs'[0]?=some a->gs'.size=gs.size->Leavers P t' gs' q'->T t'->∃ m' ops,runT P (crowd gs' (C.at d) sl') 0=(.next m',ops)/\Wins P Post m' (t'++ops))->Wins P Post (crowd gs C sl) t:=by
 intro M;induction M with
 | zero | succ M ih=>?_
 all_goals
  intro gs a C sl t q hM h0 hrun hL hP hstep;have haw:∀ g∈gs,awake g:=by
   intro g hg;obtain ⟨i,hi,rfl⟩:=uf.1 hg;rcases xy i with rfl | hpos
   ·have:gs[0]=a:=by simpa [lD hi] using h0
    rw [this]; exact awake_of (.inl hrun)
   ·exact awake_of ((hL.old i _ hpos (lD hi)).status.elim .inl fun x=> .inr (.inr x))
  obtain ⟨i,g,d,sl',hi,hg,hst⟩:=crowd_pick (P:=P) (w:=C) (sl:=sl) haw ⟨0,a,h0,hrun⟩;rcases xy i with rfl | hpos
  ·obtain ⟨m',ops,h1,h2⟩:=hstep d gs sl' t q h0 rfl hL hP;exact .step (hst.trans h1) h2
  ·have hq:=hL.old i g hpos hi;have hi0:(i==0)=false:=by simp; omega
   have hlt:i<gs.size:=(lh.1 hi).1;cases hqi:q i with
   | zero=>rw [hqi] at hq; rw [hq.1] at hg; cases hg
   | succ k=>
    rw [hqi] at hq;rcases hq with ⟨hf,_⟩ | ⟨_,g',es,hm,hstp,hq'⟩
    ·rw [hf] at hg; cases hg
    have hsum:sumTo gs.size (upd q i k)+(k+1)=sumTo gs.size q+k:=by
     have:=sumTo_upd q k id hlt
     simpa [hqi] using this
    first
    | (exfalso; omega)
    | (have hrunT:=runT_crowd_go (P:=P) (sl:=sl') (i:=i) hi (by rw [hi0]; exact hstp (C.at d))
       have hsz:((gs.map (woken P g g' (C.at d))).setIfInBounds i g').size=gs.size:=by simp
       refine .step (hst.trans hrunT) (ih (a:=a) (q:=upd q i k) (by rw [hsz]; omega) ?_ hrun ⟨fun j x hj hx=>?_,fun j hj=>?_⟩ (hT _ _ _ _ _ (by omega) hm hP) fun e gs2 sl2 t2 q2 h1 h2 h3 h4=>hstep e gs2 sl2 t2 q2 h1 (h2.trans hsz) h3 h4)
       ·have hne:i≠0:=by omega
        rw [li hne,lZ,h0];simp [woken_run hrun]
       ·by_cases hji:i=j
        ·subst hji;rw [ll (by simpa using hlt)] at hx;obtain rfl:=sj hx
         rw [upd_same,Deaf_own];exact hq'
        ·rw [li hji,lZ] at hx;obtain ⟨y,hy,rfl⟩:=xk.1 hx;have hqj:=hL.old j y hj hy;rw [woken_quitsD hqj,upd_ne q k (xE hji),Deaf_other t hji _ (fun op hop=>by obtain ⟨e,_,rfl⟩:=lI hop; rfl)];exact hqj
       ·rw [Deaf_other t (g':=i) (by simp at hj; omega) _ (fun op hop=>by obtain ⟨e,_,rfl⟩:=lI hop; rfl)];exact hL.above j (by simpa using hj))
theorem aR1 {T T':Trace->Prop}(hT:bh6 T) {gs:Array Goroutine}{a:Goroutine}{C:World}{sl:Option (Nat×Nat)}{t:Trace}{q:Nat->Nat}(h0:gs[0]?=some a) (hrun:a.status = .running) (hL:Leavers P t gs q) (ht:T t)
  (hstep:∀ d,∃ a' C' es,stepG P true a (C.at d) = .go a' C' es/\(∀ t fn pos,T t->T' (t++MemOp.ofEvents 0 fn pos es))/\
   ∀ gs' sl' t' q',gs'[0]?=some a'->gs'.size=gs.size->Leavers P t' gs' q'->T' t'->Wins P Post (crowd gs' C' sl') t'):Wins P Post (crowd gs C sl) t:=by
 refine aW9 hT (sumTo gs.size q) (lf _) h0 hrun hL ht fun d gs' sl' t' q' h0' hz hL' ht'=>?_
 obtain ⟨a',C',es,hgo,hev,hk⟩:=hstep d;have hlt:0<gs'.size:=(lh.1 h0').1;refine ⟨_,_,runT_crowd_go (P:=P) (sl:=sl') (i:=0) h0' hgo,hk _ _ _ q' (by simp [hlt]) (by simp [hz]) ⟨fun j x hj hx=>?_,fun j hj=>?_⟩ (hev _ _ _ ht')⟩
 ·have hne:0≠j:=by omega
  rw [li hne,lZ] at hx;obtain ⟨y,hy,rfl⟩:=xk.1 hx;have hq:=hL'.old j y hj hy;rw [woken_quitsD hq,Deaf_other t' (by omega) _ (fun op hop=>by obtain ⟨e,_,rfl⟩:=lI hop; rfl)];exact hq
 ·rw [Deaf_other t' (g':=0) (by simp at hj; omega) _ (fun op hop=>by obtain ⟨e,_,rfl⟩:=lI hop; rfl)];exact hL'.above j (by simpa using hj)
theorem an2 {A:Area}{B d:Nat}:bh6 (P0 A B d):=fun t g fn pos es hg hm h=>h.mute hg hm
theorem ad2 {S:Loc->Prop}{B:Nat}:bh6 (Past S B):=fun t g fn pos es hg hm h=>h.mute hg hm
end
end Hid
namespace Hid
open Go.RowKit Go.Conc
inductive An
 | v (x:Value)
 | o (x:Obj)
 | r (n:Nat)
 | s (x:Option (TypeId×Nat))
 | b (x:Bool)
inductive Did
 | rd (m:Mode) (a:Addr) (v:Value)
 | wr (m:Mode) (a:Addr) (v:Value)
 | mk (m:Mark)
 | nw (o:Obj) (r:Nat)
 | gt (r:Nat) (o:Obj)
 | st (r:Nat) (o:Obj)
 | sh (r:Nat) (x:Option (TypeId×Nat))
 | fz (a:Addr) (x:Bool)
def Did.fits:Did->World->Prop
 | .rd _ a v,w=>w.cell? a=some v
 | .wr _ a v,w=>(∃ u,w.cell? a=some u)/\w.frozen? a=false/\(∀ x,v≠.agg x)/\∀ x,v≠.tuple x
 | .mk _,_=>True
 | .nw _ r,w=>w.heap.size=r
 | .gt r o,w=>w.heap[r]?=some o/\∀ c T f,o≠.cells c T f
 | .st r _,w=>∃ q,w.heap[r]?=some q/\∀ c T f,q≠.cells c T f
 | .sh r x,w=>w.shape? r=x
 | .fz a x,w=>w.frozen? a=x
def Did.w:Did->World->World
 | .rd ..,w | .mk _,w | .gt ..,w | .sh ..,w | .fz ..,w=>w
 | .wr _ a v,w=>w.setCell a v
 | .nw o _,w=>{ w with heap:=w.heap.push o }
 | .st r o,w=>{ w with heap:=w.heap.setIfInBounds r o }
def Did.es:Did->List Event
 | .rd m a _=>[⟨.cell a,false,m== .atomic⟩]
 | .wr m a _=>[⟨.cell a,true,m== .atomic⟩]
 | .mk m=>[⟨.mark m,false,true⟩]
 | .nw .. | .sh .. | .fz ..=>[]
 | .gt r o=>[⟨.obj r,false,o.isChan⟩]
 | .st r o=>[⟨.obj r,true,o.isChan⟩]
def Fits:List Did->World->Prop
 | [],_=>True
 | d::l,w=>d.fits w/\Fits l (d.w w)
def wOf:List Did->World->World
 | [],w=>w
 | d::l,w=>wOf l (d.w w)
def esOf:List Did->List Event
 | []=>[]
 | d::l=>d.es++esOf l
def aT8 {β:Type}(d:Did) (x:Option (β×List Did)):Option (β×List Did):=match x with | some (b,l)=>some (b,d::l) | none=>none
def runA (P:Program) {α:Type}:Sem α->List An->Option ((α ⊕ Halt)×List Did)
 | .pure a,_=>some (.inl a,[])
 | .halt h,_=>some (.inr h,[])
 | .program k,s=>runA P (k P) s
 | .load m a k,.v x::s=>aT8 (.rd m a x) (runA P (k x) s)
 | .store m a v k,s=>aT8 (.wr m a v) (runA P k s)
 | .mark m k,s=>aT8 (.mk m) (runA P k s)
 | .new o k,.r n::s=>aT8 (.nw o n) (runA P (k n) s)
 | .getObj r k,.o x::s=>aT8 (.gt r x) (runA P (k x) s)
 | .setObj r o k,s=>aT8 (.st r o) (runA P k s)
 | .shape r k,.s x::s=>aT8 (.sh r x) (runA P (k x) s)
 | .frozen a k,.b x::s=>aT8 (.fz a x) (runA P (k x) s)
 | _,_=>none
def aq2 {α:Type}:α ⊕ Halt->World->Result α
 | .inl a,w=> .ok a w
 | .inr h,w=> .halt h w
theorem af9 {β:Type}{d:Did}{x:Option (β×List Did)}{y:β×List Did}(h:aT8 d x=some y):∃ l,x=some (y.1,l)/\y.2=d::l:=by
 unfold aT8 at h;split at h
 ·cases h; exact ⟨_,rfl,rfl⟩
 ·cases h
theorem bG2 (es:Array Event) (e:Event) (l:List Event):es.push e++l.toArray=es++(e::l).toArray:=by
 apply Array.toList_inj.1;simp
theorem ao4 {P:Program}{α:Type}{s:Sem α}:∀ {an:List An}{r:α ⊕ Halt}{l:List Did},runA P s an=some (r,l)->∀ {w:World}{es:Array Event},Fits l w->s.runT P w es=(aq2 r (wOf l w),es++(esOf l).toArray):=by
 induction s with
 | pure a=>intro an r l h w es hf; simp only [runA] at h; cases h; simp [Sem.runT,aq2,wOf,esOf]
 | halt h=>intro an r l h w es hf; simp only [runA] at h; cases h; simp [Sem.runT,aq2,wOf,esOf]
 | program k ih=>intro an r l h w es hf; simp only [runA] at h; simp only [Sem.runT]; exact ih _ h hf
 | load m a k ih=>
  intro an r l h w es hf;cases an with
  | nil=>simp only [runA] at h; cases h
  | cons x s=>
   cases x with
   | v x=>
    simp only [runA] at h;obtain ⟨l',h1,rfl⟩:=af9 h;obtain ⟨h2,h3⟩:=hf;have h2':w.cell? a=some x:=h2;have h3':Fits l' w:=h3;simp only [Sem.runT,h2'];rw [ih x h1 h3',bG2];rfl
   | _=>simp only [runA] at h; cases h
 | store m a v k ih=>
  intro an r l h w es hf;simp only [runA] at h;obtain ⟨l',h1,rfl⟩:=af9 h;obtain ⟨⟨⟨u,h2⟩,h3,h4,h5⟩,h6⟩:=hf;have e1:(Sem.store m a v k).runT P w es=match w.cell? a with
    | some _ => if w.frozen? a then (.halt (.unsupported (.unsafePointer "a write to bytes that a string shares")) w, es) else k.runT P (w.setCell a v) (es.push ⟨.cell a, true, m == .atomic⟩)
    | none=>match w.farStore P a v (m== .atomic) with
     | .ok (w,touched)=>k.runT P w (es++touched.toArray.map (⟨.cell ·,true,m== .atomic⟩))
     | .error h=>(.halt h w,es):=by
   cases v with
   | agg x=>exact absurd rfl (h4 x)
   | tuple x=>exact absurd rfl (h5 x)
   | _=>rfl
  rw [e1,h2];simp only [h3,lE,xn];have h6':Fits l' (w.setCell a v):=h6;rw [ih h1 h6',bG2];rfl
 | mark m k ih=>
  intro an r l h w es hf;simp only [runA] at h;obtain ⟨l',h1,rfl⟩:=af9 h;have h3:Fits l' w:=hf.2;simp only [Sem.runT];rw [ih h1 h3,bG2];rfl
 | new o k ih=>
  intro an r l h w es hf;cases an with
  | nil=>simp only [runA] at h; cases h
  | cons x s=>
   cases x with
   | r n=>
    simp only [runA] at h;obtain ⟨l',h1,rfl⟩:=af9 h;obtain ⟨h2,h3⟩:=hf;have h2':w.heap.size=n:=h2;subst h2';simp only [Sem.runT];have h3':Fits l' { w with heap:=w.heap.push o }:=h3;rw [ih _ h1 h3'];rfl
   | _=>simp only [runA] at h; cases h
 | getObj r0 k ih=>
  intro an r l h w es hf;cases an with
  | nil=>simp only [runA] at h; cases h
  | cons x s=>
   cases x with
   | o x=>
    simp only [runA] at h;obtain ⟨l',h1,rfl⟩:=af9 h;obtain ⟨⟨h2,h4⟩,h3⟩:=hf;have h3':Fits l' w:=h3;simp only [Sem.runT,h2];cases x with
    | cells c T f=>exact absurd rfl (h4 c T f)
    | _=>rw [ih _ h1 h3',bG2]; rfl
   | _=>simp only [runA] at h; cases h
 | setObj r0 o k ih=>
  intro an r l h w es hf;simp only [runA] at h;obtain ⟨l',h1,rfl⟩:=af9 h;obtain ⟨⟨q,h2,h4⟩,h3⟩:=hf;have h3':Fits l' { w with heap:=w.heap.setIfInBounds r0 o }:=h3;simp only [Sem.runT,h2];cases q with
  | cells c T f=>exact absurd rfl (h4 c T f)
  | _=>rw [ih h1 h3',bG2]; rfl
 | shape r0 k ih=>
  intro an r l h w es hf;cases an with
  | nil=>simp only [runA] at h; cases h
  | cons x s=>
   cases x with
   | s x=>
    simp only [runA] at h;obtain ⟨l',h1,rfl⟩:=af9 h;obtain ⟨h2,h3⟩:=hf;have h2':w.shape? r0=x:=h2;have h3':Fits l' w:=h3;simp only [Sem.runT,h2'];exact ih x h1 h3'
   | _=>simp only [runA] at h; cases h
 | frozen r0 k ih=>
  intro an r l h w es hf;cases an with
  | nil=>simp only [runA] at h; cases h
  | cons x s=>
   cases x with
   | b x=>
    simp only [runA] at h;obtain ⟨l',h1,rfl⟩:=af9 h;obtain ⟨h2,h3⟩:=hf;have h2':w.frozen? r0=x:=h2;have h3':Fits l' w:=h3;simp only [Sem.runT,h2'];exact ih x h1 h3'
   | _=>simp only [runA] at h; cases h
 | _=>intro an r l h; simp only [runA] at h; cases h
inductive SA
 | go (g:Goroutine)
 | still (g:Goroutine)
 | spawn (g c:Goroutine)
 | comm (g:Goroutine) (cs:Array CommCase) (b:Bool) (sh:CommShape)
def SA.step (P:Program) (f:FuncId) (l:List Did) (w:World):SA->GStep
 | .go g=> .go g (wOf l w) (seen P f (esOf l).toArray)
 | .still g=> .go g (wOf l w) #[]
 | .spawn g c=> .spawn g c (wOf l w) (seen P f (esOf l).toArray)
 | .comm g cs b sh=> .comm g cs b sh (wOf l w) (seen P f (esOf l).toArray)
def isNil:Target->Bool
 | .nil=>true
 | _=>false
def bN8 (P:Program) (fr:Frame) (cs:List Frame) (s:Sem Next) (an:List An):Option (SA×List Did):=
 match runA P s an with
 | some (.inl (.value v),l)=>some (.go (G (fr.finish v) cs),l)
 | some (.inl .skip,l)=>some (.go (G (fr.finish undef) cs),l)
 | some (.inl (.enter f args),l)=>some (.go (G (Frame.enter P f args .normal) (fr::cs)),l)
 | some (.inl (.defer d),l)=>some (.go (G (({ fr with defers:=d::fr.defers }:Frame).finish undef) cs),l)
 | some (.inl (.comm cases b sh),l)=>some (.comm (G fr cs) cases b sh,l)
 | some (.inl (.spawn d),l)=>if isNil d.target then none else
   some (.spawn (G (fr.finish undef) cs) (G { (default:Frame) with fn:=P.funcs.size,defers:=[d],mode:= .panicking [goexitEntry] } []),l)
 | some (.inr .blocked,l)=>some (.still { G fr cs with status:= .blocked },l)
 | _=>none
def bw8:CallKind->Bool
 | .early=>false
 | _=>true
theorem bh1 {P:Program}{fr:Frame}{cs:List Frame}{s:Sem Next}{an:List An}{sa:SA}{l:List Did}(h:bN8 P fr cs s an=some (sa,l)) (hk:bw8 fr.kind=true) (hc:∃ ops i rest k,fr.todo = .inRegion ops (i::rest)::k) {w:World}(hf:Fits l w) :
  stepG.apply P true fr cs none s w=sa.step P fr.fn l w:=by
 have hk':(fr.kind==CallKind.early)=false:=by cases hh:fr.kind<;>first | rfl | (rw [hh] at hk; cases hk)
 unfold bN8 at h;cases hr:runA P s an with
 | none=>rw [hr] at h; cases h
 | some y=>
  obtain ⟨r,l'⟩:=y;rw [hr] at h;have hs:∀ {l},runA P s an=some (r,l)->Fits l w->s.runT P w #[]=(aq2 r (wOf l w),(esOf l).toArray):=fun h1 h2=>by
   have:=ao4 h1 h2 (es:=#[])
   simpa using this
  unfold stepG.apply;have fin:∀ v,({ frame:=fr.finish v,callers:=cs,status:= .running,dying:=none }:Goroutine)=G (fr.finish v) cs:=fun _=>rfl
  cases r with
  | inl n=>
   cases n with
   | value v=>simp only at h; cases h; simp only [hs hr hf,aq2,hk',xh,ac7,SA.step]; rfl
   | skip=>simp only at h; cases h; simp only [hs hr hf,aq2,hk',xh,ac7,SA.step]; rfl
   | enter f args=>
    simp only at h; cases h; simp only [hs hr hf,aq2,hk',xh,ac7,SA.step]
    obtain ⟨ops,i,rest,k,hq⟩:=hc;simp only [hq];rfl
   | defer d=>simp only at h; cases h; simp only [hs hr hf,aq2,hk',xh,ac7,SA.step]; rfl
   | comm cases b sh=>simp only at h; cases h; simp only [hs hr hf,aq2,hk',xh,SA.step]; simp [GStep.after,G]
   | spawn d=>
    simp only at h
    by_cases hn:isNil d.target=true
    ·rw [lm hn] at h; cases h
    ·rw [lr hn] at h;cases h;simp only [hs hr hf,aq2,hk',xh,SA.step];obtain ⟨tg,ar⟩:=d;cases tg<;>first | exact absurd rfl hn | simp [GStep.after,G]
   | _=>simp only at h; cases h
  | inr hh=>
   cases hh with
   | blocked=>simp only at h; cases h; simp only [hs hr hf,aq2,hk',xh,SA.step]; simp [GStep.after,seen,G]
   | _=>simp only at h; cases h
def bM7 (P:Program) (fr:Frame) (cs:List Frame) (d:Deferred) (an:List An):Option (SA×List Did):=
 if isNil d.target then none else
 match runA P (invoke d.target d.args) an with
 | some (.inl (.enter f args),l)=>some (.go (G (Frame.enter P f args .deferred) (fr::cs)),l)
 | some (.inl (.value _),l) | some (.inl .skip,l)=>some (.go (G fr cs),l)
 | _=>none
theorem bm7 {P:Program}{fr:Frame}{cs:List Frame}{d:Deferred}{an:List An}{sa:SA}{l:List Did}(h:bM7 P fr cs d an=some (sa,l)) {w:World}(hf:Fits l w):callDeferred P fr cs none d w=sa.step P fr.fn l w:=by
 unfold bM7 at h;split at h
 ·cases h
 ·rename_i hn;cases hr:runA P (invoke d.target d.args) an with
  | none=>rw [hr] at h; cases h
  | some y=>
   obtain ⟨r,l'⟩:=y;rw [hr] at h;have hs:∀ {l},runA P (invoke d.target d.args) an=some (r,l)->Fits l w->(invoke d.target d.args).runT P w #[]=(aq2 r (wOf l w),(esOf l).toArray):=fun h1 h2=>by
    have:=ao4 h1 h2 (es:=#[])
    simpa using this
   unfold callDeferred;rw [lr (by intro hc; apply hn; revert hc; cases d.target<;>simp [isNil])];cases r with
   | inl n=>
    cases n with
    | enter f args=>simp only at h; cases h; simp only [hs hr hf,aq2,ac7,SA.step]; rfl
    | value v=>simp only at h; cases h; simp only [hs hr hf,aq2,ac7,SA.step]; rfl
    | skip=>simp only at h; cases h; simp only [hs hr hf,aq2,ac7,SA.step]; rfl
    | _=>simp only at h; cases h
   | inr hh=>simp only at h; cases h
def aN7:Target->Bool
 | .collected _=>false
 | _=>true
def retA (main:Bool) (fr:Frame) (cs:List Frame) (v:Value):Option SA:=
 match cs with
 | c::rest=>match fr.kind with
  | .normal | .wrapped=>some (.go (G (c.finish v) rest))
  | .deferred=>match c.mode with
   | .panicking _=>if (c.mode matches .panicking ({ recovered:=true,.. }::_)) then none else some (.go (G c rest))
   | _=>some (.go (G c rest))
  | _=>none
 | []=>match fr.kind with
  | .report=>none
  | _=>if main then none else some (.go { frame:=fr,callers:=[],status:= .finished,dying:=none })
def cb9 (P:Program) (fr:Frame) (cs:List Frame) (an:List An):Option (SA×List Did):=
 let to (k:List Item):Option (SA×List Did):=some (.go (G { fr with todo:=k } cs),[])
 let leave:Option (SA×List Did):=some (.go (G { fr with mode:= .returning } cs),[])
 match fr.todo with
 | []=>leave
 | .code .ret::_=>leave
 | .code .skip::k | .code (.label _)::k | .inBlock _::k | .inScope _::k=>to k
 | .code (.seq a b)::k=>to (.code a:: .code b::k)
 | .code (.cond c thn els)::k=>match fr.eval c with
  | .bool b=>to (.code (if b then thn else els)::k)
  | _=>none
 | .code (.block id body)::k=>to (.code body:: .inBlock id::k)
 | .code (.loop body)::k | .inLoop body::k=>to (.code body:: .inLoop body::k)
 | .code (.scope body)::k=>to (.code body:: .inScope body::k)
 | .code (.exit id)::k=>match exitTo id k with
  | some k'=>to k'
  | none=>none
 | .code (.region _ ops draw)::k=>if draw then none else to (.inRegion ops (List.range ops.size)::k)
 | .inRegion _ []::k=>to k
 | .inRegion ops (i::_)::_=>
  if ((ops[i]?).map (Region.wanted · (yielded ops fr.tmps))).getD false then
   match fr.oper? with
   | none=>none
   | some o=>bN8 P fr cs (execOp fr.eval o) an
  else some (.go (G (fr.finish undef) cs),[])
 | _=>none
def aZ5 (P:Program) (main:Bool) (fr:Frame) (cs:List Frame) (an:List An):Option (SA×List Did):=
 if bw8 fr.kind then
  match fr.mode with
  | .run=>if fr.roundOf.isNone then cb9 P fr cs an else none
  | .returning=>match fr.defers with
   | d::ds=>if aN7 d.target then bM7 P { fr with defers:=ds } cs d an else none
   | []=>match P.funcs[fr.fn]? with
    | none=>none
    | some fn=>match runA P (results fn fr.tmps) an with
     | some (.inl v,l)=>match retA main fr cs v with
      | some s=>some (s,l)
      | none=>none
     | _=>none
  | .panicking ch=>match fr.defers with
   | d::ds=>if aN7 d.target then bM7 P { fr with defers:=ds } cs d an else none
   | []=>if fr.catches P then none else match cs with
    | []=>if ch.head?.any (·.goexit) then some (.go { frame:=fr,callers:=[],status:= .finished,dying:=none },[]) else none
    | _=>none
 else none
theorem bp2 (P:Program) (f:FuncId):seen P f (esOf []).toArray = #[]:=rfl
theorem bl1 {P:Program}{main:Bool}{fr:Frame}{cs:List Frame}{an:List An}{sa:SA}{l:List Did}(h:cb9 P fr cs an=some (sa,l)) (hk:bw8 fr.kind=true) (hr:fr.roundOf=none) {w:World}(hf:Fits l w) :
  stepG.exec P main true fr cs none w=sa.step P fr.fn l w:=by
 unfold cb9 at h;have step1:∀ (g:Goroutine),SA.step P fr.fn [] w (.go g) = .go g w:=fun g=>rfl
 cases hq:fr.todo with
 | nil=>simp only [hq] at h; cases h; simp only [stepG.exec,hq,hr,xh,step1]; rfl
 | cons i k=>
  cases i with
  | inBlock id=>simp only [hq] at h; cases h; simp only [stepG.exec,hq,step1]; rfl
  | inScope b=>simp only [hq] at h; cases h; simp only [stepG.exec,hq,step1]; rfl
  | inLoop b=>simp only [hq] at h; cases h; simp only [stepG.exec,hq,step1]; rfl
  | inRegion ops js=>
   cases js with
   | nil=>simp only [hq] at h; cases h; simp only [stepG.exec,hq,step1]; rfl
   | cons j js=>
    simp only [hq] at h;split at h
    ·rename_i hw;cases ho:fr.oper? with
     | none=>rw [ho] at h; cases h
     | some o=>
      rw [ho] at h;simp only at h
      have e:stepG.exec P main true fr cs none w=stepG.oper P true fr cs none w:=by simp only [stepG.exec,hq,hw,xh]
      have e2:stepG.oper P true fr cs none w=stepG.apply P true fr cs none (execOp fr.eval o) w:=by simp only [stepG.oper,ho,hr]
      rw [e,e2];exact bh1 h hk ⟨_,_,_,_,hq⟩ hf
    ·rename_i hw;cases h;simp only [stepG.exec,hq,hw,step1];rfl
  | code c=>
   cases c with
   | skip=>simp only [hq] at h; cases h; simp only [stepG.exec,hq,step1]; rfl
   | label _=>simp only [hq] at h; cases h; simp only [stepG.exec,hq,step1]; rfl
   | ret=>simp only [hq] at h; cases h; simp only [stepG.exec,hq,hr,xh,step1]; rfl
   | seq a b=>simp only [hq] at h; cases h; simp only [stepG.exec,hq,step1]; rfl
   | block a b=>simp only [hq] at h; cases h; simp only [stepG.exec,hq,step1]; rfl
   | loop b=>simp only [hq] at h; cases h; simp only [stepG.exec,hq,step1]; rfl
   | scope b=>simp only [hq] at h; cases h; simp only [stepG.exec,hq,step1]; rfl
   | cond t a b=>
    simp only [hq] at h;cases hv:fr.eval t with
    | bool v=>rw [hv] at h; simp only at h; cases h; simp only [stepG.exec,hq,hv,step1]; rfl
    | _=>rw [hv] at h; cases h
   | exit id=>
    simp only [hq] at h;cases he:exitTo id k with
    | none=>rw [he] at h; cases h
    | some k'=>rw [he] at h; simp only at h; cases h; simp only [stepG.exec,hq,he,step1]; rfl
   | region id ops draw=>
    simp only [hq] at h;cases draw with
    | true=>cases h
    | false=>cases h; simp only [stepG.exec,hq,step1]; rfl
   | _=>simp only [hq] at h; cases h
  | _=>simp only [hq] at h; cases h
theorem ah9 {P:Program}{main:Bool}{fr:Frame}{cs:List Frame}{an:List An}{sa:SA}{l:List Did}(h:aZ5 P main fr cs an=some (sa,l)) {w:World}(hf:Fits l w) :
  stepG P main (G fr cs) w=sa.step P fr.fn l w:=by
 unfold aZ5 at h;by_cases hk:bw8 fr.kind=true
 case neg=>rw [lr hk] at h; cases h
 rw [lm hk] at h;have defer:∀ {d ds},fr.mode≠.run->fr.defers=d::ds->(if aN7 d.target then bM7 P { fr with defers:=ds } cs d an else none)=some (sa,l)->stepG P main (G fr cs) w=sa.step P fr.fn l w:=fun {d ds} hm hd h=>by
  by_cases hc:aN7 d.target=true
  case neg=>rw [lr hc] at h; cases h
  rw [lm hc] at h;have e:stepG P main (G fr cs) w=unwind P main fr cs none w:=by
   simp only [stepG,G]
  have e2:unwind P main fr cs none w=callDeferred P { fr with defers:=ds } cs none d w:=by
   unfold unwind;rw [hd];obtain ⟨tg,ar⟩:=d;cases tg<;>first | rfl | (simp [aN7] at hc)
  rw [e,e2];exact bm7 h hf
 cases hm:fr.mode with
 | run=>
  simp only [hm] at h;split at h
  ·rename_i hr;have hr':fr.roundOf=none:=by simpa using hr
   have e:stepG P main (G fr cs) w=stepG.exec P main true fr cs none w:=by simp only [stepG,G,hm]
   rw [e];exact bl1 h hk hr' hf
  ·cases h
 | returning=>
  simp only [hm] at h;cases hd:fr.defers with
  | cons d ds=>rw [hd] at h; rw [<-hm] at h; exact defer (by rw [hm]; simp) hd h
  | nil=>
   rw [hd] at h;simp only at h
   cases hfn:P.funcs[fr.fn]? with
   | none=>rw [hfn] at h; cases h
   | some fn=>
    rw [hfn] at h;simp only at h
    cases hr:runA P (results fn fr.tmps) an with
    | none=>rw [hr] at h; cases h
    | some y=>
     obtain ⟨r,l'⟩:=y;rw [hr] at h;cases r with
     | inr _=>cases h
     | inl v=>
      simp only at h
      cases hret:retA main fr cs v with
      | none=>rw [hret] at h; cases h
      | some s=>
       rw [hret] at h;simp only at h
       cases h;have hs:=ao4 hr hf (es:=#[]);rw [uV] at hs;have e:stepG P main (G fr cs) w=GStep.after (seen P fr.fn (esOf l).toArray) (doReturn P main fr cs none v (wOf l w)):=by
        simp only [stepG,G,hm,unwind,hd,hfn,hs,aq2]
       rw [e];unfold retA at hret;unfold doReturn;cases cs with
       | nil=>
        cases hkk:fr.kind<;>simp only [hkk] at hret ⊢<;>first | cases hret | skip
        all_goals
         cases main
         ·simp at hret;subst hret;simp [GStep.after,SA.step]
         ·simp at hret
       | cons c rest=>
        cases hkk:fr.kind<;>simp only [hkk] at hret ⊢<;>first | (cases hret; simp [GStep.after,SA.step,G]; done) | skip
        ·cases hcm:c.mode with
         | panicking ch=>
          rw [hcm] at hret;cases ch with
          | nil=>simp at hret; subst hret; simp [GStep.after,SA.step,G]
          | cons e ch=>
           obtain ⟨ev,er,eg⟩:=e;cases er
           ·simp at hret; subst hret; simp [GStep.after,SA.step,G]
           ·simp at hret
         | _=>rw [hcm] at hret; simp at hret; subst hret; simp [GStep.after,SA.step,G]
        all_goals cases hret
 | panicking ch=>
  simp only [hm] at h;cases hd:fr.defers with
  | cons d ds=>rw [hd] at h; rw [<-hm] at h; exact defer (by rw [hm]; simp) hd h
  | nil=>
   rw [hd] at h;simp only at h
   split at h
   ·cases h
   ·rename_i hc;cases cs with
    | cons _ _=>cases h
    | nil=>
     simp only at h
     split at h
     ·rename_i hg;cases h;have e:stepG P main (G fr []) w=unwind P main fr [] none w:=by
       simp only [stepG,G,hm]
      rw [e];unfold unwind;simp only [hd,hm];rw [lr hc,lm hg];rfl
     ·cases h
end Hid
namespace Hid
open Go.RowKit Go.Conc
open Go.ConcN (sumTo)
abbrev St:=Frame×List Frame
def toS (g:Goroutine):Option St:=match g.status,g.dying,g.offers with
 | .running,none,none=>some (g.frame,g.callers)
 | _,_,_=>none
theorem bW8 {g:Goroutine}{s:St}(h:toS g=some s):g=G s.1 s.2:=by
 obtain ⟨fr,cs,st,dy,of⟩:=g;unfold toS at h;split at h
 ·rename_i h1 h2 h3;simp only at h1 h2 h3
  subst h1 h2 h3;cases h;rfl
 ·cases h
def oneG (P:Program) (main:Bool) (s:St) (an:List An):Option (St×List Did):=
 match aZ5 P main s.1 s.2 an with
 | some (.go g,l)=>match toS g with
  | some s'=>some (s',l)
  | none=>none
 | _=>none
theorem ab4 {P:Program}{main:Bool}{s s':St}{an:List An}{l:List Did}(h:oneG P main s an=some (s',l)) {w:World}(hf:Fits l w):stepG P main (G s.1 s.2) w = .go (G s'.1 s'.2) (wOf l w) (seen P s.1.fn (esOf l).toArray):=by
 unfold oneG at h;split at h
 ·rename_i g l' hs;split at h
  ·rename_i s1 h1;cases h;rw [ah9 hs hf,bW8 h1];rfl
  ·cases h
 ·cases h
def addL (f:FuncId) (l:List Did) (x:Option (St×List (FuncId×List Did))):Option (St×List (FuncId×List Did)):=match x with
 | none=>none
 | some (s,r)=>match l with
  | []=>some (s,r)
  | _=>some (s,(f,l)::r)
def runG (P:Program) (main:Bool):Nat->St->List (List An)->Option (St×List (FuncId×List Did))
 | 0,s,_=>some (s,[])
 | n+1,s,ans=>match oneG P main s [] with
  | some (s',l)=>addL s.1.fn l (runG P main n s' ans)
  | none=>match ans with
   | a::ans=>match oneG P main s a with
    | some (s',l)=>addL s.1.fn l (runG P main n s' ans)
    | none=>none
   | []=>none
theorem aK9 {f:FuncId}{l:List Did}{x:Option (St×List (FuncId×List Did))}{y:St×List (FuncId×List Did)}(h:addL f l x=some y):(l=[]/\x=some y)\/(∃ r,x=some (y.1,r)/\y.2=(f,l)::r):=by
 unfold addL at h;split at h
 ·cases h
 ·split at h
  ·cases h; exact .inl ⟨rfl,rfl⟩
  ·cases h; exact .inr ⟨_,rfl,rfl⟩
theorem aJ9 {P:Program}{main:Bool}{n:Nat}{s s':St}{ans:List (List An)}{ls:List (FuncId×List Did)}(h:runG P main (n+1) s ans=some (s',ls)) :
  ∃ s1 an l ans' r,oneG P main s an=some (s1,l)/\runG P main n s1 ans'=some (s',r)/\((l=[]/\ls=r)\/ls=(s.1.fn,l)::r):=by
 unfold runG at h;split at h
 ·rename_i s1 l h1;rcases aK9 h with ⟨e,h2⟩ | ⟨r,h2,h3⟩
  ·exact ⟨s1,_,l,_,_,h1,h2,.inl ⟨e,rfl⟩⟩
  ·exact ⟨s1,_,l,_,_,h1,h2,.inr h3⟩
 ·split at h
  ·rename_i a ans';split at h
   ·rename_i s1 l h1;rcases aK9 h with ⟨e,h2⟩ | ⟨r,h2,h3⟩
    ·exact ⟨s1,_,l,_,_,h1,h2,.inl ⟨e,rfl⟩⟩
    ·exact ⟨s1,_,l,_,_,h1,h2,.inr h3⟩
   ·cases h
  ·cases h
variable [LoopOK] [Junk]
section
variable {P:Program}{Post:Value->World->Prop}
def aR8 (P:Program):List (FuncId×List Did)->(Trace->Prop)->World->(World->(Trace->Prop)->Prop)->Prop
 | [],T,w,K=>K w T
 | (f,l)::r,T,w,K=>(∀ d,Fits l (w.at d))/\∃ T',bh6 T'/\(∀ t fn pos,T t->T' (t++MemOp.ofEvents 0 fn pos (seen P f (esOf l).toArray)))/\∀ d,aR8 P r T' (wOf l (w.at d)) K
theorem ofEvents_none (g:Nat) (fn:FuncId) (pos:String):MemOp.ofEvents g fn pos #[] = #[]:=rfl
theorem a00:∀ (n:Nat) {s s':St}{ans:List (List An)}{ls:List (FuncId×List Did)},runG P true n s ans=some (s',ls)->∀ {N:Nat}{T:Trace->Prop}{gs:Array Goroutine}{C:World}{sl:Option (Nat×Nat)}{t:Trace}{q:Nat->Nat},bh6 T->gs.size=N->gs[0]?=some (G s.1 s.2)->Leavers P t gs q->T t->
  (∀ d,aR8 P ls T (C.at d) fun C' T'=>∀ d gs' sl' t' q',gs'.size=N->gs'[0]?=some (G s'.1 s'.2)->Leavers P t' gs' q'->T' t'->Wins P Post (crowd gs' (C'.at d) sl') t')->Wins P Post (crowd gs C sl) t:=by
 intro n;induction n with
 | zero=>
  intro s s' ans ls h N T gs C sl t q hT hN h0 hL ht hA;cases h;exact hA C.drawn C.drawn gs sl t q hN h0 hL ht
 | succ n ih=>
  intro s s' ans ls h N T gs C sl t q hT hN h0 hL ht hA;obtain ⟨s1,an,l,ans',r,h1,h2,h3⟩:=aJ9 h;rcases h3 with ⟨rfl,rfl⟩ | rfl
  ·refine aR1 (T':=T) hT h0 rfl hL ht fun d=>⟨_,_,_,ab4 h1 (w:=C.at d) trivial,fun t fn pos h=>by simpa [bp2,ofEvents_none] using h,fun gs' sl' t' q' g0 gz hl' hp'=>?_⟩
   exact ih h2 hT (gz.trans hN) g0 hl' hp' fun e=>hA e
  ·have hA':=fun d=>hA d
   obtain ⟨hf,T',hT',hev,hk⟩:=hA C.drawn;refine aR1 (T':=T') hT h0 rfl hL ht fun d=>⟨_,_,_,ab4 h1 (w:=C.at d) (hf d),fun t fn pos h=>hev t fn pos h,fun gs' sl' t' q' g0 gz hl' hp'=>?_⟩
   have hat:∀ (l:List Did) (w:World) (e:Nat),(wOf l w).at e=wOf l (w.at e):=by
    intro l;induction l with
    | nil=>intro w e; rfl
    | cons x l ihl=>intro w e; cases x<;>exact ihl _ e
   exact ih h2 hT' (gz.trans hN) g0 hl' hp' fun e=>by rw [hat]; exact hk e
end
def bW3:List (FuncId×List Did)->World->Prop
 | [],_=>True
 | (_,l)::r,w=>Fits l w/\bW3 r (wOf l w)
def wL:List (FuncId×List Did)->World->World
 | [],w=>w
 | (_,l)::r,w=>wL r (wOf l w)
def runR (P:Program) (main:Bool):Nat->St->List (List An)->Option (St×List (FuncId×List Did))
 | 0,s,_=>some (s,[])
 | n+1,s,ans=>match s.1.mode with
  | .run=>match oneG P main s [] with
   | some (s',l)=>addL s.1.fn l (runR P main n s' ans)
   | none=>match ans with
    | a::ans=>match oneG P main s a with
     | some (s',l)=>addL s.1.fn l (runR P main n s' ans)
     | none=>none
    | []=>none
  | _=>none
theorem bQ9 {P:Program}{main:Bool}{n:Nat}{s s':St}{ans:List (List An)}{ls:List (FuncId×List Did)}(h:runR P main (n+1) s ans=some (s',ls)) :
  s.1.mode = .run/\∃ s1 an l ans' r,oneG P main s an=some (s1,l)/\runR P main n s1 ans'=some (s',r)/\((l=[]/\ls=r)\/ls=(s.1.fn,l)::r):=by
 unfold runR at h;split at h
 ·rename_i hm;refine ⟨hm,?_⟩;split at h
  ·rename_i s1 l h1;rcases aK9 h with ⟨e,h2⟩ | ⟨r,h2,h3⟩
   ·exact ⟨s1,_,l,_,_,h1,h2,.inl ⟨e,rfl⟩⟩
   ·exact ⟨s1,_,l,_,_,h1,h2,.inr h3⟩
  ·split at h
   ·rename_i a ans';split at h
    ·rename_i s1 l h1;rcases aK9 h with ⟨e,h2⟩ | ⟨r,h2,h3⟩
     ·exact ⟨s1,_,l,_,_,h1,h2,.inl ⟨e,rfl⟩⟩
     ·exact ⟨s1,_,l,_,_,h1,h2,.inr h3⟩
    ·cases h
   ·cases h
 ·cases h
theorem ad6 {p:Program}{f:FuncId}{Q:Value->World->Prop}:∀ (n:Nat) {s s':St}{ans:List (List An)}{ls:List (FuncId×List Did)},runR p true n s ans=some (s',ls)->∀ {L:World},bW3 ls L->
  Tree p (AtRet p f Q) (G s.1 s.2) L->Tree p (AtRet p f Q) (G s'.1 s'.2) (wL ls L)/\Later p (G s.1 s.2) L (G s'.1 s'.2) (wL ls L):=by
 intro n;induction n with
 | zero=>intro s s' ans ls h L hf ht; cases h; exact ⟨ht,.refl _ _⟩
 | succ n ih=>
  intro s s' ans ls h L hf ht;obtain ⟨hm,s1,an,l,ans',r,h1,h2,h3⟩:=bQ9 h;have hfl:Fits l L/\bW3 r (wOf l L)/\wL ls L=wL r (wOf l L):=by
   rcases h3 with ⟨rfl,rfl⟩ | rfl
   ·exact ⟨trivial,hf,rfl⟩
   ·exact ⟨hf.1,hf.2,rfl⟩
  have e:=ab4 h1 (w:=L) hfl.1;have e':stepG p true (G s.1 s.2) (L.at L.drawn) = .go (G s1.1 s1.2) (wOf l L) (seen p s.1.fn (esOf l).toArray):=e;obtain ⟨k1,k2⟩:=ih h2 hfl.2.1 (ht.adv (as9 hm) e');rw [hfl.2.2];exact ⟨k1,.step e' k2⟩
end Hid
end Go.Proofs.YtbkgncikjhibiaaGreat
