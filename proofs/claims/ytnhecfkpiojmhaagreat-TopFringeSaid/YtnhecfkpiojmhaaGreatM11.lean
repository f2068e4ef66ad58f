import Derived.Test.YtnhecfkpiojmhaaGreatM10
set_option maxRecDepth 100000
set_option linter.all false
noncomputable section
open Go.ConcN (sumTo upd sumTo_upd upd_ne upd_same)
/- Part 11. -/
namespace Go.Proofs.YtnhecfkpiojmhaaGreat
namespace Hid
open Go Go.Proofs Go.RowKit Go.Conc Ar
def bxOf(a:Ar)(b:Nat):Option Obj:=
 if b=a.m+0 then some (.cells #[a.v0] 22 (0,0))else if b=a.m+1 then some (.cells #[.int .i64 a.i1] 3 (0,0))else if b=a.m+2 then some (.cells #[.int .i64 a.i2] 3 (0,0))else
 if b=a.m+3 then some (.cells #[a.v3] 48 (0,0))else if b=a.m+4 then some (.cells #[.int .i64 a.i4] 3 (0,0))else if b=a.m+6 then some (.cells #[a.V] 87 (0,0))else if b=a.m+8 then some (.cells #[a.chV] 115 (0,0))else none
def PXg(a:Ar)(x:Frame)(xs:List Frame)(d:Nat)(s:St):Prop:=
 d=1/\∃n ans ls,runG Tryz.prog true n s ans=some ((x.finish a.V,xs),ls)/\(ls=a.endL\/ls=(79,[.mk (.extern 109),a.rdW 0])::a.endL)
def env(a:Ar)(x:Frame)(xs:List Frame)(Shun:Loc->Prop)(N:Nat):Env where
 P:=Tryz.prog
 A:={Bx:=λb=>∃o,bxOf a b=some o,Wg:=a.m+9,Ch:=a.m+7,Shun,n:=N}
 bx:=bxOf a
 tW:=125
 n3:=a.n3
 Low:=a.m+10
 item:=λk=> .int .i64 k
 PX:=λ_ d s=>PXg a x xs d s
section
variable {E:Env}{nx:Nat}{ph:Ph}
def dfold(P:Program):Nat->List (FuncId×List Did)->Nat
 |d,[]=>d
 |d,(f,l)::r=>dfold P (deafBehind d (seen P f (esOf l).toArray)) r
def PQ(E:Env):List (FuncId×List Did)->Prop
 | []=>True
 |(f,l)::r=>(∀w,FB E.bx w->WgL E.A.Wg E.tW w->Fits l w/\wOf l w=w)/\(∀e∈seen E.P f (esOf l).toArray,Ev0 E.A E.Low e)/\PQ E r
theorem PS.run:∀(n:Nat){d:Nat}{s s':St}{ans:List (List An)}{ls:List (FuncId×List Did)},runG E.P true n s ans=some (s',ls)->PQ E ls->PS E nx ph (dfold E.P d ls) (G s'.1 s'.2)->PS E nx ph d (G s.1 s.2):=by
 intro n;induction n with
 |zero=>intro d s s' ans ls h hq k;cases h;exact k
 |succ n ih=>
  intro d s s' ans ls h hq k;obtain⟨s1,an,l,ans',r,h1,h2,h3⟩:=aL9 h;rcases h3 with⟨rfl,rfl⟩|rfl
  ·exact .quiet (es:=#[]) (λw _ _=>ab4 h1 (w:=w) trivial) (by simp) (ih h2 hq k)
  ·refine .quiet (es:=seen E.P s.1.fn (esOf l).toArray) (λw hb hw=>?_) hq.2.1 (ih h2 hq.2.2 k);obtain⟨hf,hw'⟩:=hq.1 w hb hw;rw[ab4 h1 hf,hw']
theorem bv9{A:Area}{Low:Nat}{m:Mark}(h:(MemAct.mark m).touch?=none)(hr:∀x,m≠.release x)(hl:(MemAct.mark m).low Low):Ev0 A Low ⟨.mark m,false,true⟩:=
 ⟨⟨λb hb=>(by rw[show MemAct.ofEvent ⟨.mark m,false,true⟩=.mark m from rfl,h]at hb;cases hb),λe=>hr _ (MemAct.mark.inj e)⟩,hl⟩
theorem aS4{A:Area}{Low:Nat}(hl:A.Wg<Low)(i:Nat)(wr:Bool):Ev0 A Low ⟨.cell ⟨A.Wg,i,none⟩,wr,true⟩:=by
 have e:MemAct.ofEvent ⟨.cell ⟨A.Wg,i,none⟩,wr,true⟩=.access ⟨.cell ⟨A.Wg,i,none⟩,wr,true⟩:=by cases wr<;>rfl
 refine⟨⟨λb hb=>?_,by rw[e];simp⟩,by rw[e];exact hl⟩;rw[e]at hb;simp only[MemAct.touch?,sk]at hb;subst hb;exact .inr (.inl ⟨_,rfl,rfl,by simp⟩)
theorem ct1{A:Area}{Low b:Nat}(hb:A.Bx b)(hl:b<Low):Ev0 A Low ⟨.cell ⟨b,0,none⟩,false,false⟩:=by
 refine⟨⟨λx hx=>?_,by simp[MemAct.ofEvent]⟩,hl⟩;simp only[MemAct.ofEvent,MemAct.touch?,sk]at hx;subst hx;exact .inl ⟨_,rfl,hb,rfl,rfl⟩
theorem cs9{A:Area}{Low b:Nat}(hb:A.Bx b)(hl:b<Low):Evn A Low ⟨.cell ⟨b,0,none⟩,false,false⟩:=by
 refine⟨⟨λx hx=>?_,by simp[MemAct.ofEvent]⟩,hl⟩;simp only[MemAct.ofEvent,MemAct.touch?,sk]at hx;subst hx;exact .inr (.inl ⟨_,rfl,hb,rfl,rfl⟩)
end
theorem cell_of{w:World}{b:Nat}{v:Value}{T:TypeId}(h:w.heap[b]?=some (.cells #[v] T (0,0))):w.cell? ⟨b,0,none⟩=some v:=by
 simp[World.cell?,h]
theorem af4{Wg:Nat}{tW:TypeId}{w:World}{s m:Int}(h:WgS Wg tW w s m):w.cell? ⟨Wg,0,none⟩=some (.int .u64 s)/\w.cell? ⟨Wg,1,none⟩=some (.int .u32 m)/\w.shape? Wg=some (tW,2)/\∀i,w.frozen? ⟨Wg,i,none⟩=false:=by
 unfold WgS at h;refine⟨?_,?_,?_,λi=>?_⟩
 ·simp[World.cell?,h]
 ·simp[World.cell?,h]
 ·simp[World.shape?,h]
 ·simp[World.frozen?,h]
section
variable (a:Ar) (x:Frame) (xs:List Frame) (Shun:Loc->Prop) (N:Nat)
theorem bx3{w:World}(h:FB (bxOf a) w):w.cell? ⟨a.m+3,0,none⟩=some a.v3:=cell_of (T:=48) (h (a.m+3) _ (by simp[bxOf]))
theorem bx8{w:World}(h:FB (bxOf a) w):w.cell? ⟨a.m+8,0,none⟩=some a.chV:=cell_of (T:=115) (h (a.m+8) _ (by simp[bxOf]))
theorem b26{k:Nat}(h:k<=8):IntKind.i64.wrap ((k:Int)+1)=((k+1:Nat):Int):=by
 rcases lt9 h with rfl|rfl|rfl|rfl|rfl|rfl|rfl|rfl|rfl<;>rfl
theorem pq_sh(f:FuncId)(hf:seen Tryz.prog f (esOf a.dShW).toArray = #[])(r:List (FuncId×List Did))(hr:PQ (env a x xs Shun N) r):PQ (env a x xs Shun N) ((f,a.dShW)::r):=by
 refine⟨λw _ hw=>?_,?_,hr⟩
 ·obtain⟨s,m,hw⟩:=hw;have:=(af4 hw).2.2.1
  exact⟨⟨this,this,trivial⟩,rfl⟩
 ·rw[show(env a x xs Shun N).P=Tryz.prog from rfl,hf];simp
theorem b92(a:Ar)(x:Frame)(xs:List Frame)(k:Int)(g16 g31 g32 g33 g34:Value):∃sW1 sA sB sW2 sC sD sW3 sE:St,
  runG Tryz.prog true 27 (a.s0 x xs k g16 g31 g32 g33 g34) []=some (sW1,[(65,[.mk (.extern 71),.mk .disable])])/\
  oneG Tryz.prog true sW1 [sV 4294967296]=some (sA,[.mk (.extern 109),a.rdW 4294967296])/\
  oneG Tryz.prog true sW1 [sV 0]=some (sB,[.mk (.extern 109),a.rdW 0])/\
  runG Tryz.prog true 48 sA []=some (sW2,[])/\
  oneG Tryz.prog true sW2 [SHa,.b false,sV 4294967296]=some (sC,[.mk (.extern 111),.sh (a.m+9) (some (125,2)),.fz ⟨a.m+9,0,none⟩ false,a.rdW 4294967296,.wr .atomic ⟨a.m+9,0,none⟩ (.int .u64 4294967297)])/\
  oneG Tryz.prog true sW2 [SHa,.b false,sV 0]=some (sD,[.mk (.extern 111),.sh (a.m+9) (some (125,2)),.fz ⟨a.m+9,0,none⟩ false,a.rdW 0])/\
  runG Tryz.prog true 44 sC [[SHa,SHa]]=some (sW3,[(65,a.dShW),(65,[.mk (.extern 87),.mk (.write ⟨a.m+9,1,none⟩)])])/\
  oneG Tryz.prog true sW3 [.v (.int .u32 1)]=some (sE,[.mk (.extern 88),.mk .disable,.rd .atomic ⟨a.m+9,1,none⟩ (.int .u32 1),.wr .atomic ⟨a.m+9,1,none⟩ (.int .u32 0),.mk .enable])/\
  a10 Tryz.prog true sW3.1 sW3.2 [.v (.int .u32 0)]=some (.still {G sW3.1 sW3.2 with status:= .blocked},[.mk (.extern 88),.mk .disable,.rd .atomic ⟨a.m+9,1,none⟩ (.int .u32 0)])/\
  runG Tryz.prog true 65 sB [[SHa,SHa],[.v a.V]]=some ((x.finish a.V,xs),a.endL)/\
  runG Tryz.prog true 91 sD [[sV 0],[SHa,SHa],[.v a.V]]=some ((x.finish a.V,xs),(79,[.mk (.extern 109),a.rdW 0])::a.endL)/\
  runG Tryz.prog true 52 sE [[sV 0],[SHa,SHa],[.v a.V]]=some ((x.finish a.V,xs),(79,[.mk (.extern 109),a.rdW 0])::a.endL)/\
  seen Tryz.prog sW1.1.fn (esOf [.mk (.extern 109),a.rdW 4294967296]).toArray = #[rdE (a.m+9) 0]/\
  seen Tryz.prog sW1.1.fn (esOf [.mk (.extern 109),a.rdW 0]).toArray = #[rdE (a.m+9) 0]/\
  seen Tryz.prog sW2.1.fn (esOf [.mk (.extern 111),.sh (a.m+9) (some (125,2)),.fz ⟨a.m+9,0,none⟩ false,a.rdW 4294967296,.wr .atomic ⟨a.m+9,0,none⟩ (.int .u64 4294967297)]).toArray = #[rdE (a.m+9) 0,wrE (a.m+9) 0]/\
  seen Tryz.prog sW2.1.fn (esOf [.mk (.extern 111),.sh (a.m+9) (some (125,2)),.fz ⟨a.m+9,0,none⟩ false,a.rdW 0]).toArray = #[rdE (a.m+9) 0]/\
  seen Tryz.prog sW3.1.fn (esOf [.mk (.extern 88),.mk .disable,.rd .atomic ⟨a.m+9,1,none⟩ (.int .u32 1),.wr .atomic ⟨a.m+9,1,none⟩ (.int .u32 0),.mk .enable]).toArray = #[mkE .disable,rdE (a.m+9) 1,wrE (a.m+9) 1,mkE .enable]:=by
 obtain⟨f1,f2,f3,f4,f5,f6,f7,f8,f9,f10,f11,f12⟩:=by2 a x xs k g16 g31 g32 g33 g34;refine⟨a.sW1 x xs k g16 g31 g32 g33 g34,a.sA x xs k g16 g31 g32 g33 g34,a.sB x xs k g16 g31 g32 g33 g34,a.sW2 x xs k g16 g31 g32 g33 g34,a.sC x xs k g16 g31 g32 g33 g34,a.sD x xs k g16 g31 g32 g33 g34,a.sW3 x xs k g16 g31 g32 g33 g34,a.sE x xs k g16 g31 g32 g33 g34,f1,f2,f3,f4,f5,f6,f7,f8,f9,f10,f11,f12,?_,?_,?_,?_,?_⟩<;>kernel_rfl
theorem cc9(k:Int)(g16 g31 g32 g33 g34:Value):PS (env a x xs Shun N) a.n3 .cls 0 (G (a.s0 x xs k g16 g31 g32 g33 g34).1 (a.s0 x xs k g16 g31 g32 g33 g34).2):=by
 obtain⟨sW1,sA,sB,sW2,sC,sD,sW3,sE,f1,f2,f3,f4,f5,f6,f7,f8,f9,f10,f11,f12,e1,e0,c1,c0,es⟩:=b92 a x xs k g16 g31 g32 g33 g34;have hWL:(env a x xs Shun N).A.Wg<(env a x xs Shun N).Low:=by show a.m+9<a.m+10;omega
 refine PS.run (E:=env a x xs Shun N) 27 f1 ⟨λw _ _=>⟨⟨trivial,trivial,trivial⟩,rfl⟩,λe he=>?_,trivial⟩ ?_
 ·have:seen Tryz.prog 65 (esOf [.mk (.extern 71),.mk .disable]).toArray = #[mkE .disable]:=by kernel_rfl
  rw[show(env a x xs Shun N).P=Tryz.prog from rfl,this]at he;simp at he;subst he;exact bv9 rfl (by simp) trivial
 have hd1:dfold (env a x xs Shun N).P 0 [(65,[.mk (.extern 71),.mk .disable])]=1:=by kernel_rfl
 rw[hd1];have hw3:PS (env a x xs Shun N) a.n3 .reg 1 (G sW3.1 sW3.2):=by
  refine .w3 (s1:=sE) (es:=#[mkE .disable,rdE (a.m+9) 1,wrE (a.m+9) 1,mkE .enable]) (λw st _ hw=>?_) (λw _ hw=>?_) ⟨rfl,52,_,_,f12,.inr rfl⟩ (λe he=>?_)
  ·exact ai0 f9 (w:=w) ⟨trivial,trivial,(af4 hw).2.1,trivial⟩
  ·have:=ab4 f8 (w:=w) ⟨trivial,trivial,(af4 hw).2.1,⟨⟨_,(af4 hw).2.1⟩,(af4 hw).2.2.2 1,by simp,by simp⟩,trivial,trivial⟩
   rw[es]at this;exact this
  ·simp at he;rcases he with rfl|rfl|rfl|rfl
   ·exact bv9 rfl (by simp) trivial
   ·exact aS4 hWL 1 false
   ·exact aS4 hWL 1 true
   ·exact bv9 rfl (by simp) trivial
 refine .w1 (s1:=sA) (s0:=sB) (es:=#[rdE (a.m+9) 0]) (λw _ hw=>?_) ?_ (λw _ hw=>?_) ⟨rfl,65,_,_,f10,.inl rfl⟩ (λe he=>?_)
 ·have:=ab4 f2 (w:=w) ⟨trivial,(af4 hw).1,trivial⟩
  rw[e1]at this;exact this
 ·refine PS.run (E:=env a x xs Shun N) 48 f4 trivial ?_;refine .w2 (s1:=sC) (s0:=sD) (es:=#[rdE (a.m+9) 0,wrE (a.m+9) 0]) (es0:=#[rdE (a.m+9) 0]) (λw _ hw=>?_) ?_ (λw _ hw=>?_) ⟨rfl,91,_,_,f11,.inr rfl⟩ (λe he=>?_) (λe he=>?_)
  ·have hc:=af4 hw;have:=ab4 f5 (w:=w) ⟨trivial,hc.2.2.1,hc.2.2.2 0,hc.1,⟨⟨_,hc.1⟩,hc.2.2.2 0,by simp,by simp⟩,trivial⟩
   rw[c1]at this;exact this
  ·refine PS.run (E:=env a x xs Shun N) 44 f7 (pq_sh a x xs Shun N 65 (by kernel_rfl) _ ⟨λw _ _=>⟨⟨trivial,trivial,trivial⟩,rfl⟩,λe he=>?_,trivial⟩) ?_
   ·have:seen Tryz.prog 65 (esOf [.mk (.extern 87),.mk (.write ⟨a.m+9,1,none⟩)]).toArray = #[mkE (.write ⟨a.m+9,1,none⟩)]:=by kernel_rfl
    rw[show(env a x xs Shun N).P=Tryz.prog from rfl,this]at he;simp at he;subst he;refine⟨⟨λb hb=>?_,by simp[mkE,MemAct.ofEvent]⟩,by show a.m+9<a.m+10;omega⟩;simp only[mkE,MemAct.ofEvent,MemAct.touch?,sk]at hb;subst hb;exact .inr (.inl ⟨_,rfl,rfl,by simp⟩)
   ·exact hw3
  ·have hc:=af4 hw;have:=ab4 f6 (w:=w) ⟨trivial,hc.2.2.1,hc.2.2.2 0,hc.1,trivial⟩
   rw[c0]at this;exact this
  ·simp at he;rcases he with rfl|rfl
   ·exact aS4 hWL 0 false
   ·exact aS4 hWL 0 true
  ·simp at he;subst he;exact aS4 hWL 0 false
 ·have:=ab4 f3 (w:=w) ⟨trivial,(af4 hw).1,trivial⟩
  rw[e0]at this;exact this
 ·simp at he;subst he;exact aS4 hWL 0 false
theorem cd1(i:Nat)(v:Value)(hi:i<10)(hb:∃o,bxOf a (a.m+i)=some o)(hv:∀w,FB (bxOf a) w->w.cell? ⟨a.m+i,0,none⟩=some v):PQ (env a x xs Shun N) [(48,[.rd .plain ⟨a.m+i,0,none⟩ v])]:=by
 refine⟨λw hw _=>⟨⟨hv w hw,trivial⟩,rfl⟩,λe he=>?_,trivial⟩;have:seen Tryz.prog 48 (esOf [.rd .plain ⟨a.m+i,0,none⟩ v]).toArray = #[⟨.cell ⟨a.m+i,0,none⟩,false,false⟩]:=by kernel_rfl
 rw[show(env a x xs Shun N).P=Tryz.prog from rfl,this]at he;simp at he;subst he;exact ct1 hb (by show a.m+i<a.m+10;omega)
theorem bn9(d i:Nat)(v:Value):dfold Tryz.prog d [(48,[.rd .plain ⟨a.m+i,0,none⟩ v])]=d:=by
 have:seen Tryz.prog 48 (esOf [.rd .plain ⟨a.m+i,0,none⟩ v]).toArray = #[⟨.cell ⟨a.m+i,0,none⟩,false,false⟩]:=by kernel_rfl
 simp only[dfold,this];rfl
theorem by1(k:Int)(g16 g31 g32 g33 g34:Value):mayWake Tryz.prog (G (a.SC (.int .i64 k) g16 g31 g32 g33 g34) (x::xs))=true:=by kernel_rfl
theorem b01(k:Int)(g16 g31 g32 g33 g34:Value):(a.SC (.int .i64 k) g16 g31 g32 g33 g34).fn=48:=rfl
theorem cd0(h8:a.n3<=8):∀(j k:Nat),k+j=a.n3->∀g16 g30 g31 g32 g33 g34:Value,PS (env a x xs Shun N) k .opn 0 (G (a.SP (.int .i64 k) g16 g30 g31 g32 g33 g34) (x::xs)):=by
 have hB8:∃o,bxOf a (a.m+8)=some o:=⟨_,by simp[bxOf];rfl⟩
 intro j;induction j with
 |zero=>
  intro k hk g16 g30 g31 g32 g33 g34;obtain rfl:k=a.n3:=by omega
  refine PS.run (E:=env a x xs Shun N) 3 (s:=(a.SP (.int .i64 (a.n3:Int)) g16 g30 g31 g32 g33 g34,x::xs)) (b43 a (x::xs) _ _ _ _ _ _ _) trivial ?_;rw[lf (Int.lt_irrefl _)];refine PS.run (E:=env a x xs Shun N) 7 (s:=(a.SP1 (.int .i64 (a.n3:Int)) g16 false g31 g32 g33 g34,x::xs)) (cn1 a (x::xs) _ _ _ _ _ _) (cd1 a x xs Shun N 8 a.chV (by omega) hB8 λw hw=>bx8 a hw) ?_;rw[show(env a x xs Shun N).P=Tryz.prog from rfl,show a.rdC=[.rd .plain ⟨a.m+8,0,none⟩ a.chV]from rfl,bn9];have ec:∀s' r':Nat,seen Tryz.prog 48 (esOf [.gt (a.m+7) (.chan 0 #[] false s' r' false),.st (a.m+7) (.chan 0 #[] true s' r' false)]).toArray = #[⟨.obj (a.m+7),false,true⟩,⟨.obj (a.m+7),true,true⟩]:=λ_ _=>by kernel_rfl
  refine PS.close (E:=env a x xs Shun N) (s:=(a.SC (.int .i64 (a.n3:Int)) g16 g31 g32 g33 g34,x::xs)) (s1:=a.s0 x xs (a.n3:Int) g16 g31 g32 g33 g34) (es:=#[⟨.obj (a.m+7),false,true⟩,⟨.obj (a.m+7),true,true⟩]) (λw s' r' _ hc=>?_) (by1 a x xs _ _ _ _ _ _) (λe he=>?_) rfl (cc9 a x xs Shun N _ _ _ _ _ _)
  ·have:=ab4 (ci4 a (x::xs) (a.n3:Int) g16 g31 g32 g33 g34 s' r') (w:=w) ⟨⟨hc,λ_ _ _ h=>by cases h⟩,⟨_,hc,λ_ _ _ h=>by cases h⟩,trivial⟩
   rw[b01,ec]at this;exact this
  ·simp at he;rcases he with rfl|rfl
   ·refine⟨⟨λb hb=>?_,by simp[MemAct.ofEvent]⟩,by show a.m+7<a.m+10;omega⟩;simp only[MemAct.ofEvent,MemAct.touch?,sk]at hb;subst hb;exact .inr (.inr ⟨rfl,rfl⟩)
   ·exact⟨⟨λb hb=>by simp[MemAct.ofEvent,MemAct.touch?]at hb,by simp[MemAct.ofEvent]⟩,by show a.m+7<a.m+10;omega⟩
 |succ j ih=>
  intro k hk g16 g30 g31 g32 g33 g34;refine PS.run (E:=env a x xs Shun N) 3 (s:=(a.SP (.int .i64 (k:Int)) g16 g30 g31 g32 g33 g34,x::xs)) (b43 a (x::xs) _ _ _ _ _ _ _) trivial ?_;rw[lg (show(k:Int)<(a.n3:Int)by omega)];refine PS.run (E:=env a x xs Shun N) 14 (s:=(a.SP1 (.int .i64 (k:Int)) g16 true g31 g32 g33 g34,x::xs)) (cn4 a (x::xs) _ _ _ _ _ _) (cd1 a x xs Shun N 8 a.chV (by omega) hB8 λw hw=>bx8 a hw) ?_;rw[show(env a x xs Shun N).P=Tryz.prog from rfl,show a.rdC=[.rd .plain ⟨a.m+8,0,none⟩ a.chV]from rfl,bn9];refine PS.send (E:=env a x xs Shun N) (s:=(a.SS (.int .i64 (k:Int)) g34,x::xs)) (λw _=>?_) (by show k<a.n3;omega) ?_
  ·exact ai0 (cm8 a (x::xs) k g34) (w:=w) trivial
  ·rw[cm7];have hr:=cn2 a (x::xs) k g34;rw[b26 (by omega)]at hr;exact PS.run (E:=env a x xs Shun N) 7 (s:=(a.SS' (.int .i64 (k:Int)) g34,x::xs)) hr trivial (ih (k+1) (by omega) _ _ _ _ _ _)
theorem bW9(h8:a.n3<=8):PS (env a x xs Shun N) 0 .opn 0 (G a.FP (x::xs)):=by
 have hB3:∃o,bxOf a (a.m+3)=some o:=⟨_,by simp[bxOf];rfl⟩
 refine PS.run (E:=env a x xs Shun N) 23 (s:=(a.FP,x::xs)) (cn8 a (x::xs)) (cd1 a x xs Shun N 3 a.v3 (by omega) hB3 λw hw=>bx3 a hw) ?_;rw[show(env a x xs Shun N).P=Tryz.prog from rfl,bn9];exact cd0 a x xs Shun N h8 a.n3 0 (by omega) _ _ _ _ _ _
end
end Hid
namespace Hid
open Go Go.RowKit Go.Conc
inductive Sch(ops:Array Oper):List Nat->List Nat->Prop
 |nil {D:List Nat}(h:∀i<ops.size,i∈D):Sch ops D []
 |cons {D:List Nat}{i:Nat}{l:List Nat}(hi:i<ops.size) (hn:i ∉ D) (hd:∀o,ops[i]?=some o->∀e∈o.after,Region.binds .any e=true->e.on∈D) (k:Sch ops (i::D) l):Sch ops D (i::l)
def acyc(ops:Array Oper):Bool:=(List.range ops.size).all λi=>((ops[i]?).map (·.after.all λe=>!Region.binds .any e||decide (e.on<i))).getD true
theorem cn0{ops:Array Oper}(ha:acyc ops=true):∀(fuel t:Nat)(listed:Array Bool)(D:List Nat),listed.size=ops.size->(∀i<ops.size,(listed.getD i true=false<->i ∉ D))->((List.range ops.size).filter λi=>i ∉ D).length<=fuel->Sch ops D (Region.linearise.go .any ops fuel t listed []):=by
 intro fuel;induction fuel with
 |zero=>
  intro t listed D hs hl hf;refine .nil λi hi=>lz λhn=>?_
  have:i∈(List.range ops.size).filter λi=>i ∉ D:=by simp[hi,hn]
  have:=List.length_pos_of_mem this
  omega
 |succ fuel ih=>
  intro t listed D hs hl hf;unfold Region.linearise.go;simp only
  generalize hrs:(List.range ops.size).filter (λi=>!listed.getD i true&&((ops[i]?).map (·.after.all λe=>!Region.binds .any e||listed.getD e.on false)).getD false)=rs;have getF:∀j<ops.size,(listed.getD j false=true<->j∈D):=λj hj=>by
   have h1:=hl j hj;have hlt:j<listed.size:=by omega
   simp only[lc,lF hlt,lZ]at h1⊢;cases hb:listed[j]
   ·rw[hb]at h1;simp at h1;simp[h1]
   ·rw[hb]at h1;simp at h1;simp[h1]
  have mem:∀i,i∈rs<->i<ops.size/\i ∉ D/\∀o,ops[i]?=some o->∀e∈o.after,Region.binds .any e=true->listed.getD e.on false=true:=λi=>by
   rw[<-hrs];simp only[List.mem_filter,lG,lr,uJ];constructor
   ·rintro⟨hi,h1,h2⟩;refine⟨hi,(hl i hi).1 h1,λo ho e he hb=>?_⟩;rw[ho]at h2;simp only[lD,lZ,lal]at h2;obtain⟨j,hj,rfl⟩:=ui.1 he;have:=h2 j hj
    rw[hb]at this;simpa using this
   ·rintro⟨hi,h1,h2⟩;refine⟨hi,(hl i hi).2 h1,?_⟩;have ho:=lF hi;rw[ho];simp only[lD,lZ,lal];intro j hj;cases hb:Region.binds .any ops[i].after[j]with
    |false=>rfl
    |true=>rw[h2 _ ho _ (Array.getElem_mem hj) hb];rfl
  have step:∀i,i∈rs->Sch ops D (i::Region.linearise.go .any ops fuel (t/rs.length) (listed.setIfInBounds i true) []):=λi hi=>by
   obtain⟨h1,h2,h3⟩:=(mem i).1 hi;refine .cons h1 h2 (λo ho e he hb=>?_) (ih _ _ _ (by simp[hs]) (λj hj=>?_) ?_)
   ·have hx:=h3 o ho e he hb;have hlt:e.on<listed.size:=by
     refine lz λhc=>?_
     rw[lc,xX (by omega)]at hx;cases hx
    exact(getF e.on (by omega)).1 hx
   ·by_cases hji:i=j
    ·subst hji;simp[lc,lm (show i<listed.size by omega)]
    ·rw[lc,lj hji,<-lc,hl j hj];simp[xG hji]
   ·have hlt:((List.range ops.size).filter λj=>j ∉ i::D).length<((List.range ops.size).filter λj=>j ∉ D).length:=by
     have e:((List.range ops.size).filter λj=>j ∉ i::D)=(((List.range ops.size).filter λj=>j ∉ D).filter λj=>j≠i):=by
      rw[List.filter_filter];congr 1;funext j;simp[and_comm]
     rw[e];refine List.length_filter_lt_length_iff_exists.2 ⟨i,by simp[h1,h2],by simp⟩
    omega
  cases hp:rs[t%rs.length]? with
  |some i=>
   simp only
   rw[linearise_go_acc];exact step i (xm hp)
  |none=>
   have hnil:rs=[]:=by
    refine lz λhc=>?_
    have:=List.length_pos_iff.2 hc
    rw[List.getElem?_eq_none_iff]at hp;have:=xS t this
    omega
   refine .nil λi hi=>lz λhn=>?_
   have:∀n i,i<n->i<ops.size->i ∉ D->False:=by
    intro n;induction n with
    |zero=>intro i h;omega
    |succ n ihn=>
     intro i hin hi hn;have:i∈rs:=(mem i).2 ⟨hi,hn,λo ho e he hb=>?_⟩
     ·rw[hnil]at this;cases this
     ·have h1:=xd.1 ha i (lG.2 hi);rw[ho]at h1;simp only[lD,lZ,lal]at h1;obtain⟨j,hj,rfl⟩:=ui.1 he;have h2:=h1 j hj;rw[hb]at h2;simp at h2;exact(getF _ (by omega)).2 (lz λhc=>ihn _ (by omega) (by omega) hc)
   exact this (i+1) i (by omega) hi hn
theorem cm9{ops:Array Oper}(ha:acyc ops=true)(hd:Region.departs ops=false)(mixed:Bool)(t:Nat):Sch ops [] (Region.schedule mixed ops t):=by
 unfold Region.schedule;rw[hd];simp only[Bool.not_false,Bool.or_true,xj];unfold Region.linearise;exact cn0 ha _ _ _ _ (by simp) (λi hi=>by simp[lc,hi]) (lU (List.length_filter_le _ _) (by simp))
structure AtOpW(x:Frame)(o:Oper):Prop where
 mode:x.mode=.run
 kind:bB1 x.kind=true
 round:x.roundOf=none
 todo:∃ops i rest k,x.todo=.inRegion ops (i::rest)::k/\ops[i]?=some o/\o.guard=none
variable [inst:LoopOK] [Junk]
section
variable {E:Env}{B0:Nat}{T:Nat->Trace->Prop}{st:Ph->Int}{R:Ph->Prop}{nx dn:Nat}{L:World}{Post:Value->World->Prop}
theorem WW.op(hE:EOK E B0)(hR:RP st R){s s':St}{an:List An}{l:List Did}(h1:oneG E.P false s an=some (s',l))(hq:QAll E L [(s.1.fn,l)])(k:WW E B0 (TI E.A) st R nx dn (G s'.1 s'.2) L Post):WW E B0 (TI E.A) st R nx dn (G s.1 s.2) L Post:=by
 have hd:deafBehind dn (seen E.P s.1.fn (esOf l).toArray)=dn:=deafBehind_still (λe he=>(hq.2.1 e he).2) _;refine WW.still (T':=TI E.A) hE (al2 hE.ap) hR (es:=seen E.P s.1.fn (esOf l).toArray) (λC ph _ hb hw hg=>?_) (aZ9 hE λe he=>(hq.2.1 e he).1) (by rw[hd];exact k);obtain⟨hf,hw'⟩:=hq.1 C hb hw ⟨_,_,hg⟩;rw[ab4 h1 hf,hw']
structure LF(E:Env)(B0:Nat)(L:World):Prop where
 low:E.Low<=L.heap.size
 shun:∀l,E.A.Shun l->∃a T fz,l=.cell a/\L.heap[a.block]?=some (.cells #[] T fz)
 chL:L.heap[E.A.Ch]?=some (.chan 0 #[] false 0 0 false)
 hidb:∀b o,E.bx b=some o->∃T fz,L.heap[b]?=some (.cells #[] T fz)
 hidw:∃T fz,L.heap[E.A.Wg]?=some (.cells #[] T fz)
theorem WW.facts{b:Goroutine}(h:LF E B0 L->WW E B0 T st R nx dn b L Post):WW E B0 T st R nx dn b L Post:=
 λph d a gs C sl t q hinv hr=>h ⟨hinv.low,hinv.shun,hinv.chL,hinv.hidb,hinv.hidw⟩ ph d a gs C sl t q hinv hr
theorem cg9(hE:EOK E B0)(hl:LF E B0 L){ad:Addr}{v:Value}(hv:L.cell? ad=some v):Evn E.A L.heap.size ⟨.cell ad,false,false⟩:=by
 obtain⟨c,U,fz,k1,k2⟩:∃c T fz,L.heap[ad.block]?=some (.cells c T fz)/\ad.off<c.size:=by
  unfold World.cell? at hv;cases ho:L.heap[ad.block]? with
  |none=>rw[ho]at hv;cases hv
  |some o=>
   rw[ho]at hv;cases o with
   |cells c T fz=>
    simp only at hv
    split at hv
    ·cases hv
    ·exact⟨c,T,fz,rfl,(li.1 hv).1⟩
   |_=>cases hv
 have no:∀{b:Nat}{T fz},b=ad.block->L.heap[b]?≠some (.cells #[] T fz):=λ{b T fz} hb h=>by
  subst hb;rw[k1]at h;cases h;simp at k2
 refine⟨⟨λx hx=> .inl ?_,by simp[MemAct.ofEvent]⟩,(li.1 k1).1⟩;simp only[MemAct.ofEvent,MemAct.touch?,sk]at hx;subst hx;refine⟨?_,λhs=>?_⟩
 ·rintro(⟨a2,e2,hc⟩|e2)
  ·cases e2;rcases hc with hc|hc
   ·obtain⟨o,ho⟩:=hE.bx' _ hc;obtain⟨U2,fz2,k3⟩:=hl.hidb _ _ ho;exact no rfl k3
   ·obtain⟨U2,fz2,k3⟩:=hl.hidw;exact no hc.symm k3
  ·cases e2
 ·obtain⟨a2,U2,fz2,e2,k3⟩:=hl.shun _ hs;cases e2;exact(no rfl k3).elim
theorem WW.draw(hE:EOK E B0)(hT:TProp E.A T)(hR:RP st R){fr:Frame}{cs:List Frame}{id:Nat}{ops:Array Oper}{k:List Item}(hm:fr.mode=.run)(hq:fr.todo=.code (.region id ops true)::k)
  (h:∀n,WW E B0 T st R nx dn (G {fr with todo:= .inRegion ops (Region.schedule (E.P.follows .mixedOrders) ops n)::k} cs) L Post):WW E B0 T st R nx dn (G fr cs) L Post:=by
 refine .of hE hT hR rfl λph d a gs C sl t q hinv hr=>?_
 obtain⟨n,e,hch⟩:∃n e,(choose (.order fr.fn id)).run E.P C=.ok n (C.at e):=by
  exact⟨_,C.drawn+1,rfl⟩
 have hs:stepG E.P false (G fr cs) C=.go (G {fr with todo:= .inRegion ops (Region.schedule (E.P.follows .mixedOrders) ops n)::k} cs) (C.at e) #[]:=by
  simp only[stepG,G,hm,stepG.exec,hq,hch,Bool.not_true,lH,xn]
 obtain⟨gs',h1,hz,h2,h3,h4,h5,h6⟩:=aA6 (sl:=sl) hinv hs;refine⟨_,_,h1,h n ph d _ gs' _ sl _ q (Inv.atC ⟨h2,h3,h4,hinv.wr,hinv.old,hinv.tape,hinv.low,hinv.shun,hinv.bx,hinv.ch,hinv.chL,hinv.wg,hinv.hidb,hinv.hidw,?_,h5,h6,hinv.ps.woken hinv.ch _ _,hinv.cn⟩ e) hr⟩;rw[a38];exact hinv.tr
theorem WW.lock(hE:EOK E B0)(hR:RP st R){p:Program}(J:JB)(hP:@Pair J.v p E.P)(hJs:¬ J.v.set)(hok:∀r,J.v.ok r<->inst.ok r)(hG:GB p B0){f:FuncId}{Q:Value->World->Prop}{x y:Frame}{o oy:Oper}(hx:AtOp x o)(hy:AtOpW y oy)(hT:@OpT J.v p E.P o)
  (hxy:execOp y.eval oy=execOp x.eval o) {cs zs csP:List Frame}(hcs:cs=zs++[dmF p]) (hz:∀z∈zs,z.defers=[]/\(z.mode=.run\/z.mode=.returning)) (hxd:x.defers=[]) (hval:∀g args w w' es es',(execOp x.eval o).runT p w es≠(.ok (.enter g args) w',es'))
  (ht:Tree p (AtRet p f Q) (G x cs) L)
  (K:∀v L',Tree p (AtRet p f Q) (G (x.finish v) cs) L'->Later p (G x cs) L (G (x.finish v) cs) L'->WW E B0 (TI E.A) st R nx dn (G (y.finish v) csP) L' Post):WW E B0 (TI E.A) st R nx dn (G y csP) L Post:=by
 refine .of hE (al2 hE.ap) hR rfl λph d a gs C sl t q hinv hr=>?_
 obtain⟨g',L',es,e,ht',hlat⟩:=ht.goes (au4 hx.mode) C.drawn;have hwr:@WR J.v _ C (L.at C.drawn):=by
  have h:=hinv.wr;exact @WR.mk J.v _ C (L.at C.drawn) (h.os) (h.out) (h.size) (h.blk) (h.nv) (h.np) (λb r hx=>(hok r).2 (h.lp b r hx))
 have hwl:@WR J.v _ (L.at C.drawn) (L.at C.drawn):=@WR.self J.v _ _ _ hwr;have hearly:(x.kind==CallKind.early)=false:=by rw[hx.kind];rfl
 have hmode:∀ch,g'.frame.mode≠.panicking ch:=by
  intro ch hch;refine aQ2 (P:=E.P) ht' ?_;have e':=e;rw[hx.step]at e';have hTT:=hT x.eval λ_=>rfl
  cases hr:(execOp x.eval o).runT p (L.at C.drawn) #[]with
  |mk r es0=>
   cases r with
   |ok n w=>
    have hpl:=(@TameN.plain J.v _ p E.P hP _ hTT _ _ _ _ _ hwl hr).1;have e2:=@AtOp.go J.v _ _ _ hx p true cs _ _ _ _ hr hpl;rw[e]at e2;exfalso;have fin:∀v,(x.finish v).mode=.run:=λv=>by
     unfold Frame.finish;split<;>exact hx.mode
    cases hpl<;>(simp only[GStep.go.injEq]at e2;rw[e2.1]at hch)<;>first|(simp only[G,fin]at hch;cases hch)|(simp only[G,Frame.enter]at hch;cases hch)
   |halt hh w=>
    unfold stepG.apply at e';simp only[hr,xj,hearly,lH,xn]at e';cases @TameN.bP6 J.v _ p E.P (@Pair.twin J.v p E.P hP) _ hTT _ _ _ _ _ hwl hr with
    |panic v=>
     simp only[ac8,GStep.go.injEq]at e';rw[<-e'.1];have:x.raise [{v,recovered:=false}]={x with mode:= .panicking [{v,recovered:=false}]}:=by
      unfold Frame.raise;rw[hx.mode]
     rw[this,hcs];exact .fr rfl hxd hz
    |uns u hu=>cases u<;>first|(simp[GStep.after]at e';done)|exact absurd rfl (hu _)
    |stuck s=>simp[GStep.after]at e'
 obtain⟨n,es0,hrun,hp,rfl⟩:=@AtOp.inv J.v _ p E.P x o hx hP hT true cs _ _ _ _ hwl e hmode;have e2:=@AtOp.go J.v _ _ _ hx p true cs _ _ _ _ hrun hp;rw[e]at e2;obtain⟨_,_,hl⟩:=@TameN.law J.v _ p E.P (@Pair.twin J.v p E.P hP) _ (hT x.eval λ_=>rfl) C (L.at C.drawn) _ _ _ _ hwr (hinv.wr.gl hG hinv.old) (λi _=>by show C.tape _=L.tape _;rw[hinv.tape];rfl) hrun;have fin:∀v C',(execOp x.eval o).runT E.P C #[]=(.ok n C',es0)->(n=.value v\/(n=.skip/\v=undef))->stepG E.P false (G y csP) C=.go (G (y.finish v) csP) C' (seen E.P y.fn es0):=λv C' hC hn=>by
  rw[<-hxy]at hC;obtain⟨hm,hk,hro,ops,i,rest,k,htd,ho,hg⟩:=hy;have hw:(((ops[i]?).map (Region.wanted · (yielded ops y.tmps))).getD false)=true:=by
   rw[ho];simp[Region.wanted,hg]
  have ho':y.oper?=some oy:=by simp only[Frame.oper?,htd,ho]
  have hk':(y.kind==CallKind.early)=false:=by cases hh:y.kind<;>first|rfl|(rw[hh]at hk;cases hk)
  simp only[stepG,G,hm,stepG.exec,htd,hw,xj,stepG.oper,ho',hro];unfold stepG.apply;rcases hn with rfl|⟨rfl,rfl⟩<;>(simp only[hC,xj,hk',lH,xn,ac8])<;>rfl
 have fin2:∀v C',(n=.value v\/(n=.skip/\v=undef))->g'=G (x.finish v) cs->(execOp x.eval o).runT E.P C #[]=(.ok n C',es0)->@Out J.v _ C (L.at C.drawn) C' L' #[] es0->∃m' ops,runT E.P (crowd gs C sl) E.A.n=(.next m',ops)/\Wins E.P Post m' (t++ops):=λv C' hn hg' hC ho=>by
  subst hg';have hof:=@OutF.of J.v _ hJs _ _ _ _ _ (@Out.seen J.v _ _ _ _ _ _ ho E.P y.fn);obtain⟨gs',h1,hz1,h2,h3,h4,h5,h6⟩:=aA6 (sl:=sl) hinv (fin v C' hC hn);refine⟨_,_,h1,K v _ ht' hlat ph d _ gs' C' sl _ q (hinv.out hE (λr h=>(hok r).1 h) hof h2 h3 h4 h5 h6 (hinv.ps.woken ?_ _ _)) hr⟩;obtain⟨s,r,hc⟩:=hinv.ch;exact⟨s,r,(hof.obj _ _ hinv.chL λ_ _ _ hc=>by cases hc).2.trans hc⟩
 cases hp with
 |enter g1 args=>exact(hval _ _ _ _ _ _ hrun).elim
 |value v=>
  rcases hl with⟨_,_,_,hc,_⟩|⟨C',hC,ho⟩
  ·cases hc
  simp only[GStep.go.injEq]at e2;exact fin2 v C' (.inl rfl) e2.1 hC ho
 |skip=>
  rcases hl with⟨_,_,_,hc,_⟩|⟨C',hC,ho⟩
  ·cases hc
  simp only[GStep.go.injEq]at e2;exact fin2 undef C' (.inr ⟨rfl,rfl⟩) e2.1 hC ho
end
end Hid
namespace Hid
open Go Go.Proofs Go.RowKit Go.Conc Ar
variable [Junk]
section
variable (a:Ar) (x:Frame) (xs:List Frame) (Shun:Loc->Prop) (N:Nat) {B0:Nat}{Post:Value->World->Prop}
abbrev TW(B0:Nat)(Post:Value->World->Prop)(R:Ph->Prop)(nx:Nat)(b:Goroutine)(L:World):Prop:=WW (env a x xs Shun N) B0 (TI (env a x xs Shun N).A) Ph.st R nx 0 b L Post
def PXL(B0:Nat)(Post:Value->World->Prop)(L:World):Prop:=∀f d s,(env a x xs Shun N).PX f d s->∀gs C sl t q,XS (env a x xs Shun N) B0 L 0 0 d (G s.1 s.2) gs C t q->Wins Tryz.prog Post (crowd gs C sl) t
theorem eok(hB:B0<=a.m)(hS:∀l,Shun l->∃ad,l=.cell ad/\ad.block<a.m)(hN:0<N):EOK (env a x xs Shun N) B0:=by
 have hb:∀b o,bxOf a b=some o->b=a.m+0\/b=a.m+1\/b=a.m+2\/b=a.m+3\/b=a.m+4\/b=a.m+6\/b=a.m+8:=λb o h=>by
  unfold bxOf at h;split at h
  ·exact .inl ‹_›
  split at h
  ·exact .inr (.inl ‹_›)
  split at h
  ·exact .inr (.inr (.inl ‹_›))
  split at h
  ·exact .inr (.inr (.inr (.inl ‹_›)))
  split at h
  ·exact .inr (.inr (.inr (.inr (.inl ‹_›))))
  split at h
  ·exact .inr (.inr (.inr (.inr (.inr (.inl ‹_›)))))
  split at h
  ·exact .inr (.inr (.inr (.inr (.inr (.inr ‹_›)))))
  ·cases h
 refine⟨⟨λb ⟨o,ho⟩ hc=>?_,λl hl hh=>?_,hN⟩,λb o h=>⟨o,h⟩,λb h=>h,?_,?_,?_,?_,?_,?_,?_⟩
 ·have:=hb b o ho
  have hc:b=a.m+9:=hc;omega
 ·obtain⟨ad,rfl,hlt⟩:=hS l hl;rcases hh with⟨ad',e,⟨o,ho⟩|hh⟩|e
  ·cases e;have:=hb _ o ho
   omega
  ·cases e;have hh:ad.block=a.m+9:=hh;omega
  ·cases e
 ·show a.m+7≠a.m+9;omega
 ·show bxOf a (a.m+7)=none;cases h:bxOf a (a.m+7)with
  |none=>rfl
  |some o=>have:=hb _ o h;omega
 ·show bxOf a (a.m+9)=none;cases h:bxOf a (a.m+9)with
  |none=>rfl
  |some o=>have:=hb _ o h;omega
 ·show B0<=a.m+7;omega
 ·show B0<=a.m+9;omega
 ·show a.m+7<a.m+10;omega
 ·show a.m+9<a.m+10;omega
variable {a x xs Shun N}
theorem ch7(a:Ar)(x8 x12:Value)(y:Nat->Value):∃u0 u1 u2 u3 u4 ua ub u5 u6 u7 u8 u9 uc:St,
  runG Tryz.prog false 17 (a.WX x8 x12 y,[gx]) [[SHa,SHa]]=some (u0,[(61,a.dShW)])/\
  oneG Tryz.prog false u0 []=some (u1,[.mk (.extern 70),.mk (.releaseMerge ⟨a.m+9,0,none⟩)])/\
  runG Tryz.prog false 3 u1 []=some (u2,[])/\
  oneG Tryz.prog false u2 []=some (u3,[.mk (.extern 71),.mk .disable])/\
  runG Tryz.prog false 34 u3 []=some (u4,[(61,[.mk (.extern 73)])])/\
  oneG Tryz.prog false u4 [sV 4294967296]=some (ua,[.mk (.extern 108),a.rdW 4294967296,a.wrW 0])/\
  oneG Tryz.prog false u4 [sV 4294967297]=some (ub,[.mk (.extern 108),a.rdW 4294967297,a.wrW 1])/\
  aP1 Tryz.prog 120 1 ua=true/\
  runG Tryz.prog false 103 ub []=some (u5,[])/\
  oneG Tryz.prog false u5 [sV 1]=some (u6,[.mk (.extern 109),a.rdW 1])/\
  runG Tryz.prog false 20 u6 []=some (u7,[])/\
  oneG Tryz.prog false u7 []=some (u8,[.mk (.extern 110),a.wrW 0])/\
  runG Tryz.prog false 27 u8 []=some (u9,[])/\
  oneG Tryz.prog false u9 [.v (.int .u32 0)]=some (uc,[.mk (.extern 82),.mk .disable,.rd .atomic ⟨a.m+9,1,none⟩ (.int .u32 0),.wr .atomic ⟨a.m+9,1,none⟩ (.int .u32 1),.mk .enable])/\
  aP1 Tryz.prog 60 1 uc=true/\mayWake Tryz.prog (G u9.1 u9.2)=true/\
  seen Tryz.prog u0.1.fn (esOf [.mk (.extern 70),.mk (.releaseMerge ⟨a.m+9,0,none⟩)]).toArray = #[mkE (.releaseMerge ⟨a.m+9,0,none⟩)]/\
  seen Tryz.prog u2.1.fn (esOf [.mk (.extern 71),.mk .disable]).toArray = #[mkE .disable]/\
  seen Tryz.prog u4.1.fn (esOf [.mk (.extern 108),a.rdW 4294967296,a.wrW 0]).toArray = #[rdE (a.m+9) 0,wrE (a.m+9) 0]/\
  seen Tryz.prog u4.1.fn (esOf [.mk (.extern 108),a.rdW 4294967297,a.wrW 1]).toArray = #[rdE (a.m+9) 0,wrE (a.m+9) 0]/\
  seen Tryz.prog u5.1.fn (esOf [.mk (.extern 109),a.rdW 1]).toArray = #[rdE (a.m+9) 0]/\
  seen Tryz.prog u7.1.fn (esOf [.mk (.extern 110),a.wrW 0]).toArray = #[wrE (a.m+9) 0]/\
  seen Tryz.prog u9.1.fn (esOf [.mk (.extern 82),.mk .disable,.rd .atomic ⟨a.m+9,1,none⟩ (.int .u32 0),.wr .atomic ⟨a.m+9,1,none⟩ (.int .u32 1),.mk .enable]).toArray = #[mkE .disable,rdE (a.m+9) 1,wrE (a.m+9) 1,mkE .enable]:=by
 obtain⟨f1,f2,f3,f4,f5,f6,f7,f8,f9,f10,f11,f12,f13,f14,f15,f16⟩:=bD3 a x8 x12 y;refine⟨a.u0 x8 x12 y,a.u1 x8 x12 y,a.u2 x8 x12 y,a.u3 x8 x12 y,a.u4 x8 x12 y,a.ua x8 x12 y,a.ub x8 x12 y,a.u5 x8 x12 y,a.u6 x8 x12 y,a.u7 x8 x12 y,a.u8 x8 x12 y,a.u9 x8 x12 y,a.uc x8 x12 y,f1,f2,f3,f4,f5,f6,f7,f8,f9,f10,f11,f12,f13,f14,f15,f16,?_,?_,?_,?_,?_,?_,?_⟩<;>kernel_rfl
theorem cm5(a:Ar):seen Tryz.prog 61 (esOf a.dShW).toArray = #[]:=by kernel_rfl
theorem nil81:seen Tryz.prog 61 (esOf [.mk (.extern 73)]).toArray = #[]:=by kernel_rfl
theorem ck0(hE:EOK (env a x xs Shun N) B0){L:World}(hPX:PXL a x xs Shun N B0 Post L)(x8 x12:Value)(y:Nat->Value):TW a x xs Shun N B0 Post R2 a.n3 (G (a.WX x8 x12 y) [gx]) L:=by
 obtain⟨u0,u1,u2,u3,u4,ua,ub,u5,u6,u7,u8,u9,uc,f1,f2,f3,f4,f5,f6,f7,f8,f9,f10,f11,f12,f13,f14,f15,f16,e1,e2,e3,e4,e5,e6,e7⟩:=ch7 a x8 x12 y;have hKK:KK=4294967296:=rfl;refine WW.run (E:=env a x xs Shun N) hE rp2 17 (s:=(a.WX x8 x12 y,[gx])) f1 ⟨λC _ _ hw=>?_,λe he=>?_,trivial⟩ ?_
 ·obtain⟨s,m,hw⟩:=hw;have:=(af4 hw).2.2.1
  exact⟨⟨this,this,trivial⟩,rfl⟩
 ·rw[show(env a x xs Shun N).P=Tryz.prog from rfl,cm5]at he;simp at he
 refine WW.r0 (E:=env a x xs Shun N) hE rp2 (s1:=u1) (λC ph _ _ _ _=>?_) ?_
 ·have:=ab4 f2 (w:=C) ⟨trivial,trivial,trivial⟩
  rw[e1]at this;exact this
 refine WW.bd6 (E:=env a x xs Shun N) hE (ah6 hE.ap) rp2 3 f3 trivial ?_;refine WW.k1 (E:=env a x xs Shun N) hE rp2 (s1:=u3) (λC ph _ _ _ _=>?_) ?_
 ·have:=ab4 f4 (w:=C) ⟨trivial,trivial,trivial⟩
  rw[e2]at this;exact this
 refine WW.bd6 (E:=env a x xs Shun N) hE (ah6 hE.ap) rp2 34 f5 ⟨λC _=>⟨⟨trivial,trivial⟩,rfl⟩,nil81,trivial⟩ ?_;refine WW.d1 (E:=env a x xs Shun N) hE hPX (sa:=ua) (sb:=ub) (n:=120) (by omega) (λC _ hw=>?_) (a27 f8) (λC _ hw=>?_) ?_
 ·have hc:=af4 hw;have:=ab4 f6 (w:=C) ⟨trivial,hc.1,⟨⟨_,hc.1⟩,hc.2.2.2 0,by simp,by simp⟩,trivial⟩
  rw[e3]at this;exact this
 ·have hc:=af4 hw;have:=ab4 f7 (w:=C) ⟨trivial,hc.1,⟨⟨_,hc.1⟩,hc.2.2.2 0,by simp,by simp⟩,trivial⟩
  rw[e4]at this;exact this
 refine WW.bd6 (E:=env a x xs Shun N) hE (ah6 hE.ap) (rp3 1) 103 f9 trivial ?_;refine WW.d2 (E:=env a x xs Shun N) hE (rp3 1) (s1:=u6) (λC ph _ _ _ hw=>?_) (by omega) ?_
 ·have hc:=af4 hw;have:=ab4 f10 (w:=C) ⟨trivial,hc.1,trivial⟩
  rw[e5]at this;exact this
 refine WW.bd6 (E:=env a x xs Shun N) hE (ah6 hE.ap) (rp3 1) 20 f11 trivial ?_;refine WW.d3 (E:=env a x xs Shun N) hE (s1:=u8) (by omega) (λC _ hw=>?_) ?_
 ·have hc:=af4 hw;have:=ab4 f12 (w:=C) ⟨trivial,⟨⟨_,hc.1⟩,hc.2.2.2 0,by simp,by simp⟩,trivial⟩
  rw[e6]at this;exact this
 refine WW.bd6 (E:=env a x xs Shun N) hE (ah6 hE.ap) (rp3 0) 27 f13 trivial ?_;refine WW.d4 (E:=env a x xs Shun N) hE hPX (s1:=uc) (n:=60) (by omega) f16 (λC _ hw=>?_) (a27 f15);have hc:=af4 hw;have:=ab4 f14 (w:=C) ⟨trivial,trivial,hc.2.1,⟨⟨_,hc.2.1⟩,hc.2.2.2 1,by simp,by simp⟩,trivial,trivial⟩
 rw[e7]at this;exact this
end
end Hid
namespace Hid
open Go Go.Proofs Go.RowKit Go.Conc Ar
variable [Junk]
def depB(i j:Nat):Bool:=(opsW[i]?).any λo=>o.after.any λe=>Region.binds .any e&&e.on==j
theorem ai3{i j:Nat}{D:List Nat}(hd:∀o,opsW[i]?=some o->∀e∈o.after,Region.binds .any e=true->e.on∈D)(h:depB i j=true):j∈D:=by
 unfold depB at h;cases ho:opsW[i]? with
 |none=>rw[ho]at h;cases h
 |some o=>
  rw[ho]at h;simp only[Option.any_some,Array.any_eq_true]at h;obtain⟨q,hq,h⟩:=h;simp only[lr,beq_iff_eq]at h;rw[<-h.2];exact hd o ho _ (Array.getElem_mem hq) h.1
theorem bJ3:opsW.size=13:=by kernel_rfl
theorem acycW:acyc opsW=true:=by kernel_rfl
theorem b10:Region.departs opsW=false:=by kernel_rfl
section
variable {a:Ar}{x:Frame}{xs:List Frame}{Shun:Loc->Prop}{N:Nat}{B0:Nat}{Post:Value->World->Prop}{f:FuncId}{Q:Value->World->Prop}
def fv(a:Ar)(k:Value)(p1 v1 p2:Value)(r:Option Value):Nat->Option Value
 |0=>some a.V
 |1=>some k
 |2=>some a.v0
 |3=>some (.int .i64 a.i1)
 |4=>some (.int .i64 a.i2)
 |5=>some a.v3
 |6=>some k
 |7=>some p1
 |8=>some v1
 |9=>some (.int .i64 a.i4)
 |10=>r
 |11=>some p2
 |_=>none
def OKy(F:Nat->Option Value)(D:List Nat)(y:Nat->Value):Prop:=∀i,i∈D->∀v,F i=some v->y (13+i)=v
theorem OKy.set{F:Nat->Option Value}{D:List Nat}{y:Nat->Value}(h:OKy F D y){i:Nat}{v:Value}(hv:∀u,F i=some u->u=v):OKy F (i::D) (updF y (13+i) v):=by
 intro j hj u hu;unfold updF;by_cases hji:j=i
 ·subst hji;rw[ll rfl];exact(hv u hu).symm
 ·rw[lu (by omega)];exact h j ((xe.1 hj).resolve_left hji) u hu
theorem ag2{y:Nat->Value}{s:Nat}{v:Value}(h:y s=v):updF y s v=y:=by
 funext j;unfold updF;split
 ·rename_i e;rw[e,h]
 ·rfl
theorem aX0{L:World}(fn:FuncId):QAll (env a x xs Shun N) L [(fn,[])]:=⟨λC _ _ _=>⟨trivial,rfl⟩,λe he=>by simp[bs9]at he,trivial⟩
theorem bm3{L:World}(hl:LF (env a x xs Shun N) B0 L)(i:Nat)(v:Value)(hi:i<10)(T:TypeId)(hb:bxOf a (a.m+i)=some (.cells #[v] T (0,0))):QAll (env a x xs Shun N) L [(62,[.rd .plain ⟨a.m+i,0,none⟩ v])]:=by
 refine⟨λC hC _ _=>⟨⟨cell_of (hC _ _ hb),trivial⟩,rfl⟩,λe he=>?_,trivial⟩;have:seen Tryz.prog 62 (esOf [.rd .plain ⟨a.m+i,0,none⟩ v]).toArray = #[⟨.cell ⟨a.m+i,0,none⟩,false,false⟩]:=by kernel_rfl
 rw[show(env a x xs Shun N).P=Tryz.prog from rfl,this]at he;simp at he;subst he;have hlow:a.m+10<=L.heap.size:=hl.low;exact⟨cs9 ⟨_,hb⟩ (by omega),by simp,by simp⟩
theorem co8(hE:EOK (env a x xs Shun N) B0){L:World}(hl:LF (env a x xs Shun N) B0 L){ad:Addr}{v:Value}(hv:L.cell? ad=some v):QAll (env a x xs Shun N) L [(62,[.rd .plain ad v])]:=by
 refine⟨λC _ hw _=>⟨⟨(hw.cell hv).1,trivial⟩,rfl⟩,λe he=>?_,trivial⟩;have:seen Tryz.prog 62 (esOf [.rd .plain ad v]).toArray = #[⟨.cell ad,false,false⟩]:=by kernel_rfl
 rw[show(env a x xs Shun N).P=Tryz.prog from rfl,this]at he;simp at he;subst he;exact⟨cg9 hE hl hv,by simp,by simp⟩
theorem bxV{i:Nat}:bxOf a (a.m+0)=some (.cells #[a.v0] 22 (0,0))/\bxOf a (a.m+1)=some (.cells #[.int .i64 a.i1] 3 (0,0))/\bxOf a (a.m+2)=some (.cells #[.int .i64 a.i2] 3 (0,0))/\bxOf a (a.m+3)=some (.cells #[a.v3] 48 (0,0))/\bxOf a (a.m+4)=some (.cells #[.int .i64 a.i4] 3 (0,0))/\bxOf a (a.m+6)=some (.cells #[a.V] 87 (0,0))/\bxOf a (a.m+8)=some (.cells #[a.chV] 115 (0,0)):=by
 refine⟨?_,?_,?_,?_,?_,?_,?_⟩<;>simp[bxOf]
def p1(a:Ar)(ad:Addr)(k:Nat):Value:= .pointer (some (ad.add (k*1)))
def p2(a:Ar)(k:Nat):Value:= .pointer (some ((⟨a.m+5,0,none⟩:Addr).add (k*1)))
theorem b67(hE:EOK (env a x xs Shun N) B0){ad:Addr}(hb3:a.b3=some ad){k:Nat}(hk:k<a.n3)(h8:a.n3<=8){v1:Value}{r:Option Value}{L:World}(hl:LF (env a x xs Shun N) B0 L){i:Nat}(hi:i<10)(hvis:i=8->L.cell? (ad.add (k*1))=some v1){D:List Nat}{y:Nat->Value}{l:List Nat}{nx:Nat}
  (hd:∀o,opsW[i]?=some o->∀e∈o.after,Region.binds .any e=true->e.on∈D) (hy:OKy (fv a (.int .i64 k) (p1 a ad k) v1 (p2 a k) r) D y)
  (K:∀y',OKy (fv a (.int .i64 k) (p1 a ad k) v1 (p2 a k) r) (i::D) y'->TW a x xs Shun N B0 Post R1 nx (G (a.WO (.int .i64 k) y' l) [gx]) L):TW a x xs Shun N B0 Post R1 nx (G (a.WO (.int .i64 k) y (i::l)) [gx]) L:=by
 obtain⟨b0,b1,b2,b3,b4,b6,b8⟩:=bxV (a:=a) (i:=0);have go:∀{v:Value}{an:List An}{ds:List Did},(∀u,fv a (.int .i64 k) (p1 a ad k) v1 (p2 a k) r i=some u->u=v)->oneG Tryz.prog false (a.WO (.int .i64 k) y (i::l),[gx]) an=some ((a.WO (.int .i64 k) (updF y (13+i) v) l,[gx]),ds)->QAll (env a x xs Shun N) L [(62,ds)]->TW a x xs Shun N B0 Post R1 nx (G (a.WO (.int .i64 k) y (i::l)) [gx]) L:=
  λhv h1 hq=>WW.op (E:=env a x xs Shun N) hE rp1 (s:=(a.WO (.int .i64 k) y (i::l),[gx])) h1 hq (K _ (hy.set hv))
 have hcase:i=0\/i=1\/i=2\/i=3\/i=4\/i=5\/i=6\/i=7\/i=8\/i=9:=by omega
 rcases hcase with rfl|rfl|rfl|rfl|rfl|rfl|rfl|rfl|rfl|rfl
 ·exact go (v:=a.V) (λu h=>(sj h).symm) (op0_W a _ y l) (bm3 hl 6 _ (by omega) 87 b6)
 ·exact go (v:= .int .i64 k) (λu h=>(sj h).symm) (op1_W a _ y l) (aX0 _)
 ·exact go (v:=a.v0) (λu h=>(sj h).symm) (op2_W a _ y l) (bm3 hl 0 _ (by omega) 22 b0)
 ·exact go (v:= .int .i64 a.i1) (λu h=>(sj h).symm) (op3_W a _ y l) (bm3 hl 1 _ (by omega) 3 b1)
 ·exact go (v:= .int .i64 a.i2) (λu h=>(sj h).symm) (op4_W a _ y l) (bm3 hl 2 _ (by omega) 3 b2)
 ·exact go (v:=a.v3) (λu h=>(sj h).symm) (op5_W a _ y l) (bm3 hl 3 _ (by omega) 48 b3)
 ·exact go (v:= .int .i64 k) (λu h=>(sj h).symm) (op6_W a _ y l) (aX0 _)
 ·have h5:y 18=a.v3:=hy 5 (ai3 hd (by kernel_rfl)) _ rfl;have h6:y 19=.int .i64 k:=hy 6 (ai3 hd (by kernel_rfl)) _ rfl;have h1:=op7_W a ad hb3 k hk h8 y l;rw[ag2 h5,ag2 h6]at h1;exact go (v:=p1 a ad k) (λu h=>(sj h).symm) h1 (aX0 _)
 ·have h7:y 20=.pointer (some (ad.add (k*1))):=hy 7 (ai3 hd (by kernel_rfl)) _ rfl;have h1:=op8_W a (.int .i64 k) (ad.add (k*1)) v1 y l;rw[ag2 h7]at h1;exact go (v:=v1) (λu h=>(sj h).symm) h1 (co8 hE hl (hvis rfl))
 ·exact go (v:= .int .i64 a.i4) (λu h=>(sj h).symm) (op9_W a _ y l) (bm3 hl 4 _ (by omega) 3 b4)
end
end Hid
namespace Hid
open Go Go.Proofs Go.RowKit Go.Conc Ar
variable [Junk]
section
variable {a:Ar}{x:Frame}{xs:List Frame}{Shun:Loc->Prop}{N:Nat}{B0:Nat}{Post:Value->World->Prop}{f:FuncId}{Q:Value->World->Prop}
def csT(x:Frame)(xs:List Frame):List Frame:=x::xs++[dmF twp]
def CsOK(x:Frame)(xs:List Frame):Prop:=∀z∈x::xs,z.defers=[]/\(z.mode=.run\/z.mode=.returning)
theorem b96(k x26 x31 x33 x34 x35:Value)(i:Nat)(l:List Nat)(o:Oper)(h:bL6[i]?=some o)(hg:o.guard=none):AtOp (a.TO k x26 x31 x33 x34 x35 (i::l)) o:=⟨rfl,rfl,rfl,_,i,l,_,rfl,h,hg⟩
def oSt:Oper:=op1 none (.store 89 (.tmp 35) (.tmp 33)) 0
def oSp:Oper:=opsW.getD 12 default
theorem cf5(i:Nat)(h:jobOK.fn i):Tryz.prog.funcs[i]?=twp.funcs[i]?:=by
 have h:jobF i=true:=h;unfold jobF at h;simp only[xg,beq_iff_eq]at h;rcases h with h|h
 ·subst h;exact(by kernel_rfl:Tryz.prog.funcs[64]?=twp.funcs[64]?)
 ·subst h;exact(by kernel_rfl:Tryz.prog.funcs[83]?=twp.funcs[83]?)
theorem b68(r:Loop):jobOK.ok r<->noLoops.ok r:=uU
theorem bP0:¬ jobOK.set:=λh=>h
theorem bL7:@OpT jobOK twp Tryz.prog oSt:=@b51 jobOK twp Tryz.prog.funcs false jobF (λh=>by cases h) (λh=>by cases h) (λ_ h=>h) (λ_ h=>h) oSt (by kernel_rfl)
theorem fin4(k x26 x31 x33 x34 x35 v:Value):(a.TO k x26 x31 x33 x34 x35 [4]).finish v=a.TO k x26 x31 x33 x34 x35 []:=by kernel_rfl
theorem fin12(k v:Value)(y:Nat->Value)(l:List Nat):(a.WO k y (12::l)).finish v=a.WO k y l:=by kernel_rfl
theorem fin10(k v:Value)(y:Nat->Value)(l:List Nat):(a.WO k y (10::l)).finish v=a.WO k (updF y 23 v) l:=cc7 a k v y l
theorem b87(hE:EOK (env a x xs Shun N) B0)(hG:GB twp B0)(hcs:CsOK x xs){ad:Addr}(hb3:a.b3=some ad){k:Nat}(hk:k<a.n3)(h8:a.n3<=8){v1 r x34:Value}{x26:Value}{nx:Nat}{L:World}
  (K:∀L',Tree twp (AtRet twp f Q) (G (a.TO (.int .i64 k) x26 v1 r x34 (p2 a k) []) (csT x xs)) L'->Later twp (G (a.TO (.int .i64 k) x26 v1 r x34 (p2 a k) [4]) (csT x xs)) L (G (a.TO (.int .i64 k) x26 v1 r x34 (p2 a k) []) (csT x xs)) L'->∀y,TW a x xs Shun N B0 Post R1 nx (G (a.WO (.int .i64 k) y []) [gx]) L')
  (ht:Tree twp (AtRet twp f Q) (G (a.TO (.int .i64 k) x26 v1 r x34 (p2 a k) [4]) (csT x xs)) L):
  ∀(l D:List Nat)(y:Nat->Value),Sch opsW D l->10∈D->8∈D->OKy (fv a (.int .i64 k) (p1 a ad k) v1 (p2 a k) (some r)) D y->12 ∉ D->TW a x xs Shun N B0 Post R1 nx (G (a.WO (.int .i64 k) y l) [gx]) L:=by
 intro l;induction l with
 |nil=>
  intro D y hs _ _ _ hn;cases hs with
  |nil h=>exact absurd (h 12 (by rw[bJ3];omega)) hn
 |cons i l ih=>
  intro D y hs h10 h8' hy hn12;cases hs with
  |cons hi hn hd hk'=>
   rw[bJ3]at hi;by_cases h9:i<10
   ·refine WW.facts (E:=env a x xs Shun N) λhl=>?_
    refine b67 hE hb3 hk h8 (v1:=v1) (r:=some r) hl h9 (λe=>absurd (e▸h8') hn) hd hy λy' hy'=>?_
    exact ih (i::D) y' hk' (by simp[h10]) (by simp[h8']) hy' (by simp;exact⟨by omega,hn12⟩)
   ·have hc:i=10\/i=11\/i=12:=by omega
    rcases hc with rfl|rfl|rfl
    ·exact absurd h10 hn
    ·have h0:y 13=a.V:=hy 0 (ai3 hd (by kernel_rfl)) _ rfl;have h1:y 14=.int .i64 k:=hy 1 (ai3 hd (by kernel_rfl)) _ rfl;have hop:=b52 a k hk h8 y l;rw[ag2 h0,ag2 h1]at hop;refine WW.op (E:=env a x xs Shun N) hE rp1 (s:=(a.WO (.int .i64 k) y (11::l),[gx])) hop (aX0 _) ?_;exact ih (11::D) _ hk' (by simp[h10]) (by simp[h8']) (hy.set (i:=11) λu h=>(sj h).symm) (by simp[hn12])
    ·have hl0:l=[]:=by
      cases hk' with
      |nil _=>rfl
      |@cons _ j l' hj hjn _ _=>
       exfalso;rw[bJ3]at hj;refine hjn (xe.2 ?_);have hc:j=12\/j=11\/j=10\/j=9\/j=8\/j=7\/j=6\/j=5\/j=4\/j=3\/j=2\/j=1\/j=0:=by omega
       rcases hc with rfl|rfl|rfl|rfl|rfl|rfl|rfl|rfl|rfl|rfl|rfl|rfl|rfl
       ·exact .inl rfl
       all_goals exact .inr (ai3 hd (by kernel_rfl))
     subst hl0;have h11:y 24=p2 a k:=hy 11 (ai3 hd (by kernel_rfl)) _ rfl;have h23:y 23=r:=hy 10 h10 _ rfl;refine WW.lock (inst:=noLoops) (E:=env a x xs Shun N) hE rp1 ⟨jobOK⟩ a57 bP0 b68 hG (x:=a.TO (.int .i64 k) x26 v1 r x34 (p2 a k) [4]) (o:=oSt) (oy:=oSp) (b96 _ _ _ _ _ _ _ _ _ (by kernel_rfl) rfl) ⟨rfl,rfl,rfl,opsW,12,[],_,rfl,by kernel_rfl,by kernel_rfl⟩ bL7 ?_ (zs:=x::xs) rfl hcs rfl ?_ ht ?_
     ·have e1:execOp (a.WO (.int .i64 k) y [12]).eval oSp=execOp (a.WO (.int .i64 k) (updF (updF y 24 (p2 a k)) 23 r) [12]).eval oSp:=by rw[ag2 h11,ag2 h23]
      exact e1.trans (by kernel_rfl)
     ·intro g args w w' es es' hc;have e2:execOp (a.TO (.int .i64 k) x26 v1 r x34 (p2 a k) [4]).eval oSt=(do Instr.storeAt 89 (p2 a k) r;pure .skip):=by kernel_rfl
      rw[e2]at hc;change ((Instr.storeAt 89 (p2 a k) r).bind λ_=>Sem.pure Next.skip).runT _ _ _=_ at hc
      rw[Sem.runT_bind']at hc;split at hc
      ·cases hc
      ·cases hc
     ·intro v L' ht' hl';rw[fin4]at ht' hl';rw[fin12];exact K L' ht' hl' y
end
end Hid
namespace Hid
open Go Go.Proofs Go.RowKit Go.Conc Ar
variable [Junk]
theorem bO0{P:Program}{α:Type}{s:Sem α}:∀{v:Value}{an:List An}{r:α ⊕ Halt}{m:Mode}{a:Addr}{l:List Did},runA P s (.v v::an)=some (r,.rd m a v::l)->∀{w:World}{es:Array Event},(∀at_,∃x,w.farLoad P a at_=.error x/\NiceH x)->w.cell? a=none->∃x es',s.runT P w es=(.halt x w,es')/\NiceH x:=by
 induction s with
 |program k ih=>intro v an r m a l h w es hn hc;simp only[runA]at h;simp only[Sem.runT];exact ih _ h hn hc
 |load m0 a0 k ih=>
  intro v an r m a l h w es hn hc;simp only[runA]at h;obtain⟨l',h1,h2⟩:=ag0 h;simp only[List.cons.injEq,Did.rd.injEq]at h2;obtain⟨⟨h3,h4,_⟩,_⟩:=h2;subst h3 h4;obtain⟨x,hx,hN⟩:=hn (m== .atomic);refine⟨x,es,?_,hN⟩;simp only[Sem.runT,hc,hx]
 |pure a0=>intro v an r m a l h;simp only[runA]at h;cases h
 |halt x=>intro v an r m a l h;simp only[runA]at h;cases h
 |store m0 a0 v0 k ih=>intro v an r m a l h;simp only[runA]at h;obtain⟨l',_,h2⟩:=ag0 h;simp at h2
 |mark m0 k ih=>intro v an r m a l h;simp only[runA]at h;obtain⟨l',_,h2⟩:=ag0 h;simp at h2
 |setObj r0 o k ih=>intro v an r m a l h;simp only[runA]at h;obtain⟨l',_,h2⟩:=ag0 h;simp at h2
 |_=>intro v an r m a l h;simp only[runA]at h;cases h
theorem by6{p P:Program}{f:FuncId}{Q:Value->World->Prop}{fr:Frame}{zs:List Frame}{o:Oper}{v:Value}{an:List An}{r:Next ⊕ Halt}{m:Mode}{ad:Addr}{l:List Did}{L:World}(hx:AtOp fr o)(hd:fr.defers=[])(hr:runA p (execOp fr.eval o) (.v v::an)=some (r,.rd m ad v::l))
  (hw:@WR noLoops _ L L) (hz:∀z∈zs,z.defers=[]/\(z.mode=.run\/z.mode=.returning)) (ht:Tree p (AtRet p f Q) (G fr (zs++[dmF p])) L):∃v1,L.cell? ad=some v1:=by
 cases hc:L.cell? ad with
 |some v1=>exact⟨v1,rfl⟩
 |none=>
  exfalso;obtain⟨g',L',es,e,ht',_⟩:=ht.goes (au4 hx.mode) L.drawn;have hearly:(fr.kind==CallKind.early)=false:=by rw[hx.kind];rfl
  obtain⟨x,es',hh,hN⟩:=bO0 hr (w:=L.at L.drawn) (es:=#[]) (λb=>a69 (C:=L) hw p ad b) hc;rw[hx.step]at e;unfold stepG.apply at e;simp only[hh,xj,hearly,lH,xn]at e;cases hN with
  |panic v=>
   simp only[ac8,GStep.go.injEq]at e;refine aQ2 (P:=P) ht' ?_;rw[<-e.1];have:fr.raise [{v,recovered:=false}]={fr with mode:= .panicking [{v,recovered:=false}]}:=by
    unfold Frame.raise;rw[hx.mode]
   rw[this];exact .fr rfl hd hz
  |uns u hu=>cases u<;>first|(simp[GStep.after]at e;done)|exact absurd rfl (hu _)
  |stuck s=>simp[GStep.after]at e
section
variable {a:Ar}{x:Frame}{xs:List Frame}{Shun:Loc->Prop}{N:Nat}{B0:Nat}{Post:Value->World->Prop}{f:FuncId}{Q:Value->World->Prop}
theorem WW.know{E:Env}{T:Nat->Trace->Prop}{st:Ph->Int}{R:Ph->Prop}{nx dn:Nat}{L:World}{b:Goroutine}(h:WR L L->WW E B0 T st R nx dn b L Post):WW E B0 T st R nx dn b L Post:=
 λph d a gs C sl t q hinv hr=>h hinv.wr.self ph d a gs C sl t q hinv hr
theorem fn70:∃fn,twp.funcs[64]?=some fn:=Option.isSome_iff_exists.1 (by kernel_rfl)
theorem bQ6(args:Array Value):@FrOK jobOK twp Tryz.prog (Frame.enter twp 64 args .normal):=by
 obtain⟨fn,h⟩:=fn70;exact @aM8 jobOK _ twp Tryz.prog a57 64 (by show jobF 64=true;kernel_rfl) fn h args
def bS8(a:Ar)(v:Value):Array Value:=#[a.v0,.int .i64 a.i1,.int .i64 a.i2,v,.int .i64 a.i4]
theorem bX5{k p1 v1 p2 r:Value}{D:List Nat}{y:Nat->Value}(h:OKy (fv a k p1 v1 p2 none) D y):OKy (fv a k p1 v1 p2 (some r)) (10::D) (updF y 23 r):=by
 intro j hj u hu;unfold updF;by_cases hj10:j=10
 ·subst hj10;rw[ll rfl];exact sj hu
 ·rw[lu (by omega)];refine h j ((xe.1 hj).resolve_left hj10) u ?_;rw[<-hu];unfold fv;split<;>first|rfl|exact absurd rfl hj10
theorem b88(hE:EOK (env a x xs Shun N) B0)(hG:GB twp B0)(hcs:CsOK x xs){ad:Addr}(hb3:a.b3=some ad){k:Nat}(hk:k<a.n3)(h8:a.n3<=8){v1 x33 x34 x35:Value}{nx:Nat}{L:World}(hvis:L.cell? (ad.add (k*1))=some v1)
  (K:∀r L',Tree twp (AtRet twp f Q) (G (a.TO (.int .i64 k) (p1 a ad k) v1 r x34 (p2 a k) []) (csT x xs)) L'->Later twp (G (Frame.enter twp 64 (bS8 a v1) .normal) (a.TO (.int .i64 k) (p1 a ad k) v1 x33 x34 x35 [2,3,4]::csT x xs)) L (G (a.TO (.int .i64 k) (p1 a ad k) v1 r x34 (p2 a k) []) (csT x xs)) L'->∀y,TW a x xs Shun N B0 Post R1 nx (G (a.WO (.int .i64 k) y []) [gx]) L')
  (ht:Tree twp (AtRet twp f Q) (G (Frame.enter twp 64 (bS8 a v1) .normal) (a.TO (.int .i64 k) (p1 a ad k) v1 x33 x34 x35 [2,3,4]::csT x xs)) L):
  ∀(l D:List Nat)(y:Nat->Value),Sch opsW D l->10 ∉ D->12 ∉ D->OKy (fv a (.int .i64 k) (p1 a ad k) v1 (p2 a k) none) D y->TW a x xs Shun N B0 Post R1 nx (G (a.WO (.int .i64 k) y l) [gx]) L:=by
 intro l;induction l with
 |nil=>
  intro D y hs h10 _ _;cases hs with
  |nil h=>exact absurd (h 10 (by rw[bJ3];omega)) h10
 |cons i l ih=>
  intro D y hs h10 h12 hy;cases hs with
  |cons hi hn hd hk'=>
   rw[bJ3]at hi;by_cases h9:i<10
   ·refine WW.facts (E:=env a x xs Shun N) λhl=>?_
    refine b67 hE hb3 hk h8 (v1:=v1) (r:=none) hl h9 (λ_=>hvis) hd hy λy' hy'=>?_
    exact ih (i::D) y' hk' (by simp;exact⟨by omega,h10⟩) (by simp;exact⟨by omega,h12⟩) hy'
   ·have hc:i=10\/i=11\/i=12:=by omega
    rcases hc with rfl|rfl|rfl
    ·have h2:y 15=a.v0:=hy 2 (ai3 hd (by kernel_rfl)) _ rfl;have h3:y 16=.int .i64 a.i1:=hy 3 (ai3 hd (by kernel_rfl)) _ rfl;have h4:y 17=.int .i64 a.i2:=hy 4 (ai3 hd (by kernel_rfl)) _ rfl;have h8d:8∈D:=ai3 hd (by kernel_rfl);have h88:y 21=v1:=hy 8 h8d _ rfl;have h99:y 22=.int .i64 a.i4:=hy 9 (ai3 hd (by kernel_rfl)) _ rfl;have hop:=cp4 a (.int .i64 k) v1 y l;rw[ag2 h2,ag2 h3,ag2 h4,ag2 h88,ag2 h99]at hop;refine WW.op (E:=env a x xs Shun N) hE rp1 (s:=(a.WO (.int .i64 k) y (10::l),[gx])) hop (aX0 _) ?_;have hjob:=WW.job (inst:=noLoops) (E:=env a x xs Shun N) (B0:=B0) (st:=Ph.st) (R:=R1) (nx:=nx) (dn:=0) (Post:=Post) hE rp1 ⟨jobOK⟩ a57 bP0 b68 hG cf5 (f:=f) (Q:=Q) (c:=a.TO (.int .i64 k) (p1 a ad k) v1 x33 x34 x35 [2,3,4]) (csT:=csT x xs) (y:=a.WO (.int .i64 k) y (10::l)) (csP:=[gx]) (zs:=a.TO (.int .i64 k) (p1 a ad k) v1 x33 x34 x35 [2,3,4]::x::xs) (by simp[csT]) rfl (λz hz=>by
      rcases xe.1 hz with rfl|hz
      ·exact⟨rfl,.inl rfl⟩
      ·exact hcs z hz) ht (Frame.enter twp 64 (bS8 a v1) .normal) [] rfl (bQ6 _) (by simp) ?_
     ·rw[<-ch4];exact hjob
     ·intro r L' ht' hl';rw[ret_T]at ht' hl';rw[fin10];have hiy:=iy_T a k hk h8 (csT x xs) (p1 a ad k) v1 r x34 x35;obtain⟨ht2,hl2⟩:=ad6 1 hiy (L:=L') trivial ht';exact b87 hE hG hcs hb3 hk h8 (λL2 ht3 hl3 y'=>K r L2 ht3 (hl'.trans (hl2.trans hl3)) y') ht2 l (10::D) _ hk' (by simp) (by simp[h8d]) (bX5 hy) (by simp[h12])
    ·have h0:y 13=a.V:=hy 0 (ai3 hd (by kernel_rfl)) _ rfl;have h1:y 14=.int .i64 k:=hy 1 (ai3 hd (by kernel_rfl)) _ rfl;have hop:=b52 a k hk h8 y l;rw[ag2 h0,ag2 h1]at hop;refine WW.op (E:=env a x xs Shun N) hE rp1 (s:=(a.WO (.int .i64 k) y (11::l),[gx])) hop (aX0 _) ?_;exact ih (11::D) _ hk' (by simp[h10]) (by simp[h12]) (hy.set (i:=11) λu h=>(sj h).symm)
    ·exact absurd (ai3 hd (by kernel_rfl)) h10
end
end Hid
namespace Hid
open Go Go.Proofs Go.RowKit Go.Conc Ar
variable [Junk]
def oIx:Oper:=bL6.getD 0 default
def oLd:Oper:=bL6.getD 1 default
theorem ix_op(a:Ar)(hb:a.b3=none)(k x26 x31 x33 x34 x35:Value):execOp (a.TO k x26 x31 x33 x34 x35 [0,1,2,3,4]).eval oIx=(Instr.indexAt 48 (.slice none a.n3 a.c3) k).bind λv=>Sem.pure (Next.value v):=by
 obtain⟨b0,n0,c0,i1,i2,b3,n3,c3,i4,m,w,rest⟩:=a;simp only at hb
 subst hb;kernel_rfl
theorem und46:twp.underlying 48=some (.slice 3):=by kernel_rfl
theorem cf7(a:Ar)(hb:a.b3=none)(k:Nat)(x26 x31 x33 x34 x35:Value)(w:World):∃v w' es,(execOp (a.TO (.int .i64 k) x26 x31 x33 x34 x35 [0,1,2,3,4]).eval oIx).runT twp w #[]=(.halt (.panic v) w',es):=by
 have h1:∃v w',(Instr.indexAt 48 (.slice none a.n3 a.c3) (.int .i64 k)).run twp w=.halt (.panic v) w':=by
  obtain⟨s,w',h⟩:=run_boundsPanic (P:=twp) (w:=w) (α:=Value) .i64 k 0 .index;exact⟨_,w',(Go.Lib.run_indexAt_nil w 48 3 a.n3 a.c3 .i64 k und46).trans h⟩
 obtain⟨v,w',h⟩:=h1;rw[ix_op a hb,Sem.runT_bind'];rw[<-Sem.runT_fst twp _ w #[]]at h;cases hr:(Instr.indexAt 48 (.slice none a.n3 a.c3) (.int .i64 k)).runT twp w #[]with
 |mk r es=>
  rw[hr]at h;simp only at h
  subst h;exact⟨v,w',es,rfl⟩
theorem bk4{p P:Program}{f:FuncId}{Q:Value->World->Prop}{fr:Frame}{o:Oper}{zs:List Frame}{L:World}(hx:AtOp fr o)(hd:fr.defers=[])(hr:∀w,∃v w' es,(execOp fr.eval o).runT p w #[]=(.halt (.panic v) w',es))(hz:∀z∈zs,z.defers=[]/\(z.mode=.run\/z.mode=.returning))
  (ht:Tree p (AtRet p f Q) (G fr (zs++[dmF p])) L):False:=by
 obtain⟨g',L',es,e,ht',_⟩:=ht.goes (au4 hx.mode) L.drawn;have hearly:(fr.kind==CallKind.early)=false:=by rw[hx.kind];rfl
 obtain⟨v,w',es',hs⟩:=hr (L.at L.drawn);rw[hx.step]at e;unfold stepG.apply at e;simp only[hs,ar1,xj,hearly,lH,xn,ac8,GStep.go.injEq]at e;refine aQ2 (P:=P) ht' ?_;rw[<-e.1];have:fr.raise [{v,recovered:=false}]={fr with mode:= .panicking [{v,recovered:=false}]}:=by
  unfold Frame.raise;rw[hx.mode]
 rw[this];exact .fr rfl hd hz
theorem ld_A(a:Ar)(k x31 x33 x34 x35 v:Value)(ad:Addr):runA twp (execOp (a.TO k (.pointer (some ad)) x31 x33 x34 x35 [1,2,3,4]).eval oLd) [.v v]=some (.inl (.value v),[.rd .plain ad v]):=by kernel_rfl
theorem g_ix:oIx.guard=none:=by kernel_rfl
theorem g_ld:oLd.guard=none:=by kernel_rfl
section
variable {a:Ar}{x:Frame}{xs:List Frame}{Shun:Loc->Prop}{N:Nat}{B0:Nat}{Post:Value->World->Prop}{f:FuncId}{Q:Value->World->Prop}
theorem b86(hE:EOK (env a x xs Shun N) B0)(hG:GB twp B0)(hcs:CsOK x xs)(h8:a.n3<=8){g0:Goroutine}{L0:World}
  (HPX:∀x26 x30 x31 x33 x34 x35 L,Tree twp (AtRet twp f Q) (G (a.TB a.n3 x26 x30 x31 x33 x34 x35) (csT x xs)) L->Later twp g0 L0 (G (a.TB a.n3 x26 x30 x31 x33 x34 x35) (csT x xs)) L->PXL a x xs Shun N B0 Post L):
  ∀(j k:Nat),k+j=a.n3->∀(x26 x30 x31 x33 x34 x35:Value)(L:World),Tree twp (AtRet twp f Q) (G (a.TB k x26 x30 x31 x33 x34 x35) (csT x xs)) L->Later twp g0 L0 (G (a.TB k x26 x30 x31 x33 x34 x35) (csT x xs)) L->
   ∀(x8 x10 x11 x12:Value)(y:Nat->Value),TW a x xs Shun N B0 Post R1 k (G (a.WRc x8 x10 x11 x12 y) [gx]) L:=by
 intro j;induction j with
 |zero=>
  intro k hk x26 x30 x31 x33 x34 x35 L ht hl x8 x10 x11 x12 y;obtain rfl:k=a.n3:=by omega
  refine WW.recv (E:=env a x xs Shun N) hE (al2 hE.ap) (s:=(a.WRc x8 x10 x11 x12 y,[gx])) (z:=z0) (λC _ _=>ai0 (b47 a x8 x10 x11 x12 y) (w:=C) trivial) (λh=>absurd h (xt _)) λ_=>?_
  rw[cs5];refine WW.run (E:=env a x xs Shun N) hE rp2 5 (s:=(a.WR1 x8 (.tuple #[z0,.bool false]) x11 x12 y,[gx])) (cn6 a x8 x11 x12 y) trivial ?_;exact ck0 hE (HPX _ _ _ _ _ _ L ht hl) x8 x12 y
 |succ j ih=>
  intro k hk x26 x30 x31 x33 x34 x35 L ht hl x8 x10 x11 x12 y;have hk3:k<a.n3:=by omega
  have hrB:=b44 a (csT x xs) (k:Int) x26 x30 x31 x33 x34 x35;rw[lg (show(k:Int)<(a.n3:Int)by omega)]at hrB;obtain⟨ht1,hl1⟩:=ad6 3 hrB (L:=L) trivial ht;obtain⟨ht2,hl2⟩:=ad6 6 (cn7 a (csT x xs) (k:Int) x26 x31 x33 x34 x35) (L:=L) trivial ht1;refine WW.recv (E:=env a x xs Shun N) hE (al2 hE.ap) (s:=(a.WRc x8 x10 x11 x12 y,[gx])) (z:=z0) (λC _ _=>ai0 (b47 a x8 x10 x11 x12 y) (w:=C) trivial) (λ_=>?_) (λh=>absurd h (Nat.ne_of_lt hk3));rw[cs5];refine WW.run (E:=env a x xs Shun N) hE rp1 11 (s:=(a.WR1 x8 (.tuple #[.int .i64 k,.bool true]) x11 x12 y,[gx])) (cn9 a k x8 x11 x12 y) trivial ?_;refine WW.draw (E:=env a x xs Shun N) hE (al2 hE.ap) rp1 (fr:=a.WJ (.int .i64 k) y) (id:=4) (ops:=opsW) (k:= .inBlock 1::itW) rfl (congrArg (λc=>Item.code c:: .inBlock 1::itW) b89) λn=>?_
  have hsch:=cm9 acycW b10 ((env a x xs Shun N).P.follows .mixedOrders) n;cases hb3:a.b3 with
  |none=>
   exfalso;exact bk4 (P:=Tryz.prog) (zs:=x::xs) (b96 _ _ _ _ _ _ _ _ oIx (by kernel_rfl) g_ix) rfl (λw=>cf7 a hb3 k x26 x31 x33 x34 x35 w) hcs ht2
  |some ad=>
   obtain⟨ht3,hl3⟩:=ad6 1 (ix_T a ad hb3 k hk3 h8 (csT x xs) x26 x31 x33 x34 x35) (L:=L) trivial ht2;refine WW.know (E:=env a x xs Shun N) λhn=>?_
   obtain⟨v1,hv1⟩:=by6 (P:=Tryz.prog) (zs:=x::xs) (b96 _ _ _ _ _ _ _ _ oLd (by kernel_rfl) g_ld) rfl (ld_A a (.int .i64 k) x31 x33 x34 x35 undef (ad.add (k*1))) hn hcs ht3;obtain⟨ht4,hl4⟩:=ad6 1 (ld_T a (csT x xs) (.int .i64 k) x31 x33 x34 x35 v1 (ad.add (k*1))) (L:=L) ⟨⟨hv1,trivial⟩,trivial⟩ ht3;obtain⟨ht5,hl5⟩:=ad6 1 (ct6 a (csT x xs) (.int .i64 k) (p1 a ad k) v1 x33 x34 x35) (L:=L) trivial ht4;refine b88 hE hG hcs hb3 hk3 h8 hv1 (λr L' ht6 hl6 y'=>?_) ht5 _ [] y hsch (by simp) (by simp) (λi hi=>by cases hi);have hrD:=cn5 a (csT x xs) (k:Int) (p1 a ad k) v1 r x34 (p2 a k);rw[b26 (by omega)]at hrD;obtain⟨ht7,hl7⟩:=ad6 6 hrD (L:=L') trivial ht6;refine WW.run (E:=env a x xs Shun N) hE rp1 5 (s:=(a.WO (.int .i64 k) y' [],[gx])) (cp3 a (.int .i64 k) y') trivial ?_;exact ih (k+1) (by omega) _ _ _ _ _ _ L' ht7 (hl.trans (hl1.trans (hl2.trans (hl3.trans (hl4.trans (hl5.trans (hl6.trans hl7))))))) _ _ _ _ _
end
end Hid
namespace Hid
open Go Go.Proofs Go.RowKit Go.Conc Ar
variable [Junk]
section
variable {a:Ar}{x:Frame}{xs:List Frame}{Shun:Loc->Prop}{N:Nat}{B0:Nat}{Post:Value->World->Prop}{f:FuncId}{Q:Value->World->Prop}
theorem cl2{A:Area}{B d:Nat}(hA:Apart A){es:Array Event}(he:∀e∈es,Ev0 A B e)(t:Trace)(fn:FuncId)(pos:String)(h:T0 A B d t):T0 A B (deafBehind d es) (t++MemOp.ofEvents 0 fn pos es):=by
 obtain⟨⟨r,h⟩,hd⟩:=h;exact⟨⟨r,h.app0 hA (lh _) ae0 (at0 he).1 (at0 he).2⟩,by rw[Deaf_own,hd]⟩
theorem sn_en:seen Tryz.prog 65 (esOf [.mk (.extern 72),.mk .enable]).toArray = #[mkE .enable]:=by kernel_rfl
theorem sn_sh(a:Ar):seen Tryz.prog 65 (esOf a.dShW).toArray = #[]:=by kernel_rfl
theorem sn_ac(a:Ar):seen Tryz.prog 65 (esOf [.mk (.extern 84),.mk (.acquire ⟨a.m+9,0,none⟩)]).toArray = #[mkE (.acquire ⟨a.m+9,0,none⟩)]:=by kernel_rfl
theorem sn_rd(a:Ar):seen Tryz.prog 48 (esOf [.rd .plain ⟨a.m+6,0,none⟩ a.V]).toArray = #[⟨.cell ⟨a.m+6,0,none⟩,false,false⟩]:=by kernel_rfl
theorem sn_87(a:Ar):seen Tryz.prog 79 (esOf [.mk (.extern 109),a.rdW 0]).toArray = #[rdE (a.m+9) 0]:=by kernel_rfl
theorem ci2:deafBehind 1 #[mkE .enable]=0:=by rfl
theorem ci1(a:Ar):deafBehind 1 #[rdE (a.m+9) 0]=1:=by rfl
theorem bj6{C:World}(hE:EOK (env a x xs Shun N) B0)(hS:∀l,Shun l->∃ad,l=.cell ad/\ad.block<a.m)(hb:FB (bxOf a) C)(hw:WgS (a.m+9) 125 C 0 0){B:Nat}(hB:a.m+10<=B){K:World->(Trace->Prop)->Prop}(hK:∀d,K (C.at d) (Past (env a x xs Shun N).A.bJ4 B)):
  aT6 Tryz.prog a.endL (T0 (env a x xs Shun N).A B 1) C K:=by
 refine⟨λd=>⟨trivial,trivial,trivial⟩,T0 (env a x xs Shun N).A B 0,aC5,λt fn pos ht=>?_,λd=>?_⟩
 ·rw[sn_en];have:=cl2 (d:=1) hE.ap (es:=#[mkE .enable]) (λe he=>by simp at he;subst he;exact bv9 rfl (by simp) trivial) t fn pos ht
  rw[ci2]at this;exact this
 refine⟨λd=>?_,T0 (env a x xs Shun N).A B 0,aC5,λt fn pos ht=>?_,λd=>?_⟩
 ·have:=(af4 hw).2.2.1
  exact⟨this,this,trivial⟩
 ·rw[sn_sh,ofEvents_none];simpa using ht
 refine⟨λd=>⟨trivial,trivial,trivial⟩,Past (env a x xs Shun N).A.bJ4 B,ad3,λt fn pos ht=>?_,λd=>?_⟩
 ·rw[sn_ac];obtain⟨⟨r,ht⟩,hd⟩:=ht;have:=ht.acquire (show a.m+9<B by omega) hd fn pos
  rw[ofEvents_eq];simp only[List.map_toArray,xQ,List.map_nil];exact this
 refine⟨λd=>⟨cell_of (T:=87) (hb (a.m+6) _ (by simp[bxOf])),trivial⟩,Past (env a x xs Shun N).A.bJ4 B,ad3,λt fn pos ht=>?_,λd=>hK _⟩
 ·rw[sn_rd];refine ht.own λe he=>?_
  simp at he;subst he;refine evL_cell _ _ (λhs=>?_) (show a.m+6<B by omega);rcases hs with hs|⟨ad,e,hs⟩
  ·obtain⟨ad,e,hlt⟩:=hS _ hs;cases e;simp at hlt;omega
  ·cases e;have hs:a.m+6=a.m+9:=hs;omega
theorem pxl(hE:EOK (env a x xs Shun N) B0)(hS:∀l,Shun l->∃ad,l=.cell ad/\ad.block<a.m)(hx:@FrOK noLoops twp Tryz.prog x)(hxs:∀z∈xs,@FrOK noLoops twp Tryz.prog z){L:World}(hcl:@Claim noLoops _ twp Tryz.prog B0 Post (G (x.finish a.V) (xs++[dmF twp])) L):PXL a x xs Shun N B0 Post L:=by
 intro f d s hpx gs C sl t q h;obtain⟨rfl,n,ans,ls,hr,hls⟩:=hpx;have hlow:a.m+10<=L.heap.size:=h.low;have hsz:C.heap.size=L.heap.size:=h.wr.size;have hB0:B0<=a.m+9:=hE.w0;have fin:∀(C':World),(∃d,C'=C.at d)->∀d gs' sl' t' q',gs'.size=gs.size->gs'[0]?=some (G (x.finish a.V) xs)->Leavers Tryz.prog t' gs' q'->Past (env a x xs Shun N).A.bJ4 C.heap.size t'->Wins Tryz.prog Post (crowd gs' (C'.at d) sl') t':=by
  rintro C' ⟨d0,rfl⟩ d gs' sl' t' q' _ g0 hl hp;refine hcl (x.finish a.V) xs rfl (au9 hx _) hxs _ _ gs' _ sl' t' q' ⟨hl,hp,⟨h.wr.os,h.wr.out,h.wr.size,h.wr.blk,h.wr.nv,h.wr.np,h.wr.lp⟩,by omega,λl hl=>?_,h.tape,h.old,by omega⟩ g0;rcases hl with hl|⟨ad,rfl,hl⟩
  ·exact h.shun l hl
  ·obtain⟨T,fz,hh⟩:=h.hidw;exact⟨ad,T,fz,rfl,by rw[hl];exact hh⟩
 refine a16 n hr (N:=gs.size) (T:=T0 (env a x xs Shun N).A C.heap.size 1) aC5 rfl h.g0 h.lv ⟨h.tr,h.d0⟩ λd=>?_
 rcases hls with rfl|rfl
 ·exact bj6 (C:=C.at d) hE hS h.bx h.wg (by omega) λd2=>fin _ ⟨d2,rfl⟩
 ·refine⟨λe=>⟨trivial,(af4 h.wg).1,trivial⟩,T0 (env a x xs Shun N).A C.heap.size 1,aC5,λt fn pos ht=>?_,λe=>?_⟩
  ·rw[sn_87];have:=cl2 (d:=1) hE.ap (es:=#[rdE (a.m+9) 0]) (λe he=>by simp at he;subst he;exact aS4 (show a.m+9<C.heap.size by omega) 0 false) t fn pos ht
   rw[ci1]at this;exact this
  ·exact bj6 (C:=C.at e) hE hS h.bx h.wg (by omega) λd2=>fin _ ⟨d2,rfl⟩
end
end Hid
namespace Hid
open Go Go.Proofs Go.RowKit Go.Conc Ar
variable [Junk]
structure Gr(w0:World)(os:List Obj)(w:World):Prop where
 heap:w.heap=w0.heap++os.toArray
 sys:w.os=w0.os
 out:w.output=w0.output
 tape:w.tape=w0.tape
section
variable {w0 w:World}{os:List Obj}
theorem Gr.self(w0:World):Gr w0 [] w0:=⟨by simp,rfl,rfl,rfl⟩
theorem Gr.size(h:Gr w0 os w):w.heap.size=w0.heap.size+os.length:=by rw[h.heap];simp
theorem Gr.get(h:Gr w0 os w)(i:Nat):w.heap[w0.heap.size+i]?=os[i]?:=by
 rw[h.heap,xr (by omega)];simp
theorem Gr.old(h:Gr w0 os w){b:Nat}(hb:b<w0.heap.size):w.heap[b]?=w0.heap[b]?:=by rw[h.heap,xk hb]
theorem Gr.push(h:Gr w0 os w)(o:Obj):Gr w0 (os++[o]) {w with heap:=w.heap.push o}:=⟨by simp[h.heap],h.sys,h.out,h.tape⟩
theorem Gr.at(h:Gr w0 os w)(d:Nat):Gr w0 os (w.at d):=⟨h.heap,h.sys,h.out,h.tape⟩
theorem Gr.set(h:Gr w0 os w){i off:Nat}{v:Value}{c:Array Value}{T:TypeId}{fz:Nat×Nat}(hi:os[i]?=some (.cells c T fz)):Gr w0 (os.set i (.cells (c.setIfInBounds off v) T fz)) (w.setCell ⟨w0.heap.size+i,off,none⟩ v):=by
 refine⟨?_,h.sys,h.out,h.tape⟩;have hsz:(w.setCell ⟨w0.heap.size+i,off,none⟩ v).heap.size=w.heap.size:=by simp[World.setCell]
 refine Array.ext_getElem? λb=>?_
 rw[heap_set];by_cases hb:b=w0.heap.size+i
 ·subst hb;rw[ll rfl,h.get,hi,xr (by omega)];have hlt:i<os.length:=(lT.1 hi).1;simp[hlt]
 ·rw[lu hb,h.heap];by_cases hlt:b<w0.heap.size
  ·rw[xk hlt,xk hlt]
  ·rw[xr (by omega),xr (by omega)];simp;rw[List.getElem?_set_ne (by omega)]
theorem Gr.cell(h:Gr w0 os w){i off:Nat}{c:Array Value}{T:TypeId}{fz:Nat×Nat}{v:Value}(hi:os[i]?=some (.cells c T fz))(hc:c[off]?=some v):w.cell? ⟨w0.heap.size+i,off,none⟩=some v:=by
 have:=h.get i
 rw[hi]at this;simp[World.cell?,this,hc]
theorem Gr.frozen(h:Gr w0 os w){i off:Nat}{c:Array Value}{T:TypeId}(hi:os[i]?=some (.cells c T (0,0))):w.frozen? ⟨w0.heap.size+i,off,none⟩=false:=by
 have:=h.get i
 rw[hi]at this;simp[World.frozen?,this]
variable [LoopOK] {P:Program}{K:World->(Trace->Prop)->Prop}{r:List (FuncId×List Did)}{f:FuncId}
theorem aV7{T:Trace->Prop}(hT:bj9 T)(h:Gr w0 os w){o:Obj}{n:Nat}(hn:n=w0.heap.size+os.length)(k:∀w',Gr w0 (os++[o]) w'->aT6 P r T w' K):aT6 P ((f,[.nw o n])::r) T w K:=
 ⟨λd=>⟨(h.at d).size.trans hn.symm,trivial⟩,T,hT,λt fn pos ht=>by rw[show seen P f (esOf [.nw o n]).toArray = #[]from rfl,ofEvents_none];simpa using ht,λd=>k _ ((h.at d).push o)⟩
theorem al_rd{Shun:Loc->Prop}{B:Nat}(h:Gr w0 os w){i off:Nat}{c:Array Value}{T:TypeId}{fz:Nat×Nat}{v:Value}(hi:os[i]?=some (.cells c T fz))(hc:c[off]?=some v)(hs:seen P f (esOf [.rd .plain ⟨w0.heap.size+i,off,none⟩ v]).toArray = #[⟨.cell ⟨w0.heap.size+i,off,none⟩,false,false⟩])
  (hS:¬ Shun (.cell ⟨w0.heap.size+i,off,none⟩)) (hB:w0.heap.size+i<B) (k:∀w',Gr w0 os w'->aT6 P r (Past Shun B) w' K):aT6 P ((f,[.rd .plain ⟨w0.heap.size+i,off,none⟩ v])::r) (Past Shun B) w K:=
 ⟨λd=>⟨(h.at d).cell hi hc,trivial⟩,Past Shun B,ad3,λt fn pos ht=>by rw[hs];exact ht.own λe he=>by simp at he;subst he;exact evL_cell _ _ hS hB,λd=>k _ (h.at d)⟩
theorem cu0{Shun:Loc->Prop}{B:Nat}(h:Gr w0 os w){i off:Nat}{c:Array Value}{T:TypeId}{v u:Value}(hi:os[i]?=some (.cells c T (0,0)))(hc:c[off]?=some u)(hv:(∀x,v≠.agg x)/\∀x,v≠.tuple x)(hs:seen P f (esOf [.wr .plain ⟨w0.heap.size+i,off,none⟩ v]).toArray = #[⟨.cell ⟨w0.heap.size+i,off,none⟩,true,false⟩])
  (hS:¬ Shun (.cell ⟨w0.heap.size+i,off,none⟩)) (hB:w0.heap.size+i<B) (k:∀w',Gr w0 (os.set i (.cells (c.setIfInBounds off v) T (0,0))) w'->aT6 P r (Past Shun B) w' K):aT6 P ((f,[.wr .plain ⟨w0.heap.size+i,off,none⟩ v])::r) (Past Shun B) w K:=
 ⟨λd=>⟨⟨⟨_,(h.at d).cell hi hc⟩,(h.at d).frozen hi,hv.1,hv.2⟩,trivial⟩,Past Shun B,ad3,λt fn pos ht=>by rw[hs];exact ht.own λe he=>by simp at he;subst he;exact evL_cell _ _ hS hB,λd=>k _ ((h.at d).set hi)⟩
end
def nwL(f:FuncId):Nat->List Obj->List (FuncId×List Did)
 |_,[]=>[]
 |r,o::l=>(f,[.nw o r])::nwL f (r+1) l
theorem bv7{w0:World}{f:FuncId}:∀(l os:List Obj)(w:World)(r:Nat),Gr w0 os w->r=w0.heap.size+os.length->b23 (nwL f r l) w/\Gr w0 (os++l) (wL (nwL f r l) w)
 | [],os,w,r,h,_=>⟨trivial,by simpa[nwL,wL]using h⟩
 |o::l,os,w,r,h,hr=>by
  obtain⟨h1,h2⟩:=bv7 (f:=f) l (os++[o]) _ (r+1) (h.push o) (by simp;omega);refine⟨⟨⟨h.size.trans hr.symm,trivial⟩,h1⟩,?_⟩;rw[show os++o::l=os++[o]++l by simp];exact h2
theorem nt49:((Tryz.prog.funcs[48]?).map (·.ntmps)).getD 0=38:=by kernel_rfl
theorem nt49T:((twp.funcs[48]?).map (·.ntmps)).getD 0=38:=by kernel_rfl
theorem bd49(c:Code):((Tryz.prog.funcs[48]?).bind (·.body)).getD c=c49:=by kernel_rfl
theorem bd49T(c:Code):((twp.funcs[48]?).bind (·.body)).getD c=au0:=by kernel_rfl
theorem ch5(args:Array Value):∃l:List Value,38<=l.length/\Frame.enter Tryz.prog 48 args .normal=fr ⟨l⟩ [.code c49]/\Frame.enter twp 48 args .normal=fr ⟨l⟩ [.code au0]:=by
 refine⟨(args++Array.replicate (38-args.size) undef).toList,?_,?_,?_⟩
 ·simp;omega
 ·unfold Frame.enter fr;simp only[nt49,bd49]
 ·unfold Frame.enter fr;simp only[nt49T,bd49T]
theorem cb8(l:List Value)(h:38<=l.length):∃(w:Nat->Value)(rest:List Value),l=w 0::w 1::w 2::w 3::w 4::w 5::w 6::w 7::w 8::w 9::w 10::w 11::w 12::w 13::w 14::w 15::w 16::w 17::w 18::w 19::w 20::w 21::w 22::w 23::w 24::w 25::w 26::w 27::w 28::w 29::w 30::w 31::w 32::w 33::w 34::w 35::w 36::w 37::rest:=by
 refine⟨λi=>l.getD i undef,l.drop 38,?_⟩;have key:l=(List.range 38).map (λi=>l.getD i undef)++l.drop 38:=by
  refine List.ext_getElem? λi=>?_
  by_cases hi:i<38
  ·rw[xh (by simpa using hi),lW,uz hi,lw (by omega)];simp[la,lw (show i<l.length by omega)]
  ·rw[lR (by simp;omega),xx];simp;congr 1;omega
 exact key
end Hid
namespace Hid
open Go Go.Proofs Go.RowKit Go.Conc Ar
variable [Junk]
section
variable {a:Ar}{x:Frame}{xs:List Frame}{Shun:Loc->Prop}{N:Nat}{B0:Nat}{Post:Value->World->Prop}{f:FuncId}{Q:Value->World->Prop}
def osP(a:Ar)(st:Value):List Obj:=[.cells #[a.v0] 22 (0,0),.cells #[.int .i64 a.i1] 3 (0,0),.cells #[.int .i64 a.i2] 3 (0,0),.cells #[a.v3] 48 (0,0),.cells #[.int .i64 a.i4] 3 (0,0),.cells (Array.replicate a.n3 nul) 89 (0,0),.cells #[a.V] 87 (0,0),.chan 0 #[] false 0 0 false,.cells #[a.chV] 115 (0,0),.cells #[st,.int .u32 0] 125 (0,0)]
def osT(a:Ar):List Obj:=[.cells #[] 22 (0,0),.cells #[] 3 (0,0),.cells #[] 3 (0,0),.cells #[] 48 (0,0),.cells #[] 3 (0,0),.cells (Array.replicate a.n3 nul) 89 (0,0),.cells #[] 87 (0,0),.chan 0 #[] false 0 0 false,.cells #[] 115 (0,0),.cells #[] 125 (0,0)]
theorem b09(a:Ar):a.ch9=nwL 48 a.m (osT a):=rfl
theorem s49r(ad:Addr)(v:Value):seen Tryz.prog 48 (esOf [.rd .plain ad v]).toArray = #[⟨.cell ad,false,false⟩]:=by kernel_rfl
theorem s49w(ad:Addr)(v:Value):seen Tryz.prog 48 (esOf [.wr .plain ad v]).toArray = #[⟨.cell ad,true,false⟩]:=by kernel_rfl
theorem cj2{C:World}{B:Nat}(hm:a.m=C.heap.size)(hB:a.m+9<=B)(hS:∀l,Shun l->∃ad,l=.cell ad/\ad.block<a.m){K:World->(Trace->Prop)->Prop}(hK:∀C',Gr C (osP a (.int .u64 0)) C'->K C' (Past Shun B)):∀C0,Gr C [] C0->aT6 Tryz.prog a.ci0 (Past Shun B) C0 K:=by
 intro C0 h0;have hns:∀i off,¬ Shun (.cell ⟨C.heap.size+i,off,none⟩):=λi off hs=>by
  obtain⟨ad,e,hlt⟩:=hS _ hs;cases e;simp at hlt;omega
 unfold ci0;rw[hm];refine aV7 ad3 h0 (by simp) λC1 h1=>?_
 refine aV7 ad3 h1 (by simp) λC2 h2=>?_
 refine aV7 ad3 h2 (by simp) λC3 h3=>?_
 refine aV7 ad3 h3 (by simp) λC4 h4=>?_
 refine aV7 ad3 h4 (by simp) λC5 h5=>?_
 refine al_rd h5 (i:=3) (off:=0) rfl rfl (s49r _ _) (hns _ _) (by omega) λC6 h6=>?_
 refine aV7 ad3 h6 (by simp) λC7 h7=>?_
 refine aV7 ad3 h7 (by simp) λC8 h8=>?_
 refine cu0 h8 (i:=6) (off:=0) rfl rfl ⟨λ_ e=>(by cases e),λ_ e=>(by cases e)⟩ (s49w _ _) (hns _ _) (by omega) λC9 h9=>?_
 refine aV7 ad3 h9 (by simp) λC10 h10=>?_
 refine aV7 ad3 h10 (by simp) λC11 h11=>?_
 refine cu0 h11 (i:=8) (off:=0) rfl rfl ⟨λ_ e=>(by cases e),λ_ e=>(by cases e)⟩ (s49w _ _) (hns _ _) (by omega) λC12 h12=>?_
 refine aV7 ad3 h12 (by simp) λC13 h13=>?_
 refine hK C13 ?_;have e7:a.chV=.chan (some (C.heap.size+7)):=by unfold chV;rw[hm]
 unfold osP;rw[e7];exact h13
theorem sB1:seen Tryz.prog 61 (esOf [.mk (.extern 71),.mk .disable]).toArray = #[mkE .disable]:=by kernel_rfl
theorem sB2:seen Tryz.prog 61 (esOf [.mk (.extern 73)]).toArray = #[]:=by kernel_rfl
theorem sB3(a:Ar):seen Tryz.prog 77 (esOf [.mk (.extern 108),.rd .atomic ⟨a.m+9,0,none⟩ (.int .u64 0),.wr .atomic ⟨a.m+9,0,none⟩ KV]).toArray = #[rdE (a.m+9) 0,wrE (a.m+9) 0]:=by kernel_rfl
theorem sB4(a:Ar):seen Tryz.prog 61 (esOf a.dShW).toArray = #[]:=by kernel_rfl
theorem sB5(a:Ar):seen Tryz.prog 61 (esOf [.mk (.extern 78),.mk (.read ⟨a.m+9,1,none⟩)]).toArray = #[mkE (.read ⟨a.m+9,1,none⟩)]:=by kernel_rfl
theorem sB6:seen Tryz.prog 61 (esOf [.mk (.extern 72),.mk .enable]).toArray = #[mkE .enable]:=by kernel_rfl
theorem bX3{A:Area}{B d:Nat}{es:Array Event}(he:∀e∈es,A.okp B (.ofEvent e))(t:Trace)(fn:FuncId)(pos:String)(h:P0 A B d t):P0 A B (deafBehind d es) (t++MemOp.ofEvents 0 fn pos es):=
 h.app (lh _) ae0 (λop hop=>by obtain⟨e,hm,rfl⟩:=lJ hop;exact he e hm) (by rw[Deaf_own,h.deaf])
theorem b54{A:Area}{B:Nat}(hl:A.Wg<B)(i:Nat)(wr:Bool):A.okp B (.ofEvent ⟨.cell ⟨A.Wg,i,none⟩,wr,true⟩):=by
 have e:MemAct.ofEvent ⟨.cell ⟨A.Wg,i,none⟩,wr,true⟩=.access ⟨.cell ⟨A.Wg,i,none⟩,wr,true⟩:=by cases wr<;>rfl
 rw[e];refine⟨λb hb _=>?_,by simp,hl⟩;simp only[MemAct.touch?,sk]at hb;subst hb;simp
theorem b53{A:Area}{B:Nat}{m:Mark}(h:(MemAct.mark m).touch?=none)(hr:∀x,m≠.release x)(hl:(MemAct.mark m).low B):A.okp B (.ofEvent (mkE m)):=
 ⟨λb hb=>(by rw[show MemAct.ofEvent (mkE m)=.mark m from rfl,h]at hb;cases hb),λe=>hr _ (MemAct.mark.inj e),hl⟩
theorem b91{C C':World}{st:Int}(hm:a.m=C.heap.size)(h:Gr C (osP a (.int .u64 st)) C'):WgS (a.m+9) 125 C' st 0:=by
 unfold WgS;rw[hm,h.get];rfl
theorem cj1{C:World}{A:Area}{B:Nat}(hm:a.m=C.heap.size)(hW:A.Wg=a.m+9)(hB:a.m+10<=B){K:World->(Trace->Prop)->Prop}(hK:∀C',Gr C (osP a KV) C'->K C' (P0 A B 0)):∀C0,Gr C (osP a (.int .u64 0)) C0->aT6 Tryz.prog a.ct3 (P0 A B 0) C0 K:=by
 intro C0 h0;have hw0:=λd=>af4 (b91 hm (h0.at d))
 refine⟨λd=>⟨trivial,trivial,trivial⟩,P0 A B 1,an8,λt fn pos ht=>?_,λd1=>?_⟩
 ·rw[sB1];exact bX3 (d:=0) (es:=#[mkE .disable]) (λe he=>by simp at he;subst he;exact b53 rfl (by simp) trivial) t fn pos ht
 refine⟨λd=>⟨trivial,trivial⟩,P0 A B 1,an8,λt fn pos ht=>?_,λd2=>?_⟩
 ·rw[sB2,ofEvents_none];simpa using ht
 refine⟨λd=>⟨trivial,(hw0 d).1,⟨⟨_,(hw0 d).1⟩,(hw0 d).2.2.2 0,λ_ e=>(by cases e),λ_ e=>(by cases e)⟩,trivial⟩,P0 A B 1,an8,λt fn pos ht=>?_,λd3=>?_⟩
 ·rw[sB3];exact bX3 (d:=1) (es:=#[rdE (a.m+9) 0,wrE (a.m+9) 0]) (λe he=>by
   simp at he;rcases he with rfl|rfl
   ·have:=b54 (A:=A) (B:=B) (by omega) 0 false
    rw[hW]at this;exact this
   ·have:=b54 (A:=A) (B:=B) (by omega) 0 true
    rw[hW]at this;exact this) t fn pos ht
 have h1':∀d,Gr C (osP a KV) (((C0.at d).setCell ⟨a.m+9,0,none⟩ KV)):=λd=>by
  have:=(h0.at d).set (i:=9) (off:=0) (v:=KV) (c:=#[.int .u64 0,.int .u32 0]) (T:=125) (fz:=(0,0)) rfl
  rw[<-hm]at this;exact this
 refine⟨λd=>?_,P0 A B 1,an8,λt fn pos ht=>?_,λd4=>?_⟩
 ·have:=(af4 (b91 (st:=4294967296) hm ((h1' d3).at d))).2.2.1
  exact⟨this,this,trivial⟩
 ·rw[sB4,ofEvents_none];simpa using ht
 refine⟨λd=>⟨trivial,trivial,trivial⟩,P0 A B 1,an8,λt fn pos ht=>?_,λd5=>?_⟩
 ·rw[sB5];exact bX3 (d:=1) (es:=#[mkE (.read ⟨a.m+9,1,none⟩)]) (λe he=>by
   simp at he;subst he;refine⟨λb hb _=>?_,by simp[mkE,MemAct.ofEvent],show a.m+9<B by omega⟩;simp only[mkE,MemAct.ofEvent,MemAct.touch?,sk]at hb;subst hb;simp) t fn pos ht
 refine⟨λd=>⟨trivial,trivial,trivial⟩,P0 A B 0,an8,λt fn pos ht=>?_,λd6=>hK _ ((h1' d3).at d6)⟩;rw[sB6];exact bX3 (d:=1) (es:=#[mkE .enable]) (λe he=>by simp at he;subst he;exact b53 rfl (by simp) trivial) t fn pos ht
end
end Hid
namespace Hid
open Go Go.Proofs Go.RowKit Go.Conc Ar
variable [Junk]
section
variable {B0:Nat}{Post:Value->World->Prop}{f:FuncId}{Q:Value->World->Prop}
theorem bt8(a:Ar)(i:Nat)(o:Obj)(h:(osT a)[i]?=some o):(∃o',(osP a KV)[i]?=some o'/\ObR o' o)/\(∀x u,o≠.view x u)/\(∀c u,o≠.pending c u)/\∀r,o≠.loop r:=by
 have hlt:i<10:=(lT.1 h).1;have hc:i=0\/i=1\/i=2\/i=3\/i=4\/i=5\/i=6\/i=7\/i=8\/i=9:=by omega
 rcases hc with rfl|rfl|rfl|rfl|rfl|rfl|rfl|rfl|rfl|rfl<;>obtain rfl:=sj (h:some _=some o)
 all_goals refine⟨⟨_,rfl,?_⟩,(λ_ _ e=>by cases e),(λ_ _ e=>by cases e),λ_ e=>by cases e⟩
 all_goals first|exact .inl rfl|exact .inr (.inl ⟨_,_,rfl,rfl⟩)
theorem ck1(a:Ar){C L C2 L1:World}(hw:@WR noLoops _ C L)(hc:Gr C (osP a KV) C2)(hl:Gr L (osT a) L1):@WR noLoops _ C2 L1:=by
 have cs:∀b o,L1.heap[b]?=some o->L.heap[b]?=some o/\b<L.heap.size\/∃i,b=L.heap.size+i/\(osT a)[i]?=some o:=λb o h=>by
  by_cases hb:b<L.heap.size
  ·rw[hl.old hb]at h;exact .inl ⟨h,hb⟩
  ·obtain⟨i,rfl⟩:∃i,b=L.heap.size+i:=⟨b-L.heap.size,by omega⟩
   rw[hl.get]at h;exact .inr ⟨i,rfl,h⟩
 refine⟨hc.sys.trans (hw.os.trans hl.sys.symm),hc.out.trans (hw.out.trans hl.out.symm),?_,λb o h=>?_,λb x u h=>?_,λb c u h=>?_,λb r h=>?_⟩
 ·rw[hc.size,hl.size,hw.size];rfl
 ·rcases cs b o h with⟨h1,h2⟩|⟨i,rfl,h1⟩
  ·rw[hc.old (by rw[hw.size];exact h2)];exact hw.blk b o h1
  ·rw[<-hw.size,hc.get];exact(bt8 a i o h1).1
 ·rcases cs b _ h with⟨h1,h2⟩|⟨i,rfl,h1⟩
  ·exact hw.nv _ _ _ h1
  ·exact absurd rfl ((bt8 a i _ h1).2.1 _ _)
 ·rcases cs b _ h with⟨h1,h2⟩|⟨i,rfl,h1⟩
  ·exact hw.np _ _ _ h1
  ·exact(bt8 a i _ h1).2.2.1 _ _ rfl
 ·rcases cs b _ h with⟨h1,h2⟩|⟨i,rfl,h1⟩
  ·exact hw.lp _ _ h1
  ·exact((bt8 a i _ h1).2.2.2 _ rfl).elim
theorem bx_gr(a:Ar){C C2:World}(hm:a.m=C.heap.size)(h:Gr C (osP a KV) C2):FB (bxOf a) C2:=by
 intro b o hb;unfold bxOf at hb;rw[hm]at hb;repeat' split at hb
 all_goals first|(cases hb;done)|skip
 all_goals rename_i e;subst e;rw[h.get];exact hb
theorem cs3(a:Ar){L L1:World}(hm:a.m=L.heap.size)(h:Gr L (osT a) L1):∀b o,bxOf a b=some o->∃T fz,L1.heap[b]?=some (.cells #[] T fz):=by
 intro b o hb;unfold bxOf at hb;rw[hm]at hb;repeat' split at hb
 all_goals first|(cases hb;done)|skip
 all_goals rename_i e;subst e;rw[h.get];exact⟨_,_,rfl⟩
theorem bZ9(a:Ar)(h8:a.n3<=8)(hG:GB twp B0){x:Frame}{xs:List Frame}{Shun:Loc->Prop}{B:Nat}{gs:Array Goroutine}{C L:World}{sl:Option (Nat×Nat)}{t:Trace}{q:Nat->Nat}(hm:a.m=L.heap.size)
  (hx:@FrOK noLoops twp Tryz.prog x) (hxs:∀y∈xs,@FrOK noLoops twp Tryz.prog y) (hsit:@Sit noLoops _ Tryz.prog B0 Shun B gs C L t q) (h0:gs[0]?=some (G a.F0 (x::xs))) (ht:Tree twp (AtRet twp f Q) (G a.T0 (x::xs++[dmF twp])) L)
  (hcl:∀g' L',Later twp (G a.T0 (x::xs++[dmF twp])) L g' L'->@Claim noLoops _ twp Tryz.prog B0 Post g' L'):Wins Tryz.prog Post (crowd gs C sl) t:=by
 have hmC:a.m=C.heap.size:=hm.trans hsit.wr.size.symm;have hS:∀l,Shun l->∃ad,l=.cell ad/\ad.block<a.m:=λl hl=>by
  obtain⟨ad,T,fz,e,h⟩:=hsit.shun l hl;exact⟨ad,e,by rw[hm];exact(li.1 h).1⟩
 have hN:0<gs.size:=(li.1 h0).1;have hE:=eok a x xs Shun gs.size (B0:=B0) (by rw[hm];exact hsit.big) hS hN;have hcs:CsOK x xs:=λz hz=>by
  rcases xe.1 hz with rfl|hz
  ·exact⟨hx.defers,hx.mode⟩
  ·exact⟨(hxs z hz).defers,(hxs z hz).mode⟩
 obtain⟨hfit,hgr⟩:=bv7 (f:=48) (osT a) [] L a.m (Gr.self L) (by rw[hm];rfl);rw[<-b09]at hfit hgr;obtain⟨ht1,hl1⟩:=ad6 46 (s:=(a.T0,csT x xs)) (co3 a h8 (csT x xs)) hfit ht;generalize hL1:wL a.ch9 L=L1 at *
 have hgL:Gr L (osT a) L1:=hgr;have sz1:L1.heap.size=a.m+10:=by rw[hgL.size,hm];rfl
 have hWW:TW a x xs Shun gs.size B0 Post R1 0 (G a.child []) L1:=by
  refine WW.facts (E:=env a x xs Shun gs.size) λhl=>?_
  obtain⟨_,_,_,_,_,_,b8⟩:=bxV (a:=a) (i:=0);refine WW.run (E:=env a x xs Shun gs.size) hE rp1 13 (s:=(a.child,[])) (co2 a) (bm3 hl 8 a.chV (by omega) 115 b8) ?_;refine b86 hE hG hcs h8 (f:=f) (Q:=Q) (g0:=G a.T0 (csT x xs)) (L0:=L) (λx26 x30 x31 x33 x34 x35 L2 ht2 hl2=>?_) a.n3 0 (by omega) _ _ _ _ _ _ L1 ht1 hl1 _ _ _ _ _;have hrB:=b44 a (csT x xs) (a.n3:Int) x26 x30 x31 x33 x34 x35;rw[lf (Int.lt_irrefl _)]at hrB;obtain⟨ht3,hl3⟩:=ad6 3 hrB (L:=L2) trivial ht2;obtain⟨ht4,hl4⟩:=ad6 9 (cn3 a (csT x xs) (a.n3:Int) x26 x31 x33 x34 x35) (L:=L2) trivial ht3;have hout:=ab4 (out_T a x (xs++[dmF twp]) (.int .i64 a.n3) x26 x31 x33 x34 x35) (w:=L2) trivial;refine pxl hE hS hx hxs (hcl _ _ (hl2.trans (hl3.trans (hl4.trans ?_))));exact .step (d:=L2.drawn) hout (.refl _ _)
 refine a16 46 (s:=(a.F0,x::xs)) (co4 a h8 (x::xs)) (N:=gs.size) (T:=Past Shun (a.m+9)) ad3 rfl h0 hsit.lv (hsit.past.mono (by have:=hsit.low;omega)) λd=>?_
 refine cj2 (C:=C) hmC (lh _) hS (λC1 hC1=>?_) _ ((Gr.self C).at d);intro d1 gs1 sl1 t1 q1 hz1 hg1 hlv1 hp1;refine a16 147 (s:=(a.FA,x::xs)) (co0 a (x::xs)) (N:=gs.size) (T:=P0 (env a x xs Shun gs.size).A (a.m+10) 0) an8 hz1 hg1 hlv1 ?_ λd2=>?_
 ·exact P0.of (A:=(env a x xs Shun gs.size).A) hp1 (lh _) (lab _)
 refine cj1 (C:=C) hmC rfl (lh _) (λC2 hC2=>?_) _ ((hC1.at d1).at d2);intro d3 gs2 sl2 t2 q2 hz2 hg2 hlv2 hp2;refine aY7 (T:=P0 (env a x xs Shun gs.size).A (a.m+10) 0) an8 (sumTo gs2.size q2) (lh _) hg2 rfl hlv2 hp2 λd4 gs3 sl3 t3 q3 hg3 hz3 hlv3 hp3=>?_
 have hN3:gs3.size=gs.size:=hz3.trans hz2;have hspawn:=ai0 (go_P a (x::xs)) (w:=(C2.at d3).at d4) trivial;refine⟨_,_,runT_crowd_spawn (P:=Tryz.prog) (i:=0) hg3 hspawn,?_⟩;rw[hN3];generalize (G a.FG (x::xs)).frame.fn=f1;generalize (G a.FG (x::xs)).frame.place=p1;generalize hC3:wOf [] ((C2.at d3).at d4)=C3;have hg:Gr C (osP a KV) C3:=by rw[<-hC3];exact(hC2.at d3).at d4
 have sz3:C3.heap.size=a.m+10:=by rw[hg.size,hmC];rfl
 have hn:Deaf t3 gs.size=0:=hlv3.above _ (by omega);have hti:=P0.fork hE.ap hp3 hn f1 (G a.child []).frame.fn p1 p1;have hdf:∀i,Deaf (t3++#[{g:=0,fn:=f1,pos:=p1,act:= .go gs.size},{g:=gs.size,fn:=(G a.child []).frame.fn,pos:=p1,act:= .start}]) i=Deaf t3 i:=λi=>by
  rw[show∀u v:MemOp,(#[u,v]:Trace)=[u,v].toArray fromλ_ _=>rfl,Deaf_append];rfl
 have hlt:0<gs3.size:=by omega
 refine hWW .opn 0 (G a.FP (x::xs)) ((gs3.setIfInBounds 0 (G a.FP (x::xs))).push (G a.child [])) C3 sl3 _ q3 ?_ trivial;refine⟨?_,?_,⟨λi g hi hne hx2=>?_,λj hj=>?_,?_,hN⟩,?_,λb hb=>?_,?_,?_,λl hl=>?_,?_,?_,?_,?_,?_,?_,?_,?_,?_,bW9 a x xs Shun gs.size h8,λh=>absurd rfl h⟩
 ·rw[Array.getElem?_push_lt (by simpa using hlt)];simp[hlt]
 ·show((gs3.setIfInBounds 0 (G a.FP (x::xs))).push (G a.child []))[gs.size]?=_;rw[xq,ll (by simp[hN3])]
 ·have hi2:i≠gs.size:=hne;rw[xq]at hx2;split at hx2
  ·rename_i e;simp at e;omega
  ·rw[lj (by omega)]at hx2;have:=hlv3.old i g hi hx2
   rw[<-hdf i]at this;exact this
 ·exact(hdf j).trans (hlv3.above j (by simp at hj;omega))
 ·simp[hN3];exact xD _
 ·exact ck1 a hsit.wr hg hgL
 ·rw[hg.old (by rw[hsit.wr.size];exact lQ hb hsit.big),hgL.old (lQ hb hsit.big)];exact hsit.old b hb
 ·rw[hg.tape,hgL.tape];exact hsit.tape
 ·rw[sz1];exact lh _
 ·obtain⟨ad,T,fz,e,h⟩:=hsit.shun l hl;exact⟨ad,T,fz,e,by rw[hgL.old (li.1 h).1];exact h⟩
 ·exact bx_gr a hmC hg
 ·refine⟨0,0,?_⟩;show C3.heap[a.m+7]?=_;rw[hmC,hg.get];rfl
 ·show L1.heap[a.m+7]?=_;rw[hm,hgL.get];rfl
 ·exact b91 (st:=4294967296) hmC hg
 ·exact cs3 a hm hgL
 ·refine⟨125,(0,0),?_⟩;show L1.heap[a.m+9]?=_;rw[hm,hgL.get];rfl
 ·rw[sz3];exact hti
 ·exact(hdf 0).trans hp3.deaf
 ·exact(hdf _).trans hn
theorem be2(hG:GB twp B0):@cu7 noLoops _ twp Tryz.prog B0 Post (AtRet twp f Q) 48:=by
 intro args x xs Shun B gs C L sl t q hx hxs hsit h0 ht hcl;obtain⟨l,hl,e1,e2⟩:=ch5 args;rw[e1]at h0;rw[e2]at ht hcl;obtain⟨w,rest,rfl⟩:=cb8 l hl;obtain⟨b0,n0,c0,i1,i2,b3,n3,c3,i4,v0,v1,v2,v3,v4,v5,h8⟩:=bZ6 (v0:=w 0) (v1:=w 1) (v2:=w 2) (v3:=w 3) (v4:=w 4) (v5:=w 5) ht;rw[v0,v1,v2,v3,v4,v5]at h0 ht hcl;exact bZ9 ⟨b0,n0,c0,i1,i2,b3,n3,c3,i4,L.heap.size,w,rest⟩ h8 hG rfl hx hxs hsit h0 ht hcl
end
end Hid
namespace Hid
open Go Go.Proofs Go.RowKit Go.Conc Ar
def aS7(b:Nat)(o:Obj):Obj:=match o with
 |.view _ _|.pending _ _|.loop _=> .view ⟨b,0,none⟩ 0
 |o=>o
def clean(W:World):World:={W with heap:=W.heap.mapIdx aS7}
theorem ax1(W:World)(b:Nat):(clean W).heap[b]?=(W.heap[b]?).map (aS7 b):=by simp[clean]
theorem bD5(W:World)(a:Addr):(clean W).cell? a=W.cell? a:=by
 unfold World.cell?;rw[ax1];cases W.heap[a.block]? with
 |none=>rfl
 |some o=>cases o<;>rfl
theorem bR5(W:World)(b:Nat)(es:Array MapEntry)(c:Nat):(clean W).heap[b]?=some (.map es c)<->W.heap[b]?=some (.map es c):=by
 rw[ax1];cases W.heap[b]? with
 |none=>simp
 |some o=>cases o<;>simp[aS7]
theorem cf6(o:Obj):Jk o\/∀b,aS7 b o=o:=by
 cases o<;>first|exact .inl (.view _ _)|exact .inl (.pending _ _)|exact .inl (.loop _)|exact .inr λ_=>rfl
theorem a62{o:Obj}(h:Jk o)(b:Nat):aS7 b o=.view ⟨b,0,none⟩ 0:=by cases h<;>rfl
theorem by5{H:Type}{enc:TypeId×Value->H}{P:Program}{V W:World}{base:Nat}{sp:Nat->Bool}{held:Bool}(hc:∀a,V.cell? a=W.cell? a)(hm:∀(b:Nat) es c,V.heap[b]?=some (.map es c)<->W.heap[b]?=some (.map es c)):∀fuel,DataW.trod enc P V base sp held fuel=DataW.trod enc P W base sp held fuel:=by
 have hcs:∀b a n,V.cells? b a n=W.cells? b a n:=λb a n=>by
  unfold World.cells?;simp only[hc]
 intro fuel;induction fuel with
 |zero=>rfl
 |succ fuel ih=>
  funext t cs;unfold DataW.trod;simp only[ih,hcs];split<;>try rfl
  rename_i k e b _;have key:(∃es c,V.heap[b]?=some (.map es c))\/((∀es c,V.heap[b]?≠some (.map es c))/\∀es c,W.heap[b]?≠some (.map es c)):=by
   by_cases h:∃es c,V.heap[b]?=some (.map es c)
   ·exact .inl h
   ·exact .inr ⟨λes c hh=>h ⟨es,c,hh⟩,λes c hh=>h ⟨es,c,(hm b es c).2 hh⟩⟩
  rcases key with⟨es,c,h⟩|⟨h1,h2⟩
  ·rw[h,(hm b es c).1 h]
  ·split
   ·rename_i es c h;exact absurd h (h1 es c)
   ·first
     |rfl
     |(split
       ·rename_i es c h;exact absurd h (h2 es c)
       ·rfl)
theorem leavers_one(P:Program)(g:Goroutine):Leavers P #[] #[g] (λ_=>0):=by
 refine⟨λi x hi hx=>?_,λj _=>rfl⟩;have:i<1:=(li.1 hx).1
 omega
theorem past_nil(S:Loc->Prop):Past S 0 #[]:=by
 refine⟨λsaid hr=>?_,λi a h=>?_,λi g h=>?_,rfl,λop hop=>by simp at hop⟩
 ·obtain⟨i,j,_,⟨a,b,ha,_⟩,_⟩:=hr;simp[Trace.act?]at ha
 ·obtain⟨x,hx,_⟩:=touch_of h;simp at hx
 ·simp[Trace.g?]at h
theorem bL1:Pair twp twp:=by
 have h:Pair twp {twp with funcs:=twp.funcs}:=by
  refine bL2 (full:=true) (J:=λ_=>true) (λ_=>trivial) (λ_ _=>trivial) (λ_ _=>trivial) (λ_ _=> .inl rfl) (λ_ h=>h) rfl λf fn hf=>?_
  obtain⟨b,Fn,hb,_,_⟩:=aA8.twin.fn f fn hf;refine⟨b,fn,hb,λ_=>?_,aA8.ng f fn hf,hf,rfl⟩;rw[bF6]at hf;obtain⟨g,hg,rfl⟩:=xl.1 hf;have hlt:=Nat.lt_of_lt_of_eq (li.1 hg).1 bN5;have hk:=xd.1 b56 f (lG.2 hlt);unfold okAt at hk;rw[hg]at hk;simp only[hb,lr]at hk;exact hk.1.1
 exact h
theorem bZ2{f:FuncId}{fn:Func}{args:Array Value}{W:World}{Post:Value->World->Prop}(hfn:twp.funcs[f]?=some fn)(hP:Tryz.prog.funcs[f]?=some fn)(hin:Tryz.prog.inits.idxOf? f=none)
  (hres:∀tmps,∃v,∀(q:Program)(w:World)(es:Array Event),(results fn tmps).runT q w es=(.ok v w,es)) (hgl:∀b<Tryz.prog.globals.size,∃c T fz,W.heap[b]?=some (.cells c T fz))
  (hC:∀T,Calls twp f args {clean W with tape:=T} λe w'=>e=.returned (.bool true)/\Below W.heap.size {clean W with tape:=T} w')
  (hPost:∀C:World,C.os=W.os->C.output=W.output->W.heap.size<=C.heap.size->(∀b:Nat,b<W.heap.size->C.heap[b]?=W.heap[b]?)->Post (.bool true) C):Wins Tryz.prog Post (solo (G (Frame.enter Tryz.prog f args .normal) []) W) #[]:=by
 letI:Junk:=⟨λb=>W.heap[b]?,Tryz.prog.globals.size⟩
 have hsz:(clean W).heap.size=W.heap.size:=by simp[clean]
 have hview:∀b a u,(clean W).heap[b]?=some (.view a u)->a.block=b/\Tryz.prog.globals.size<=b:=λb a u h=>by
  rw[ax1]at h;cases ho:W.heap[b]? with
  |none=>rw[ho]at h;cases h
  |some o=>
   rw[ho]at h;rcases cf6 o with hj|hj
   ·rw[lD,a62 hj]at h;cases h;refine⟨rfl,Nat.le_of_not_lt λhlt=>?_⟩;obtain⟨c,T,fz,hc⟩:=hgl b hlt;rw[hc]at ho;cases ho;cases hj
   ·rw[lD,hj b]at h;cases h;have:=hj 0
    simp only[aS7]at this;refine⟨?_,Nat.le_of_not_lt λhlt=>?_⟩
    ·have:=hj b
     simp only[aS7,Obj.view.injEq]at this;rw[<-this.1]
    ·obtain⟨c,T,fz,hc⟩:=hgl b hlt;rw[hc]at ho;cases ho
 have hnj:∀(b:Nat)(o:Obj),(clean W).heap[b]?=some o->(∀c u,o≠.pending c u)/\∀r,o≠.loop r:=λb o h=>by
  rw[ax1]at h;cases ho:W.heap[b]? with
  |none=>rw[ho]at h;cases h
  |some o2=>
   rw[ho,lD]at h;cases h;cases o2<;>exact⟨λ_ _ e=>(by cases e),λ_ e=>(by cases e)⟩
 have hWL:@WR noLoops _ W (clean W):=by
  refine⟨rfl,rfl,hsz.symm,λb o h=>?_,hview,λb c u h=>(hnj b _ h).1 _ _ rfl,λb r h=>((hnj b _ h).2 _ rfl).elim⟩;rw[ax1]at h;cases ho:W.heap[b]? with
  |none=>rw[ho]at h;cases h
  |some o2=>
   rw[ho,lD]at h;cases h;refine⟨o2,rfl,?_⟩;rcases cf6 o2 with hj|hj
   ·rw[a62 hj];exact .inr (.inr (.inr ⟨⟨_,_,rfl⟩,hj⟩))
   ·rw[hj];exact .inl rfl
 have hold:∀b:Nat,b<W.heap.size->W.heap[b]?=U b (clean W).heap[b]?:=λb _=>by
  rw[ax1];cases ho:W.heap[b]? with
  |none=>rfl
  |some o2=>
   rcases cf6 o2 with hj|hj
   ·rw[lD,a62 hj];exact ho.symm
   ·rw[lD,hj];cases o2<;>first|rfl|exact ho.symm
 have hGW:twp.globals.size<=W.heap.size:=by
  refine Nat.le_of_not_lt λhlt=>?_
  obtain⟨c,T,fz,hc⟩:=hgl W.heap.size hlt;simp at hc
 have hGB:GB twp W.heap.size:=⟨hGW,lh _⟩
 have hrun:∀tmps,∃v,∀w,(results fn tmps).run twp w=.ok v w:=λtmps=>by
  obtain⟨v,hv⟩:=hres tmps;exact⟨v,λw=>by rw[<-Sem.runT_fst twp _ w #[],hv]⟩
 have ht:=aZ8 (Q:=λv w'=>v=.bool true/\w'.os=W.os/\w'.output=W.output/\W.heap.size<=w'.heap.size/\∀b:Nat,b<W.heap.size->w'.heap[b]?=(clean W).heap[b]?) bL1 (f:=f) (args:=args) (w:=clean W) trivial hWL.self (λT=>(hC T).mono λe w' h=>⟨_,h.1,rfl,h.2.os,h.2.output,by have:=h.2.size;exact hsz▸this,h.2.block⟩)
  (λv w1 w2 h1 h2 h3 hq=>⟨hq.1,h2▸hq.2.1,h3▸hq.2.2.1,h1▸hq.2.2.2.1,h1▸hq.2.2.2.2⟩) hfn hrun
 have henter:Frame.enter twp f args .normal=Frame.enter Tryz.prog f args .normal:=by
  unfold Frame.enter;rw[hfn,hP]
 have hcl:=bE1 (B0:=W.heap.size) (Post:=Post) aA8 hGB (be2 hGB) at6 hin hfn hres (λv C L hw ho hq=>?_) ht _ _ (.refl _ _)
 ·rw[<-henter];exact hcl (Frame.enter twp f args .normal) [] rfl (aM8 aA8 trivial hfn args) (by simp) (λ_=>False) 0 #[G (Frame.enter twp f args .normal) []] W none #[] (λ_=>0) ⟨leavers_one _ _,past_nil _,hWL,lB _,λl h=>h.elim,rfl,hold,by rw[hsz];exact lh _⟩ rfl
 ·obtain⟨rfl,q1,q2,q3,q4⟩:=hq;refine hPost C (hw.os.trans q1) (hw.out.trans q2) (by rw[hw.size];exact q3) λb hb=>?_
  rw[ho b hb,q4 b hb];exact(hold b hb).symm
end Hid
namespace Hid
open Go Go.Proofs Go.RowKit Go.Conc Ar
def rowsB(P:Program):Bool:=(List.range P.globals.size).all λg=>(((begin P (λ_ _=>0) default).world.heap[g]?).bind Obj.row?).isSome
theorem cc4:rowsB Tryz.prog=true:=by kernel_rfl
theorem cc5{w:World}(h:w.ShapedOpen Tryz.prog):∀b<Tryz.prog.globals.size,∃c T fz,w.heap[b]?=some (.cells c T fz):=λb hb=>by
 have h1:=xd.1 cc4 b (lG.2 hb);obtain⟨⟨zero,t⟩,h2⟩:=Option.isSome_iff_exists.1 h1;obtain⟨cs,h3,_⟩:=h.1 b zero t hb h2;exact⟨cs,t,_,h3⟩
theorem aQ5{H:Type}{enc:TypeId×Value->H}{os:Os}{f:FuncId}{fn:Func}{s:ChangeSpec}{conds:List PathCond}{apart fresh handsOn again:Bool}
  (own:ownKnob Tryz.prog.godebug=none) (started:os.Started) (hT:twp.funcs[f]?=some fn) (hfn:Tryz.prog.funcs[f]?=some fn) (hin:Tryz.prog.inits.idxOf? f=none) (hres:∀tmps,∃v,∀(q:Program)(w:World)(es:Array Event),(results fn tmps).runT q w es=(.ok v w,es))
  (witness:∃(w:World)(tape:Tape)(i:Input),w.os=os/\(w.forCall tape i).Shaped Tryz.prog/\i.vars=[]/\Input.okWide Tryz.prog (w.forCall tape i) .any w.heap.size f i/\
   s.pre6 enc Tryz.prog fn conds apart (w.forCall tape i).memory i.args/\({}:Assume).holds Tryz.prog (lone (Frame.enter Tryz.prog f i.args .normal) [] (w.forCall tape i)))
  (contract:∀(W:World)(base:Nat)(args:Array Value)(ds gs:List (DataW H))(before:List MemPlace),
   (∀(j:Nat) t v,fn.params[j]?=some t->args[j]?=some v->Value.okWide Tryz.prog W .any base t v)->DataW.Whole enc Tryz.prog fn.params.toList s.vars apart W args.toList ds gs before->
   conds.all (PathCond.test Tryz.prog ⟨fn.params.toList,ds,s.plain.varTypes Tryz.prog,gs⟩)=true->
   (DataW.weightsEach Tryz.prog (fn.params.toList++s.plain.varTypes Tryz.prog) (ds++gs)).all (·<=reachBytes)=true->
   (∀T,Calls twp f args {clean W with tape:=T} λe w'=>e=.returned (.bool true)/\Below W.heap.size {clean W with tape:=T} w')/\
   ∀C:World,Below W.heap.size W C->s.post enc Tryz.prog fn apart fresh handsOn again W args (.bool true) C):
  ReturnsInLeavingWide {} Tryz.checked os f .any (s.pre6 enc Tryz.prog fn conds apart) (s.post enc Tryz.prog fn apart fresh handsOn again):=by
 refine returnsInLeavingWide_of_good own started witness ?_;intro w tape i _ hsh _ hok hpre _;obtain⟨_,_,_,fn',hfn',_,_,_,_,hval⟩:=hok;have e:fn'=fn:=sj (hfn'.symm.trans hfn);subst e;obtain⟨⟨ds,gs,before,hw,hc⟩,hz⟩:=hpre;have hw':=DataW.Whole.of_heap (w':=w.forCall tape i) (by rfl) hw;have hwb:=DataW.Whole.of_heap (w':=(w.forCall tape i).blind) (by rfl) hw;obtain⟨hC,_⟩:=contract (w.forCall tape i) w.heap.size i.args ds gs before hval hw' hc (hz.weights hw);refine bZ2 hT hfn hin hres (cc5 hsh) hC λC h1 h2 h3 h4=>?_
 have hvb:∀(j:Nat) t v,fn'.params[j]?=some t->i.args[j]?=some v->Value.okWide Tryz.prog (w.forCall tape i).blind .any w.heap.size t v:=hval;obtain⟨_,hp⟩:=contract (w.forCall tape i).blind w.heap.size i.args ds gs before hvb hwb hc (hz.weights hw);exact hp C.blind ⟨h1,rfl,h2,h3,h4⟩
end Hid
end Go.Proofs.YtnhecfkpiojmhaaGreat
