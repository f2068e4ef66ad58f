import Derived.Test.YtbkgncikjhibiaaM8
set_option linter.unusedSimpArgs false
set_option linter.unusedVariables false
set_option linter.unusedSectionVars false
/- Part 9 of the texts that the law's proof leans on. -/
namespace Go.Proofs.Ytbkgncikjhibiaa
namespace Hid
open Go.RowKit Go.Conc
variable [LoopOK] [Junk]
def dmF (p : Program) : Frame := { fn := p.funcs.size, tmps := #[undef], todo := [.call default true "fmt's door!" #[]], defers := [], mode := .run, kind := .normal }
theorem bu9 (p:Program) (m:FrameMode):({ dmF p with mode:=m }:Frame).catches p=true:=by
 have:p.funcs[p.funcs.size]?=none:=by simp
 simp only [Frame.catches,dmF,this];decide +kernel
inductive Lost (p P:Program):Goroutine->Prop
 | fr {x:Frame}{xs:List Frame}{ch:List PanicEntry}(hm:x.mode = .panicking ch) (hd:x.defers=[]) (hxs:∀ y∈xs,y.defers=[]/\(y.mode = .run\/y.mode = .returning)):Lost p P (G x (xs++[dmF p]))
 | dm {ch:List PanicEntry}:Lost p P (G { dmF p with mode:= .panicking ch } [])
theorem a96 {p P:Program}{g:Goroutine}(h:Lost p P g) (w:World):(∃ o w' es,stepG p true g w = .ended o w' es)\/∃ g',stepG p true g w = .go g' w #[]/\Lost p P g':=by
 cases h with
 | @fr x xs ch hm hd hxs=>
  by_cases hc:x.catches p=true
  ·left;simp only [stepG,G,hm,unwind,hd,hc,xf];exact ⟨_,_,_,rfl⟩
  ·right;cases xs with
   | nil=>
    refine ⟨_,by simp only [stepG,G,hm,unwind,hd,hc,uK]; rfl,?_⟩;exact .dm
   | cons y ys=>
    refine ⟨_,by simp only [stepG,G,hm,unwind,hd,hc,uE]; rfl,?_⟩;have hy:=hxs y (by simp);have e:y.raise ch={ y with mode:= .panicking ch }:=by
     unfold Frame.raise;rcases hy.2 with h | h<;>rw [h]
    rw [e];exact .fr rfl hy.1 fun z hz=>hxs z (by simp [hz])
 | @dm ch=>
  left;have:=bu9 p (.panicking ch)
  simp only [stepG,G,unwind,this,xf];exact ⟨_,_,_,rfl⟩
theorem am0 {P:Program}{a:Goroutine}{w w':World}{o:Outcome}{es:Array Event}(hs:a.status = .running) (h:stepG P true a w = .ended o w' es):step P (solo a w) = .ended o w':=by
 rw [step,stepT_solo hs];simp [runT,solo,Array.swapAt!,Array.swapAt,h,GStep.es]
theorem Lost.status {p P:Program}{g:Goroutine}(h:Lost p P g):g.status = .running:=by cases h<;>rfl
theorem a97 {p P:Program}:∀ (n:Nat) {g:Goroutine}{w:World}{m:Machine},Lost p P g->runN p n (solo g w) = .next m->∃ g' w',m=solo g' w'/\Lost p P g'
 | 0,g,w,m,h,hr=>by cases hr; exact ⟨g,w,rfl,h⟩
 | n+1,g,w,m,h,hr=>by
  rcases a96 h w with ⟨o,w',es,e⟩ | ⟨g',e,h'⟩
  ·simp only [runN,am0 h.status e] at hr; cases hr
  ·simp only [runN,step_solo_go h.status e] at hr;exact a97 n h' hr
theorem Lost.mode {p P:Program}{x:Frame}{xs:List Frame}(h:Lost p P (G x xs)):∃ ch,x.mode = .panicking ch:=by
 generalize hg:G x xs=g at h;cases h with
 | fr hm _ _=>simp only [G,Goroutine.mk.injEq] at hg; exact ⟨_,hg.1▸hm⟩
 | dm=>simp only [G,Goroutine.mk.injEq] at hg; exact ⟨_,by rw [hg.1]⟩
theorem bi2 (p:Program) (v:Value) (w:World):∃ o w' es,stepG p true (G ((dmF p).finish v) []) w = .ended o w' es:=by
 have hx : Extern.next "fmt's door!" = none := by rfl
 simp only [stepG,G,dmF,Frame.finish,stepG.exec,hx,Option.elim];exact ⟨_,_,_,rfl⟩
inductive Tree (p:Program) (Stop:Goroutine->World->Prop):Goroutine->World->Prop
 | stop {g:Goroutine}{w:World}(h:Stop g w):Tree p Stop g w
 | step {g:Goroutine}{w:World}(nx:Nat->Goroutine×World) (h:∀ d,∃ es,stepG p true g (w.at d) = .go (nx d).1 (nx d).2 es) (ih:∀ d,Tree p Stop (nx d).1 (nx d).2):Tree p Stop g w
theorem Tree.mk {p:Program}{Stop:Goroutine->World->Prop}{g:Goroutine}{w:World}(h:∀ d,∃ g' w' es,stepG p true g (w.at d) = .go g' w' es/\Tree p Stop g' w'):Tree p Stop g w:=
 .step (fun d=>((h d).choose,(h d).choose_spec.choose)) (fun d=>⟨_,(h d).choose_spec.choose_spec.choose_spec.1⟩) fun d=>(h d).choose_spec.choose_spec.choose_spec.2
def AtRet (p:Program) (f:FuncId) (Q:Value->World->Prop) (g:Goroutine) (w:World):Prop:=∃ fr v,g=G fr [dmF p]/\fr.fn=f/\fr.leaving p w (.returned v)/\Q v w
section
variable {p:Program}{Stop:Goroutine->World->Prop}
def bJ4 (r:GStep):Prop:=∃ g' w' es,r = .go g' w' es/\∀ ch,g'.frame.mode≠.panicking ch
noncomputable def badD (p:Program) (Stop:Goroutine->World->Prop) (s:Goroutine×World):Nat:=
 open Classical in if h:∃ d,∀ g' w' es,stepG p true s.1 (s.2.at d) = .go g' w' es->¬ Tree p Stop g' w' then h.choose else 0
noncomputable def nxt (p:Program) (Stop:Goroutine->World->Prop) (s:Goroutine×World):Goroutine×World:=
 open Classical in if bJ4 (stepG p true s.1 (s.2.at (badD p Stop s))) then (match stepG p true s.1 (s.2.at (badD p Stop s)) with | .go g' w' _=>(g',w') | _=>s) else s
noncomputable def sq (p:Program) (Stop:Goroutine->World->Prop) (s:Goroutine×World):Nat->Goroutine×World
 | 0=>s
 | i+1=>nxt p Stop (sq p Stop s i)
def be2 (p:Program) (Stop:Goroutine->World->Prop) (s:Goroutine×World) (i:Nat):Prop:=bJ4 (stepG p true (sq p Stop s i).1 ((sq p Stop s i).2.at (badD p Stop (sq p Stop s i))))
noncomputable def pos (p:Program) (Stop:Goroutine->World->Prop) (s:Goroutine×World):Nat->Nat
 | 0=>s.2.drawn
 | i+1=>pos p Stop s i+((sq p Stop s (i+1)).2.drawn-badD p Stop (sq p Stop s i))
def Here (p:Program) (Stop:Goroutine->World->Prop) (s:Goroutine×World) (n i:Nat):Prop:=n<pos p Stop s (i+1)\/¬ be2 p Stop s i
noncomputable def bx5 (p:Program) (Stop:Goroutine->World->Prop) (s:Goroutine×World) (n:Nat):Question->Nat:=
 open Classical in if h:∃ i,Here p Stop s n i/\∀ j,j<i->¬ Here p Stop s n j then s.2.tape (badD p Stop (sq p Stop s h.choose)+(n-pos p Stop s h.choose)) else s.2.tape n
variable {s:Goroutine×World}
theorem bH9 {q:Goroutine×World}(h:¬ Tree p Stop q.1 q.2):∀ g' w' es,stepG p true q.1 (q.2.at (badD p Stop q)) = .go g' w' es->¬ Tree p Stop g' w':=by
 have hex:∃ d,∀ g' w' es,stepG p true q.1 (q.2.at d) = .go g' w' es->¬ Tree p Stop g' w':=by
  refine lz fun hc=>h (.mk fun d=>lz fun hd=>hc ⟨d,fun g' w' es e ht=>hd ⟨g',w',es,e,ht⟩⟩)
 unfold badD;rw [dif_pos hex];exact hex.choose_spec
theorem sq_go {i:Nat}{g':Goroutine}{w':World}{es:Array Event}(h:stepG p true (sq p Stop s i).1 ((sq p Stop s i).2.at (badD p Stop (sq p Stop s i))) = .go g' w' es) (hm:∀ ch,g'.frame.mode≠.panicking ch):be2 p Stop s i/\sq p Stop s (i+1)=(g',w'):=by
 have hg:bJ4 (stepG p true (sq p Stop s i).1 ((sq p Stop s i).2.at (badD p Stop (sq p Stop s i)))):=⟨g',w',es,h,hm⟩
 refine ⟨hg,?_⟩;show nxt p Stop (sq p Stop s i)=_;unfold nxt;rw [ln hg,h]
theorem bl6 (i:Nat):∀ j,i<=j->pos p Stop s i<=pos p Stop s j
 | 0,h=>by
  obtain rfl:i=0:=by omega
  exact lf _
 | j+1,h=>by
  rcases xX i (j+1) with h' | h'
  ·have:=bl6 i j (by omega)
   simp only [pos];omega
  ·obtain rfl:i=j+1:=by omega
   exact lf _
theorem bx4 {i:Nat}(hg:∀ j,j<i->be2 p Stop s j) (k:Nat) (hk:pos p Stop s i+k<pos p Stop s (i+1)\/¬ be2 p Stop s i) :
  bx5 p Stop s (pos p Stop s i+k)=s.2.tape (badD p Stop (sq p Stop s i)+k):=by
 have h1:Here p Stop s (pos p Stop s i+k) i:=hk;have h2:∀ j,j<i->¬ Here p Stop s (pos p Stop s i+k) j:=fun j hj hh=>by
  rcases hh with hh | hh
  ·have:=bl6 (p:=p) (Stop:=Stop) (s:=s) (j+1) i hj
   omega
  ·exact hh (hg j hj)
 have hex:∃ i',Here p Stop s (pos p Stop s i+k) i'/\∀ j,j<i'->¬ Here p Stop s (pos p Stop s i+k) j:=⟨i,h1,h2⟩
 have e:hex.choose=i:=by
  have hc:=hex.choose_spec;rcases xB hex.choose i with h | h | h
  ·exact absurd hc.1 (h2 _ h)
  ·exact h
  ·exact absurd h1 (hc.2 _ h)
 unfold bx5;rw [dif_pos hex,e];congr 1;omega
theorem WR.at' {C L:World}(h:WR C L) (d:Nat):WR C (L.at d):=⟨h.os,h.out,h.size,h.blk,h.nv,h.np,h.lp⟩
theorem WR.bq6 {C L:World}(h:WR C L) (e:C.heap=L.heap):WR L C:=⟨h.os.symm,h.out.symm,h.size.symm,fun b o ho=>⟨o,by rw [<-e]; exact ho,.inl rfl⟩,fun b a u=>by rw [e]; exact h.nv b a u,fun b a u=>by rw [e]; exact h.np b a u,fun b r=>by rw [e]; exact h.lp b r⟩
theorem bO1 {C L:World}(h:∀ b:Nat,C.heap[b]?=L.heap[b]?):C.heap=L.heap:=Array.ext_getElem? h
theorem aW9 {g g':Goroutine}{w w':World}{es:Array Event}{k:Nat}{m:Machine}(hs:g.status = .running) (h:stepG p true g w = .go g' w' es) (hr:runN p (k+1) (solo g w) = .next m):runN p k (solo g' w') = .next m:=by
 simpa only [runN,step_solo_go hs h] using hr
theorem bI0 {f:FuncId}{x c:Frame}{v:Value}{w w':World}{k:Nat}{fr:Frame}(hr:runN p k (solo (G ((dmF p).finish v) []) w) = .next (lone fr [c] w')):False:=by
 cases k with
 | zero=>
  cases hr
 | succ k=>
  obtain ⟨o,w1,es,e⟩:=bi2 p v w;simp only [runN,am0 rfl e] at hr;cases hr
theorem road (h:Pair p p) {f:FuncId}{Q:Value->World->Prop}{s:Goroutine×World}{fr:Frame}{v:Value}{w':World}(hfn:fr.fn=f)
  (hl:fr.leaving p w' (.returned v)) (hQv:Q v w') (hQ:∀ v (w1 w2:World),w1.heap=w2.heap->w1.os=w2.os->w1.output=w2.output->Q v w1->Q v w2)
  (hres:∀ fn,p.funcs[f]?=some fn->∀ tmps,∃ v,∀ w,(results fn tmps).run p w = .ok v w):∀ (k i:Nat) (x:Frame) (xs:List Frame) (W:World),
  (sq p (AtRet p f Q) s i).1=G x (xs++[dmF p])->FrOK p p x->(∀ y∈xs,FrOK p p y)->¬ Tree p (AtRet p f Q) (sq p (AtRet p f Q) s i).1 (sq p (AtRet p f Q) s i).2->(∀ j,j<i->be2 p (AtRet p f Q) s j)->
  WR W (sq p (AtRet p f Q) s i).2->W.heap=(sq p (AtRet p f Q) s i).2.heap->W.tape=bx5 p (AtRet p f Q) s->(sq p (AtRet p f Q) s i).2.tape=s.2.tape->W.drawn=pos p (AtRet p f Q) s i->
  runN p k (solo (G x (xs++[dmF p])) W) = .next (lone fr [dmF p] w')->False:=by
 intro k;induction k with
 | zero=>
  intro i x xs W hg hx hxs hnt hgo hw hh hT hT0 hd hr;simp only [runN,Stepped.next.injEq,solo,lone,Machine.mk.injEq,List.cons.injEq,Array.mk.injEq,G,Goroutine.mk.injEq,and_true,true_and] at hr;obtain ⟨rfl,rfl,hcs⟩:=hr;refine hnt (.stop ⟨x,v,?_,hfn,?_,hQ v _ _ hh hw.os hw.out hQv⟩)
  ·rw [hg]; simp only [G,hcs]
  ·obtain ⟨h1,h2,h3,fn,h4,h5⟩:=hl;refine ⟨h1,h2,h3,fn,h4,?_⟩;obtain ⟨v',hv'⟩:=hres fn (hfn▸h4) x.tmps;rw [hv'] at h5 ⊢;cases h5;rfl
 | succ k ih=>
  intro i x xs W hg hx hxs hnt hgo hw hh hT hT0 hd hr;generalize hS:AtRet p f Q=Stop at *
  generalize hq:sq p Stop s i=q at *
  have hrun:(G x (xs++[dmF p])).status = .running:=rfl;by_cases hG:be2 p Stop s i
  ·
   have hG':=hG;unfold be2 bJ4 at hG';rw [hq,hg] at hG';obtain ⟨g',w1,es,e,hm⟩:=hG';obtain ⟨_,hnx⟩:=sq_go (i:=i) (s:=s) (Stop:=Stop) (p:=p) (by rw [hq,hg]; exact e) hm;have hpos:pos p Stop s (i+1)=pos p Stop s i+(w1.drawn-badD p Stop q):=by simp only [pos,hnx,hq]
   have hst:=aH9 (mT:=true) (mP:=true) (C:=W) (L:=q.2.at (badD p Stop q)) (c:=dmF p) (csT:=[]) (csP:=[dmF p]) h hx hxs (hw.at' _) (fun b _=>by rw [hh]; rfl) (fun g2 L2 es2 e2 k hk=>by
    rw [e] at e2;cases e2;have hk':badD p Stop q+k<w1.drawn:=hk;have:=bx4 (p:=p) (Stop:=Stop) (s:=s) hgo k (.inl (by rw [hpos]; omega))
    rw [hT,hd,this,hq];show _=q.2.tape _;rw [hT0];rfl)
   have hnt':¬ Tree p Stop g' w1:=bH9 hnt g' w1 es (by rw [hg]; exact e);rw [e] at hst;generalize hr2:stepG p true (G x (xs++[dmF p])) W=r2 at hst;cases hst with
   | @go x' xs' C' _ _ hx' hxs' ho=>
    have hr':=aW9 hrun hr2 hr;refine ih (i+1) x' xs' C' (by rw [hnx]) hx' hxs' (by rw [hnx]; exact hnt') (fun j hj=>?_) (by rw [hnx]; exact ho.wr) (by rw [hnx]; exact bO1 fun b=>ho.heq b (by rw [hh]; rfl)) (ho.tc.trans hT) (by rw [hnx]; exact ho.tl.trans hT0) ?_ hr'
    ·rcases xX j i with h' | h'
     ·exact hgo j h'
     ·obtain rfl:j=i:=by omega
      exact hG
    ·rw [hpos,ho.dr.2,hd];rfl
   | ar9 hf _=>exact hf rfl
   | ret he hm ho=>
    have e3:∀ (w:World) (v:Value),doReturn p true x [dmF p] none v w = .go (G ((dmF p).finish v) []) w:=fun w v=>by simp only [doReturn,hx.kind]; rfl
    rw [e3,ac9] at hr2;exact bI0 (f:=f) (x:=x) (aW9 hrun hr2 hr)
   | bad hb=>
    cases hb with
    | panic hm' _=>exact hm _ hm'
  ·
   have hst:=aH9 (mT:=true) (mP:=true) (C:=q.2.at (badD p Stop q)) (L:=W) (c:=dmF p) (csT:=[]) (csP:=[dmF p]) h hx hxs (by
    have:=hw.bq6 hh
    exact ⟨this.os,this.out,this.size,this.blk,this.nv,this.np,this.lp⟩) (fun b _=>by rw [hh]; rfl) (fun g2 L2 es2 e2 k hk=>by
    have:=bx4 (p:=p) (Stop:=Stop) (s:=s) hgo k (.inr hG)
    rw [hT,hd,this,hq];show q.2.tape _=_;rw [hT0];rfl)
   generalize hr2:stepG p true (G x (xs++[dmF p])) W=r2 at hst;generalize hr3:stepG p true (G x (xs++[dmF p])) (q.2.at (badD p Stop q))=r3 at hst;cases hst with
   | @go x' xs' C' L' es hx' hxs' ho=>
    refine hG ?_;unfold be2 bJ4;rw [hq,hg];refine ⟨_,_,_,hr3,fun ch hc=>?_⟩;rcases hx'.mode with h | h<;>exact absurd (h.symm.trans hc) (by simp)
   | ar9 hf _=>exact hf rfl
   | ret he hm ho=>exact bI0 (f:=f) (x:=x) (aW9 hrun hr2 hr)
   | bad hb=>
    cases hb with
    | ended=>
     simp only [runN,am0 hrun hr2] at hr;cases hr
    | panic hm' hd'=>
     obtain ⟨g2,w2,e2,hlost⟩:=a97 (P:=p) k (.fr hm' hd' fun y hy=>⟨(hxs y hy).defers,(hxs y hy).mode⟩) (aW9 hrun hr2 hr);have e4:g2=G fr [dmF p]:=by
      simp only [solo,lone,Machine.mk.injEq,Array.mk.injEq,List.cons.injEq,and_true,true_and] at e2;exact e2.2.symm
     rw [e4] at hlost;obtain ⟨ch,hc⟩:=hlost.mode;exact absurd (hl.1.symm.trans hc) (by simp)
theorem aU8 (h:Pair p p) {f:FuncId}(hJ:LoopOK.fn f) {args:Array Value}{w:World}{Q:Value->World->Prop}(hw:WR w w)
  (hC:∀ T,Calls p f args { w with tape:=T } fun e w'=>∃ v,e = .returned v/\Q v w') (hQ:∀ v (w1 w2:World),w1.heap=w2.heap->w1.os=w2.os->w1.output=w2.output->Q v w1->Q v w2)
  {fn:Func}(hf:p.funcs[f]?=some fn) (hres:∀ tmps,∃ v,∀ w,(results fn tmps).run p w = .ok v w):Tree p (AtRet p f Q) (G (Frame.enter p f args .normal) [dmF p]) w:=by
 refine lz fun hn=>?_
 obtain ⟨e,w',fr,⟨v,rfl,hQv⟩,⟨N,hN⟩,hfn,hl⟩:=hC (bx5 p (AtRet p f Q) (G (Frame.enter p f args .normal) [dmF p],w)) [dmF p];exact road h (s:=(G (Frame.enter p f args .normal) [dmF p],w)) hfn hl hQv hQ (fun fn' hf'=>by rw [hf] at hf'; cases hf'; exact hres) N 0 (Frame.enter p f args .normal) []
  { w with tape:=bx5 p (AtRet p f Q) (G (Frame.enter p f args .normal) [dmF p],w) } rfl (aI5 h hJ hf args) (by simp) hn (by simp) ⟨hw.os,hw.out,hw.size,hw.blk,hw.nv,hw.np,hw.lp⟩ rfl rfl rfl rfl hN
end
end Hid
namespace Hid
open Go.RowKit Go.Conc
variable [LoopOK] [Junk]
open Go.ConcN (sumTo upd sumTo_upd upd_ne upd_same)
def Wins (P:Program) (Post:Value->World->Prop) (m:Machine) (t:Trace):Prop:=
 ∃ N last o w' t',runNT P (N+1) m t=(.ended o w',t')/\runN P N m = .next last/\step P last = .ended o w'/\Go.Conc.Good P Post last o w' t'
section
variable {P:Program}{Post:Value->World->Prop}{Shun:Loc->Prop}
theorem Wins.step {m m':Machine}{t:Trace}{ops:Array MemOp}(h:stepT P m=(.next m',ops)) (hw:Wins P Post m' (t++ops)):Wins P Post m t:=by
 obtain ⟨N,last,o,w',t',h1,h2,h3,h4⟩:=hw;exact ⟨N+1,last,o,w',t',by rw [runNT_succ_next h]; exact h1,by rw [runN_succ_next h]; exact h2,h3,h4⟩
theorem bi6:∀ (M:Nat) {B:Nat}{gs:Array Goroutine}{a:Goroutine}{C:World}{sl:Option (Nat×Nat)}{t:Trace}{q:Nat->Nat},sumTo gs.size q<=M->gs[0]?=some a->a.status = .running->Leavers P t gs q->Past Shun B t->
  (∀ d,∃ a' C' es B',stepG P true a (C.at d) = .go a' C' es/\(∀ e∈es,EvL Shun B' e)/\B<=B'/\
   ∀ gs' sl' t' q',gs'[0]?=some a'->gs'.size=gs.size->Leavers P t' gs' q'->Past Shun B' t'->Wins P Post (crowd gs' C' sl') t')->Wins P Post (crowd gs C sl) t:=by
 intro M;induction M with
 | zero | succ M ih=>?_
 all_goals
  intro B gs a C sl t q hM h0 hrun hL hP hstep;have haw:∀ g∈gs,awake g:=by
   intro g hg;obtain ⟨i,hi,rfl⟩:=xW.1 hg;rcases ug i with rfl | hpos
   ·have:gs[0]=a:=by simpa [lH hi] using h0
    rw [this]; exact awake_of (.inl hrun)
   ·exact awake_of ((hL.old i _ hpos (lH hi)).status.elim .inl fun x=> .inr (.inr x))
  obtain ⟨i,g,d,sl',hi,hg,hst⟩:=crowd_pick (P:=P) (w:=C) (sl:=sl) haw ⟨0,a,h0,hrun⟩;rcases ug i with rfl | hpos
  ·obtain rfl:g=a:=by rw [h0] at hi; exact (Option.some.inj hi).symm
   obtain ⟨a',C',es,B',hgo,hev,hB,hk⟩:=hstep d;have hrunT:=runT_crowd_go (P:=P) (sl:=sl') (i:=0) hi (show stepG P (0==0) g (C.at d)=_ from hgo);have hlt:0<gs.size:=(lg.1 h0).1;refine .step (hst.trans hrunT) (hk _ _ _ q (by simp [hlt]) (by simp) ⟨fun j x hj hx=>?_,fun j hj=>?_⟩ ((hP.mono hB).own hev))
   ·have hne:0≠j:=by omega
    rw [lh hne,lY] at hx;obtain ⟨y,hy,rfl⟩:=xg.1 hx;have hq:=hL.old j y hj hy;rw [woken_quitsD hq,Deaf_other t (by omega) _ (fun op hop=>by obtain ⟨e,_,rfl⟩:=lI hop; rfl)];exact hq
   ·rw [Deaf_other t (g':=0) (by simp at hj; omega) _ (fun op hop=>by obtain ⟨e,_,rfl⟩:=lI hop; rfl)];exact hL.above j (by simpa using hj)
  ·have hq:=hL.old i g hpos hi;have hi0:(i==0)=false:=by simp; omega
   have hlt:i<gs.size:=(lg.1 hi).1;cases hqi:q i with
   | zero=>rw [hqi] at hq; rw [hq.1] at hg; cases hg
   | succ k=>
    rw [hqi] at hq;rcases hq with ⟨hf,_⟩ | ⟨_,g',es,hm,hstp,hq'⟩
    ·rw [hf] at hg; cases hg
    have hsum:sumTo gs.size (upd q i k)+(k+1)=sumTo gs.size q+k:=by
     have:=sumTo_upd q k id hlt
     simpa [hqi] using this
    first
    | (exfalso; omega)
    | (have hrunT:=runT_crowd_go (P:=P) (sl:=sl') (i:=i) hi (by rw [hi0]; exact hstp (C.at d))
       have hsz:((gs.map (woken P g g' (C.at d))).setIfInBounds i g').size=gs.size:=by simp
       refine .step (hst.trans hrunT) (ih (B:=B) (a:=a) (q:=upd q i k) (by rw [hsz]; omega) ?_ hrun ⟨fun j x hj hx=>?_,fun j hj=>?_⟩ (hP.mute (by omega) hm) fun e=>?_)
       ·have hne:i≠0:=by omega
        rw [lh hne,lY,h0];simp [woken_run hrun]
       ·by_cases hji:i=j
        ·subst hji;rw [ll (by simpa using hlt)] at hx;obtain rfl:=Option.some.inj hx
         rw [upd_same,Deaf_own];exact hq'
        ·rw [lh hji,lY] at hx;obtain ⟨y,hy,rfl⟩:=xg.1 hx;have hqj:=hL.old j y hj hy;rw [woken_quitsD hqj,upd_ne q k (xy hji),Deaf_other t hji _ (fun op hop=>by obtain ⟨e,_,rfl⟩:=lI hop; rfl)];exact hqj
       ·rw [Deaf_other t (g':=i) (by simp at hj; omega) _ (fun op hop=>by obtain ⟨e,_,rfl⟩:=lI hop; rfl)];exact hL.above j (by simpa using hj)
       ·obtain ⟨a',C',es',B',h1,h2,h3,h4⟩:=hstep e;exact ⟨a',C',es',B',h1,h2,h3,fun gs' sl' t' q' g0 gz=>h4 gs' sl' t' q' g0 (gz.trans hsz)⟩)
theorem cf5 {L:World}(hs:∀ l,Shun l->∃ a T fz,l = .cell a/\L.heap[a.block]?=some (.cells #[] T fz)) {e:Event}(he:EvOK L e):EvL Shun L.heap.size e:=by
 obtain ⟨loc,wr,sy⟩:=e;have lt:∀ {b:Nat}{o:Obj},L.heap[b]?=some o->b<L.heap.size:=fun h=>(lg.1 h).1
 cases loc with
 | cell a=>
  obtain ⟨c,T,fz,h1,h2⟩:=he;refine ⟨fun x hx hsh=>?_,by simp,by simp,?_⟩
  ·rw [ofEvent_cell0] at hx;simp only [MemAct.touch?,Option.some.injEq] at hx;subst hx;obtain ⟨a',T',fz',e1,e2⟩:=hs _ hsh;cases e1;rw [h1] at e2;cases e2;simp at h2
  ·rw [ofEvent_cell0]; exact lt h1
 | obj r=>
  obtain ⟨o,h1,h2,_⟩:=he;refine ⟨fun x hx hsh=>?_,by simp,by simp,by cases wr<;>cases sy<;>exact lt h1⟩;have hl:x.loc = .obj r:=by cases wr<;>cases sy<;>simp [MemAct.ofEvent,MemAct.touch?] at hx<;>subst hx<;>rfl
  obtain ⟨a',T',fz',e1,_⟩:=hs _ hsh;rw [hl] at e1;cases e1
 | mark m=>
  cases m<;>first | exact he.elim | skip
  refine ⟨fun x hx hsh=>?_,by simp,by simp,trivial⟩;simp [MemAct.ofEvent,MemAct.touch?] at hx
 | output=>exact he.elim
 | goroutines=>exact he.elim
end
inductive Later (p:Program):Goroutine->World->Goroutine->World->Prop
 | refl (g:Goroutine) (w:World):Later p g w g w
 | step {g:Goroutine}{w:World}{d:Nat}{g':Goroutine}{w':World}{es:Array Event}{g2:Goroutine}{w2:World}(h:stepG p true g (w.at d) = .go g' w' es) (r:Later p g' w' g2 w2):Later p g w g2 w2
theorem Later.trans {p:Program}{a b c:Goroutine}{u v w:World}(h:Later p a u b v) (k:Later p b v c w):Later p a u c w:=by
 induction h with
 | refl=>exact k
 | step h _ ih=>exact .step h (ih k)
structure Sit (P:Program) (B0:Nat) (Shun:Loc->Prop) (B:Nat) (gs:Array Goroutine) (C L:World) (t:Trace) (q:Nat->Nat):Prop where
 lv:Leavers P t gs q
 past:Past Shun B t
 wr:WR C L
 low:B<=L.heap.size
 shun:∀ l,Shun l->∃ a T fz,l = .cell a/\L.heap[a.block]?=some (.cells #[] T fz)
 tape:C.tape=L.tape
 old:∀ b:Nat,b<B0->C.heap[b]?=U b L.heap[b]?
 big:B0<=L.heap.size
def Claim (p P:Program) (B0:Nat) (Post:Value->World->Prop) (g:Goroutine) (L:World):Prop:=
 ∀ (x:Frame) (xs:List Frame),g=G x (xs++[dmF p])->FrOK p P x->(∀ y∈xs,FrOK p P y)->∀ (Shun:Loc->Prop) (B:Nat) (gs:Array Goroutine) (C:World) (sl:Option (Nat×Nat)) (t:Trace) (q:Nat->Nat),
  Sit P B0 Shun B gs C L t q->gs[0]?=some (G x xs)->Wins P Post (crowd gs C sl) t
def ch5 (p P:Program) (B0:Nat) (Post:Value->World->Prop) (Stop:Goroutine->World->Prop) (f:FuncId):Prop:=
 ∀ (args:Array Value) (x:Frame) (xs:List Frame) (Shun:Loc->Prop) (B:Nat) (gs:Array Goroutine) (C L:World) (sl:Option (Nat×Nat)) (t:Trace) (q:Nat->Nat),
  FrOK p P x->(∀ y∈xs,FrOK p P y)->Sit P B0 Shun B gs C L t q->gs[0]?=some (G (Frame.enter P f args .normal) (x::xs))->Tree p Stop (G (Frame.enter p f args .normal) (x::xs++[dmF p])) L->
  (∀ g' L',Later p (G (Frame.enter p f args .normal) (x::xs++[dmF p])) L g' L'->Claim p P B0 Post g' L')->Wins P Post (crowd gs C sl) t
theorem bk2 {L L':World}(h:Stay L L') {b:Nat}{T:TypeId}{fz:Nat×Nat}(hb:L.heap[b]?=some (.cells #[] T fz)):∃ fz',L'.heap[b]?=some (.cells #[] T fz'):=by
 obtain ⟨c',fz',h1,h2⟩:=h.row b _ _ _ hb;obtain rfl:c' = #[]:=uv.1 (by simpa using h2)
 exact ⟨fz',h1⟩
section
variable {p P:Program}{B0:Nat}{Post:Value->World->Prop}{f:FuncId}{Q:Value->World->Prop}
theorem aL2 {g:Goroutine}{w:World}(ht:Tree p (AtRet p f Q) g w):¬ Lost p P g:=by
 induction ht with
 | stop h=>
  intro hl;obtain ⟨fr,v,rfl,_,⟨hm,_⟩,_⟩:=h;obtain ⟨ch,hc⟩:=hl.mode;exact absurd (hm.symm.trans hc) (by simp)
 | @step g w nx h _ ih=>
  intro hl;obtain ⟨es,e⟩:=h 0;rcases a96 hl (w.at 0) with ⟨o,w',es',e'⟩ | ⟨g',e',hl'⟩
  ·rw [e] at e'; cases e'
  ·rw [e] at e';simp only [GStep.go.injEq] at e';exact ih 0 (e'.1▸hl')
theorem b51 {v:Value}{w:World}(ht:Tree p (AtRet p f Q) (G ((dmF p).finish v) []) w):False:=by
 cases ht with
 | stop h=>
  obtain ⟨fr,v,e,_⟩:=h;simp [G] at e
 | step nx h _=>
  obtain ⟨es,e⟩:=h 0;obtain ⟨o,w',es',e'⟩:=bi2 p v (w.at 0);rw [e] at e';cases e'
theorem bt3 {v:Value}{w:World}{g:Goroutine}{w':World}(h:Later p (G ((dmF p).finish v) []) w g w'):g=G ((dmF p).finish v) []:=by
 cases h with
 | refl=>rfl
 | @step _ _ d _ _ _ _ _ h _=>
  obtain ⟨o,w',es',e'⟩:=bi2 p v (w.at d);rw [h] at e';cases e'
theorem Sit.step {P:Program}{Shun:Loc->Prop}{B:Nat}{gs:Array Goroutine}{C L:World}{t:Trace}{q:Nat->Nat}(h:Sit P B0 Shun B gs C L t q) (d:Nat) {C' L':World}{es:Array Event}(ho:Out (C.at d) (L.at d) C' L' #[] es)
  {gs':Array Goroutine}{t':Trace}{q':Nat->Nat}(hl:Leavers P t' gs' q') (hp:Past Shun L'.heap.size t'):Sit P B0 Shun L'.heap.size gs' C' L' t' q':=by
 refine ⟨hl,hp,ho.wr,lf _,fun l hs=>?_,?_,fun b hb=>ho.old b (h.old b hb),xc h.big ho.stay.size⟩
 ·obtain ⟨a,T,fz,e,hb⟩:=h.shun l hs;obtain ⟨fz',hb'⟩:=bk2 ho.stay hb;exact ⟨a,T,fz',e,hb'⟩
 ·rw [ho.tc,ho.tl]; exact h.tape
theorem Sit.ev {P:Program}{Shun:Loc->Prop}{B:Nat}{gs:Array Goroutine}{C L:World}{t:Trace}{q:Nat->Nat}(h:Sit P B0 Shun B gs C L t q) (d:Nat) {C' L':World}{es:Array Event}(ho:Out (C.at d) (L.at d) C' L' #[] es):(∀ e∈es,EvL Shun L'.heap.size e)/\B<=L'.heap.size:=by
 refine ⟨fun e he=>cf5 (fun l hs=>?_) ?_,xc h.low ho.stay.size⟩
 ·obtain ⟨a,T,fz,e,hb⟩:=h.shun l hs;obtain ⟨fz',hb'⟩:=bk2 ho.stay hb;exact ⟨a,T,fz',e,hb'⟩
 ·obtain ⟨ns,e1,h1⟩:=ho.evs;rw [e1] at he;exact h1 e (by simpa using he)
theorem bv6 (h:Pair p P) (hB0:GB p B0) {f6:FuncId}(hgo:ch5 p P B0 Post (AtRet p f Q) f6)
  (hsp:∀ (k:FuncId),P.funcs[k]?≠p.funcs[k]?->(k=f6/\∃ Fn:Func,P.funcs[k]?=some Fn/\Fn.body.isSome)\/∃ fn s,p.funcs[k]?=some fn/\fn.body=some (.refuse s))
  (hin:P.inits.idxOf? f=none) {fn:Func}(hf:p.funcs[f]?=some fn) (hres:∀ tmps,∃ v,∀ (q:Program) (w:World) (es:Array Event),(results fn tmps).runT q w es=(.ok v w,es))
  (hPost:∀ v (C L:World),WR C L->(∀ b:Nat,b<B0->C.heap[b]?=U b L.heap[b]?)->Q v L->Post v C)
  {g:Goroutine}{L:World}(ht:Tree p (AtRet p f Q) g L):∀ g' L',Later p g L g' L'->Claim p P B0 Post g' L':=by
 induction ht with
 | @stop g L hs=>
  have hs':=hs;obtain ⟨fr,v,rfl,hfn,hl,hQ⟩:=hs;intro g' L' hlat;have key:Claim p P B0 Post (G fr [dmF p]) L:=by
   intro x xs hg hx hxs Shun B gs C sl t q hsit h0;simp only [G,Goroutine.mk.injEq,and_true,true_and] at hg;obtain ⟨rfl,hxs'⟩:=hg;obtain rfl:xs=[]:=by simpa using hxs'
   obtain ⟨hm,hd,hk,fn',hfn',hr⟩:=hl;obtain rfl:fn'=fn:=by rw [hfn,hf] at hfn'; exact (Option.some.inj hfn').symm
   obtain ⟨Fn,hF,hE⟩:∃ Fn,P.funcs[fr.fn]?=some Fn/\Fn.results=fn'.results:=by
    obtain ⟨b,Fn,_,hF,hE⟩:=h.twin.fn _ _ hfn';exact ⟨Fn,hF,by rw [hE]⟩
   obtain ⟨v',hv'⟩:=hres fr.tmps;obtain rfl:v'=v:=by
    rw [<-Sem.runT_fst p _ L #[],hv'] at hr;cases hr;rfl
   refine beside_ends (D:=fun _ _ _=>False) (n:=0) (fun _ _ _ hf=>hf.elim) h0 hsit.lv hsit.past (fun w₁ hw₁=>?_);obtain ⟨d,rfl⟩:=hw₁;refine ⟨rfl,v',#[],?_,by simp,hPost _ _ L ⟨hsit.wr.os,hsit.wr.out,hsit.wr.size,hsit.wr.blk,hsit.wr.nv,hsit.wr.np,hsit.wr.lp⟩ hsit.old hQ⟩;have hin':P.inits.idxOf? fr.fn=none:=by rw [hfn]; exact hin
   have e:∀ w,stepG P true (G fr []) w=GStep.after (seen P fr.fn #[]) (.ended (.done v') w):=fun w=>by
    simp only [stepG,G,hm,unwind,hd];rw [hF];simp only [au1 (a:=Fn) (b:=fn') fr.tmps hE,hv',doReturn,hk,hin'];rfl
   rw [e];rfl
  cases hlat with
  | refl=>exact key
  | @step _ _ d g1 w1 es _ _ e r=>
   obtain ⟨hm,hd,hk,fn',hfn',hr⟩:=hl;obtain rfl:fn'=fn:=by rw [hfn,hf] at hfn'; exact (Option.some.inj hfn').symm
   obtain ⟨v',hv'⟩:=hres fr.tmps;have e2:∀ w,stepG p true (G fr [dmF p]) w=GStep.after (seen p fr.fn #[]) (.go (G ((dmF p).finish v') []) w):=fun w=>by
    simp only [stepG,G,hm,unwind,hd];rw [hfn'];simp only [hv',doReturn,hk]
   rw [e2,ac9] at e;simp only [GStep.go.injEq] at e;obtain ⟨rfl,rfl,_⟩:=e;intro x xs hg;rw [bt3 r] at hg;simp [G] at hg
 | @step g L nx hst htr ih=>
  intro g' L' hlat;cases hlat with
  | @step _ _ d g1 w1 es _ _ e r=>
   obtain ⟨es',e'⟩:=hst d;rw [e] at e';simp only [GStep.go.injEq] at e';obtain ⟨rfl,rfl,_⟩:=e';exact ih d g' L' r
  | refl=>
   intro x xs hg hx hxs Shun B gs C sl t q hsit h0;subst hg;refine bi6 (sumTo gs.size q) (lf _) h0 rfl hsit.lv hsit.past fun d=>?_
   obtain ⟨es,e⟩:=hst d;have htr':=htr d;have ih':=ih d;have hstp:=aH9 (mT:=true) (mP:=true) (C:=C.at d) (L:=L.at d) (c:=dmF p) (csT:=[]) (csP:=[]) h hx hxs ⟨hsit.wr.os,hsit.wr.out,hsit.wr.size,hsit.wr.blk,hsit.wr.nv,hsit.wr.np,hsit.wr.lp⟩ (hsit.wr.gl hB0 hsit.old) (fun g2 L2 es2 _ i _=>by
    show C.tape _=L.tape _;rw [hsit.tape];rfl)
   rw [e] at hstp;rw [uH] at hstp;generalize hr:stepG P true (G x xs) (C.at d)=r at hstp;generalize hn:nx d=n at *
   obtain ⟨g1,L1⟩:=n;simp only at hstp htr' ih'
   cases hstp with
   | @go x' xs' C' _ _ hx' hxs' ho=>
    refine ⟨G x' (xs'++[]),C',es,L1.heap.size,rfl,(hsit.ev d ho).1,(hsit.ev d ho).2,fun gs' sl' t' q' g0 _ hl hp=>?_⟩;exact ih' _ _ (.refl _ _) x' xs' rfl hx' hxs' Shun _ gs' C' sl' t' q' (hsit.step d ho hl hp) (by rw [g0,uH])
   | @ar9 k args _ _ _ hne _ _ hr'=>
    rcases hsp k hne with ⟨rfl,Fn,hF,hb⟩ | ⟨fn1,s,hfn1,hb⟩
    ·rcases hr' with ⟨Fn',hF',hb'⟩ | ⟨C',rfl,ho⟩
     ·rw [hF] at hF';cases hF';rw [hb'] at hb;cases hb
     ·refine ⟨_,C',es,L1.heap.size,rfl,(hsit.ev d ho).1,(hsit.ev d ho).2,fun gs' sl' t' q' g0 _ hl hp=>?_⟩;exact hgo args x xs Shun _ gs' C' L1 sl' t' q' hx hxs (hsit.step d ho hl hp) (by rw [g0,uH]) htr' fun g2 L2 hl2=>ih' g2 L2 hl2
    ·exfalso;cases htr' with
     | stop hs=>
      obtain ⟨fr,v,e3,_,⟨hm,_⟩,_⟩:=hs;simp only [G,Goroutine.mk.injEq] at e3;rw [<-e3.1] at hm;cases hm
     | step nx2 h2 _=>
      obtain ⟨es2,e3⟩:=h2 0;simp only [stepG,G,Frame.enter,hfn1,lab,hb,lX,stepG.exec] at e3;cases e3
   | ret he hm ho=>exact (b51 htr').elim
   | bad hb=>
    cases hb with
    | panic hm hd=>exact (aL2 (P:=P) htr' (.fr hm hd fun y hy=>⟨(hxs y hy).defers,(hxs y hy).mode⟩)).elim
end
end Hid
namespace Hid
open Go.RowKit Go.Conc
variable [LoopOK] [Junk]
structure AtOp (x:Frame) (o:Oper):Prop where
 mode:x.mode = .run
 kind:x.kind = .normal
 round:x.roundOf=none
 todo:∃ ops i rest k,x.todo = .inRegion ops (i::rest)::k/\ops[i]?=some o/\o.guard=none
section
variable {p P:Program}{x y:Frame}{o:Oper}
theorem AtOp.step (h:AtOp x o) (q:Program) (m:Bool) (cs:List Frame) (w:World):stepG q m (G x cs) w=stepG.apply q true x cs none (execOp x.eval o) w:=by
 obtain ⟨hm,_,hr,ops,i,rest,k,ht,ho,hg⟩:=h;have hw:(((ops[i]?).map (Region.wanted · (yielded ops x.tmps))).getD false)=true:=by
  rw [ho];simp [Region.wanted,hg]
 have ho':x.oper?=some o:=by simp only [Frame.oper?,ht,ho]
 simp only [stepG,G,hm,stepG.exec,ht,hw,xf,stepG.oper,ho',hr]
theorem AtOp.cd3 (h:AtOp x o):∀ d b r sv k,x.todo≠.call d b r sv::k:=by
 obtain ⟨_,_,_,ops,i,rest,k,ht,_,_⟩:=h;intro d b r sv k e;rw [ht] at e;simp at e
theorem AtOp.go (h:AtOp x o) {q:Program}{m:Bool}{cs:List Frame}{w w':World}{n:Next}{es:Array Event}(hr:(execOp x.eval o).runT q w #[]=(.ok n w',es)) (hp:PlainN n) :
  stepG q m (G x cs) w=match n with
   | .value v=> .go (G (x.finish v) cs) w' (seen q x.fn es)
   | .enter f args=> .go (G (Frame.enter q f args .normal) (x::cs)) w' (seen q x.fn es)
   | _=> .go (G (x.finish undef) cs) w' (seen q x.fn es):=by
 have hearly:(x.kind==CallKind.early)=false:=by rw [h.kind]; rfl
 have hk:=h.cd3;rw [h.step];unfold stepG.apply;simp only [hr,xf,hearly,lG,xj];cases hp<;>simp only [ac9]
 ·rfl
 ·rfl
 ·split
  ·rename_i e; exact (hk _ _ _ _ _ e).elim
  ·rfl
theorem AtOp.inv (h:AtOp x o) (hP:Pair p P) (hT:OpT p P o) {m:Bool}{cs:List Frame}{L L':World}{g':Goroutine}{es:Array Event}(hw:WR L L)
  (e:stepG p m (G x cs) L = .go g' L' es) (hn:∀ ch,g'.frame.mode≠.panicking ch):∃ n es0,(execOp x.eval o).runT p L #[]=(.ok n L',es0)/\PlainN n/\es=seen p x.fn es0:=by
 have hearly:(x.kind==CallKind.early)=false:=by rw [h.kind]; rfl
 cases hr:(execOp x.eval o).runT p L #[] with
 | mk r es0=>
  cases r with
  | ok n w=>
   have hp:=((hT x.eval fun _=>rfl).plain hP hw hr).1;have e2:=h.go (m:=m) (cs:=cs) hr hp;rw [e] at e2;refine ⟨n,es0,?_,hp,?_⟩
   ·cases hp<;>(simp only [GStep.go.injEq] at e2; rw [e2.2.1])
   ·cases hp<;>(simp only [GStep.go.injEq] at e2; exact e2.2.2)
  | halt hh w=>
   exfalso;have hn':=(hT x.eval fun _=>rfl).bF3 hP.twin hw hr;rw [h.step] at e;unfold stepG.apply at e;simp only [hr,xf,hearly,lG,xj] at e;cases hn' with
   | panic v=>
    simp only [ac9,GStep.go.injEq] at e;rw [<-e.1] at hn;have:x.raise [{ v,recovered:=false }]={ x with mode:= .panicking [{ v,recovered:=false }] }:=by
     unfold Frame.raise;rw [h.mode]
    exact hn [{ v,recovered:=false }] (by simp only [this])
   | uns u hu=>cases u<;>first | (simp [GStep.after] at e; done) | exact absurd rfl (hu _)
   | stuck s=>simp [GStep.after] at e
end
end Hid
namespace Hid
open Go.RowKit Go.Conc
open Go.ConcN (sumTo)
variable [LoopOK] [Junk]
inductive Idle (q:Program):Frame->Frame->Prop
 | refl (x:Frame):Idle q x x
 | step {x y z:Frame}(hm:x.mode = .run) (h:∀ m cs w,stepG q m (G x cs) w = .go (G y cs) w #[]) (r:Idle q y z):Idle q x z
theorem Idle.trans {q:Program}{x y z:Frame}(h:Idle q x y) (k:Idle q y z):Idle q x z:=by
 induction h with
 | refl=>exact k
 | step hm h _ ih=>exact .step hm h (ih k)
section
variable {p P:Program}{f:FuncId}{Q:Value->World->Prop}{Post:Value->World->Prop}{Shun:Loc->Prop}
theorem as6 {x:Frame}{cs:List Frame}{L:World}(hm:x.mode = .run):¬ AtRet p f Q (G x cs) L:=by
 rintro ⟨fr,v,e,_,⟨h,_⟩,_⟩;simp only [G,Goroutine.mk.injEq] at e;rw [<-e.1,hm] at h;cases h
theorem Tree.adv {g g':Goroutine}{L L':World}{d:Nat}{es:Array Event}(ht:Tree p (AtRet p f Q) g L) (hn:¬ AtRet p f Q g L) (e:stepG p true g (L.at d) = .go g' L' es):Tree p (AtRet p f Q) g' L':=by
 cases ht with
 | stop h=>exact absurd h hn
 | step nx h ih=>
  obtain ⟨es',e'⟩:=h d;rw [e] at e';simp only [GStep.go.injEq] at e';obtain ⟨rfl,rfl,_⟩:=e';exact ih d
theorem Tree.goes {g:Goroutine}{L:World}(ht:Tree p (AtRet p f Q) g L) (hn:¬ AtRet p f Q g L) (d:Nat):∃ g' L' es,stepG p true g (L.at d) = .go g' L' es/\Tree p (AtRet p f Q) g' L'/\Later p g L g' L':=by
 cases ht with
 | stop h=>exact absurd h hn
 | step nx h ih=>
  obtain ⟨es,e⟩:=h d;exact ⟨_,_,es,e,ih d,.step e (.refl _ _)⟩
end
end Hid
namespace Hid
open Go.RowKit Go.Conc
structure Area where
 Bx:Nat->Prop
 Wg:Nat
 Ch:Nat
 Shun:Loc->Prop
 n:Nat
def st0 (Wg:Nat):Addr:=⟨Wg,0,none⟩
namespace Area
variable (A:Area)
def hid (l:Loc):Prop:=(∃ a,l = .cell a/\(A.Bx a.block\/a.block=A.Wg))\/l = .obj A.Ch
def qn (x:Touch):Prop:=(∃ a,x.loc = .cell a/\A.Bx a.block/\x.write=false/\x.kind = .plain)\/(∃ a,x.loc = .cell a/\a.block=A.Wg/\x.kind = .atomic)\/(x.loc = .obj A.Ch/\x.kind = .atomic)
def q0 (x:Touch):Prop:=(∃ a,x.loc = .cell a/\A.Bx a.block/\x.write=false/\x.kind = .plain)\/(∃ a,x.loc = .cell a/\a.block=A.Wg/\x.kind≠.plain)\/(x.loc = .obj A.Ch/\x.kind = .atomic)
def ok0 (x:MemAct):Prop:=(∀ b,x.touch?=some b->A.q0 b)/\x≠.mark (.release (st0 A.Wg))
def okn (x:MemAct):Prop:=(∀ b,x.touch?=some b->(¬ A.hid b.loc/\(A.Shun b.loc->b.kind≠.plain))\/A.qn b)/\x≠.mark (.release (st0 A.Wg))
end Area
structure Apart (A:Area):Prop where
 bx:∀ b,A.Bx b->b≠A.Wg
 shun:∀ l,A.Shun l->¬ A.hid l
 n:0<A.n
structure TI (A:Area) (B:Nat) (t:Trace):Prop where
 clean:∀ said,¬ Race said t
 k0:∀ i a,touchAt t i=some a->a.loc.isMemory=true->Knows t 0 i\/(A.Shun a.loc/\a.kind = .atomic)\/(t.g? i=some A.n/\((¬ A.hid a.loc/\(A.Shun a.loc->a.kind≠.plain))\/A.qn a))
 kn:∀ i a,touchAt t i=some a->a.loc.isMemory=true->Knows t A.n i\/(A.Shun a.loc/\a.kind = .atomic)\/(t.g? i=some 0/\A.q0 a)
 over:∀ i g,t.g? i=some g->g≠0->t.counts i->(∃ j,t.g? j=some 0/\HappensBefore t i j)\/g=A.n
 norel:NoRelease (st0 A.Wg) t
 seen:∀ op∈t,op.act.low B
section
variable {A:Area}{B:Nat}{t:Trace}
theorem bs6 {a:Touch}(h:¬ A.hid a.loc):¬ A.q0 a:=by
 rintro (⟨x,h1,h2,_⟩ | ⟨x,h1,h2,_⟩ | ⟨h1,_⟩)
 ·exact h (.inl ⟨x,h1,.inl h2⟩)
 ·exact h (.inl ⟨x,h1,.inr h2⟩)
 ·exact h (.inr h1)
theorem a71 {a:Touch}(h:A.q0 a):A.hid a.loc:=lz fun hn=>bs6 hn h
theorem cb4 {a:Touch}(h:A.qn a):A.hid a.loc:=by
 rcases h with ⟨x,h1,h2,_⟩ | ⟨x,h1,h2,_⟩ | ⟨h1,_⟩
 ·exact .inl ⟨x,h1,.inl h2⟩
 ·exact .inl ⟨x,h1,.inr h2⟩
 ·exact .inr h1
theorem am2 (hA:Apart A) {said:Bool}{a b:Touch}(h:A.q0 a) (k:A.qn b):¬ a.conflicts said b/\¬ b.conflicts said a:=by
 have key:a.loc=b.loc->(a.write=false/\b.write=false)\/(a.kind≠.plain/\b.kind = .atomic):=fun e=>by
  rcases h with ⟨x,h1,h2,h3,h4⟩ | ⟨x,h1,h2,h3⟩ | ⟨h1,h2⟩<;>rcases k with ⟨y,k1,k2,k3,k4⟩ | ⟨y,k1,k2,k3⟩ | ⟨k1,k2⟩
  ·exact .inl ⟨h3,k3⟩
  ·rw [h1,k1] at e;cases e;exact absurd k2 (hA.bx _ h2)
  ·rw [h1,k1] at e; cases e
  ·rw [h1,k1] at e;cases e;exact absurd h2 (hA.bx _ k2)
  ·exact .inr ⟨h3,k3⟩
  ·rw [h1,k1] at e; cases e
  ·rw [h1,k1] at e; cases e
  ·rw [h1,k1] at e; cases e
  ·exact .inr ⟨by rw [h2]; simp,k2⟩
 refine ⟨fun hc=>?_,fun hc=>?_⟩
 ·rcases key hc.1 with ⟨e1,e2⟩ | ⟨e1,e2⟩
  ·rcases hc.2.2.1 with x | x
   ·rw [e1] at x; cases x
   ·rw [e2] at x; cases x
  ·rcases hc.2.2.2 with x | x | ⟨_,_,x⟩
   ·exact e1 x
   ·rw [e2] at x; cases x
   ·rw [e2] at x; cases x
 ·rcases key hc.1.symm with ⟨e1,e2⟩ | ⟨e1,e2⟩
  ·rcases hc.2.2.1 with x | x
   ·rw [e2] at x; cases x
   ·rw [e1] at x; cases x
  ·rcases hc.2.2.2 with x | x | ⟨_,x,_⟩
   ·rw [e2] at x; cases x
   ·exact e1 x
   ·rw [e2] at x; cases x
theorem aS3 {u:Trace}{i:Nat}{op:MemOp}(hi:u[i]?=some op) (hn:op.act.touch?=none):¬ u.counts i:=by
 rintro ⟨x,hx,_⟩;obtain ⟨op',h1,h2⟩:=touch_of hx;rw [hi] at h1;cases h1;rw [hn] at h2;cases h2
theorem an2 {u:Trace}{i g:Nat}(h:t.g? i=some g):(t++u).g? i=some g:=by
 obtain ⟨op,ho,_⟩:=xg.1 h;rw [g?_old (lt_size_of_getElem? ho)];exact h
theorem au3 {C:Nat->Nat->Prop}{u:Trace}(h:∀ i g,t.g? i=some g->g≠0->t.counts i->(∃ j,t.g? j=some 0/\HappensBefore t i j)\/C i g)
  (hu:∀ i op,t.size<=i->(t++u)[i]?=some op->op.g≠0->(t++u).counts i->C i op.g) :
  ∀ i g,(t++u).g? i=some g->g≠0->(t++u).counts i->(∃ j,(t++u).g? j=some 0/\HappensBefore (t++u) i j)\/C i g:=by
 intro i g hg hne hc;obtain ⟨op,hop,rfl⟩:=xg.1 hg;rcases getElem?_append_cases hop with ⟨hi,hop'⟩ | ⟨hi,_⟩
 ·refine (h i op.g (by simp [Trace.g?,hop']) hne ((counts_old hi).1 hc)).imp (fun ⟨j,hj,hb⟩=>⟨j,an2 hj,hb_app u hb⟩) id
 ·exact .inr (hu i op hi hop hne hc)
theorem TI.mute (h:TI A B t) {u:Trace}(hn:∀ op∈u,op.act.touch?=none) (hr:∀ op∈u,op.act≠.mark (.release (st0 A.Wg))) (hl:∀ op∈u,op.act.low B):TI A B (t++u):=by
 have old:∀ i a,touchAt (t++u) i=some a->touchAt t i=some a/\i<t.size:=fun i a ha=>by
  obtain ⟨x,hx,hxa⟩:=touch_of ha;rcases getElem?_append_cases hx with ⟨hi,hx'⟩ | ⟨_,hxu⟩
  ·exact ⟨by rw [touchAt_of hx']; exact hxa,hi⟩
  ·rw [hn x hxu] at hxa; cases hxa
 refine ⟨fun said=>?_,fun i a ha hm=>?_,fun i a ha hm=>?_,?_,h.norel.app hr,seen_app h.seen hl⟩
 ·rintro ⟨i,j,hij,⟨a,b,ha,hb,hc⟩,n1,n2⟩;obtain ⟨ha',hi⟩:=old i a ha;obtain ⟨hb',hj⟩:=old j b hb;exact h.clean said ⟨i,j,hij,⟨a,b,ha',hb',hc⟩,fun e=>n1 (hb_app u e),fun e=>n2 (hb_app u e)⟩
 ·obtain ⟨ha',hi⟩:=old i a ha;rcases h.k0 i a ha' hm with x | x | ⟨x,y⟩
  ·exact .inl (x.app u)
  ·exact .inr (.inl x)
  ·exact .inr (.inr ⟨an2 x,y⟩)
 ·obtain ⟨ha',hi⟩:=old i a ha;rcases h.kn i a ha' hm with x | x | ⟨x,y⟩
  ·exact .inl (x.app u)
  ·exact .inr (.inl x)
  ·exact .inr (.inr ⟨an2 x,y⟩)
 ·refine au3 h.over fun i op hi hop hne hc=>?_
  rcases getElem?_append_cases hop with ⟨h1,_⟩ | ⟨_,hm⟩
  ·omega
  ·exact absurd hc (aS3 hop (hn op hm))
theorem TI.app0 (hA:Apart A) (h:TI A B t) {B':Nat}(hB:B<=B') {u:Trace}(hg:∀ op∈u,op.g=0) (hu:∀ op∈u,A.ok0 op.act) (hl:∀ op∈u,op.act.low B'):TI A B' (t++u):=by
 refine ⟨fun said=>noRace_append (h.clean said) hg fun i a ha op hop b hb hc=>?_,fun i a ha hm=>?_,fun i a ha hm=>?_,?_,h.norel.app fun op hop=>(hu op hop).2,seen_app (fun op hop=>MemAct.low_mono hB (h.seen op hop)) hl⟩
 ·have hq:=(hu op hop).1 b hb;rcases h.k0 i a ha hc.2.1 with x | ⟨x,y⟩ | ⟨_,x | x⟩
  ·exact x
  ·exact absurd (a71 hq) (by rw [<-hc.1]; exact hA.shun _ x)
  ·exact absurd (a71 hq) (by rw [<-hc.1]; exact x.1)
  ·exact absurd hc (am2 hA hq x).2
 ·obtain ⟨x,hx,hxa⟩:=touch_of ha;rcases getElem?_append_cases hx with ⟨hi,hx'⟩ | ⟨_,hxu⟩
  ·rcases h.k0 i a (by rw [touchAt_of hx']; exact hxa) hm with x | x | ⟨x,y⟩
   ·exact .inl (x.app u)
   ·exact .inr (.inl x)
   ·exact .inr (.inr ⟨an2 x,y⟩)
  ·have:=knows_own hx
   rw [hg x hxu] at this;exact .inl this
 ·obtain ⟨x,hx,hxa⟩:=touch_of ha;rcases getElem?_append_cases hx with ⟨hi,hx'⟩ | ⟨_,hxu⟩
  ·rcases h.kn i a (by rw [touchAt_of hx']; exact hxa) hm with x | x | ⟨x,y⟩
   ·exact .inl (x.app u)
   ·exact .inr (.inl x)
   ·exact .inr (.inr ⟨an2 x,y⟩)
  ·exact .inr (.inr ⟨by simp [Trace.g?,hx,hg x hxu],(hu x hxu).1 a hxa⟩)
 ·refine au3 h.over fun i op hi hop hne hc=>?_
  rcases getElem?_append_cases hop with ⟨h1,_⟩ | ⟨_,hm⟩
  ·omega
  ·exact absurd (hg op hm) hne
theorem TI.appn (hA:Apart A) (h:TI A B t) {B':Nat}(hB:B<=B') {u:Trace}(hg:∀ op∈u,op.g=A.n) (hu:∀ op∈u,A.okn op.act) (hl:∀ op∈u,op.act.low B'):TI A B' (t++u):=by
 refine ⟨fun said=>noRace_append (h.clean said) hg fun i a ha op hop b hb hc=>?_,fun i a ha hm=>?_,fun i a ha hm=>?_,?_,h.norel.app fun op hop=>(hu op hop).2,seen_app (fun op hop=>MemAct.low_mono hB (h.seen op hop)) hl⟩
 ·rcases h.kn i a ha hc.2.1 with x | ⟨x,y⟩ | ⟨_,x⟩
  ·exact x
  ·rcases (hu op hop).1 b hb with ⟨hv,hs⟩ | hv
   ·exfalso;have hs:=hs (hc.1▸x);obtain ⟨_,_,_,hcase⟩:=hc;rw [y] at hcase;rcases hcase with z | z | ⟨_,z,_⟩
    ·cases z
    ·exact hs z
    ·cases z
   ·exact absurd (cb4 hv) (by rw [<-hc.1]; exact hA.shun _ x)
  ·rcases (hu op hop).1 b hb with ⟨hv,_⟩ | hv
   ·exact absurd (a71 x) (by rw [hc.1]; exact hv)
   ·exact absurd hc (am2 hA x hv).1
 ·obtain ⟨x,hx,hxa⟩:=touch_of ha;rcases getElem?_append_cases hx with ⟨hi,hx'⟩ | ⟨_,hxu⟩
  ·rcases h.k0 i a (by rw [touchAt_of hx']; exact hxa) hm with x | x | ⟨x,y⟩
   ·exact .inl (x.app u)
   ·exact .inr (.inl x)
   ·exact .inr (.inr ⟨an2 x,y⟩)
  ·exact .inr (.inr ⟨by simp [Trace.g?,hx,hg x hxu],(hu x hxu).1 a hxa⟩)
 ·obtain ⟨x,hx,hxa⟩:=touch_of ha;rcases getElem?_append_cases hx with ⟨hi,hx'⟩ | ⟨_,hxu⟩
  ·rcases h.kn i a (by rw [touchAt_of hx']; exact hxa) hm with x | x | ⟨x,y⟩
   ·exact .inl (x.app u)
   ·exact .inr (.inl x)
   ·exact .inr (.inr ⟨an2 x,y⟩)
  ·have:=knows_own hx
   rw [hg x hxu] at this;exact .inl this
 ·refine au3 h.over fun i op hi hop hne hc=>?_
  rcases getElem?_append_cases hop with ⟨h1,_⟩ | ⟨_,hm⟩
  ·omega
  ·exact hg op hm
def Area.atWg (A:Area) (x:Touch):Prop:=∃ a,x.loc = .cell a/\a.block=A.Wg/\x.kind = .atomic
structure TJ (A:Area) (B r:Nat) (t:Trace):Prop where
 clean:∀ said,¬ Race said t
 k0:∀ i a,touchAt t i=some a->a.loc.isMemory=true->Knows t 0 i\/(A.Shun a.loc/\a.kind = .atomic)\/(t.g? i=some A.n/\((¬ A.hid a.loc/\(A.Shun a.loc->a.kind≠.plain))\/A.qn a)/\i<r)\/A.atWg a
 kn:∀ i a,touchAt t i=some a->a.loc.isMemory=true->Knows t A.n i\/(A.Shun a.loc/\a.kind = .atomic)\/(t.g? i=some 0/\A.q0 a)
 over:∀ i g,t.g? i=some g->g≠0->t.counts i->(∃ j,t.g? j=some 0/\HappensBefore t i j)\/(g=A.n/\i<r)
 norel:NoRelease (st0 A.Wg) t
 seen:∀ op∈t,op.act.low B
 rel:t.act? r=some (.mark (.releaseMerge (st0 A.Wg)))/\t.g? r=some A.n/\t.heard r
theorem TI.release (h:TI A B t) (hW:A.Wg<B) (hd:Deaf t A.n=0) (fn:FuncId) (pos:String):TJ A B t.size (t++#[{ g:=A.n,fn,pos,act:= .mark (.releaseMerge (st0 A.Wg)) }]):=by
 have k:TI A B (t++#[{ g:=A.n,fn,pos,act:= .mark (.releaseMerge (st0 A.Wg)) }]):=h.mute (fun op hop=>by simp at hop; subst hop; rfl) (fun op hop=>by simp at hop; subst hop; simp) (fun op hop=>by simp at hop; subst hop; exact hW);have hy:(t++#[({ g:=A.n,fn,pos,act:= .mark (.releaseMerge (st0 A.Wg)) }:MemOp)])[t.size]?=some { g:=A.n,fn,pos,act:= .mark (.releaseMerge (st0 A.Wg)) }:=by simp
 have lt:∀ i a,touchAt (t++#[({ g:=A.n,fn,pos,act:= .mark (.releaseMerge (st0 A.Wg)) }:MemOp)]) i=some a->i<t.size:=fun i a ha=>by
  obtain ⟨x,hx,hxa⟩:=touch_of ha;rcases getElem?_append_cases hx with ⟨hi,_⟩ | ⟨_,hxu⟩
  ·exact hi
  ·simp at hxu; subst hxu; cases hxa
 refine ⟨k.clean,fun i a ha hm=>?_,k.kn,fun i g hg hne hc=>?_,k.norel,k.seen,by rw [act?_of hy],by simp [Trace.g?],A.n,by simp [Trace.g?],by rw [deaf_old (lf _)]; exact hd⟩
 ·rcases k.k0 i a ha hm with x | x | ⟨x,y⟩
  ·exact .inl x
  ·exact .inr (.inl x)
  ·exact .inr (.inr (.inl ⟨x,y,lt i a ha⟩))
 ·refine (k.over i g hg hne hc).imp id fun e=>⟨e,?_⟩
  obtain ⟨x,hx,_⟩:=hc;exact lt i x hx
theorem TJ.bf8 {r:Nat}(h:TJ A B r t) (u:Trace):(t++u).act? r=some (.mark (.releaseMerge (st0 A.Wg)))/\(t++u).g? r=some A.n/\(t++u).heard r:=by
 have hr:=lt_of_act? h.rel.1;exact ⟨by rw [act?_old hr]; exact h.rel.1,an2 h.rel.2.1,(heard_old hr).2 h.rel.2.2⟩
theorem TJ.mute {r:Nat}(h:TJ A B r t) {u:Trace}(hn:∀ op∈u,op.act.touch?=none) (hr:∀ op∈u,op.act≠.mark (.release (st0 A.Wg))) (hl:∀ op∈u,op.act.low B):TJ A B r (t++u):=by
 have old:∀ i a,touchAt (t++u) i=some a->touchAt t i=some a/\i<t.size:=fun i a ha=>by
  obtain ⟨x,hx,hxa⟩:=touch_of ha;rcases getElem?_append_cases hx with ⟨hi,hx'⟩ | ⟨_,hxu⟩
  ·exact ⟨by rw [touchAt_of hx']; exact hxa,hi⟩
  ·rw [hn x hxu] at hxa; cases hxa
 refine ⟨fun said=>?_,fun i a ha hm=>?_,fun i a ha hm=>?_,?_,h.norel.app hr,seen_app h.seen hl,h.bf8 u⟩
 ·rintro ⟨i,j,hij,⟨a,b,ha,hb,hc⟩,n1,n2⟩;obtain ⟨ha',hi⟩:=old i a ha;obtain ⟨hb',hj⟩:=old j b hb;exact h.clean said ⟨i,j,hij,⟨a,b,ha',hb',hc⟩,fun e=>n1 (hb_app u e),fun e=>n2 (hb_app u e)⟩
 ·obtain ⟨ha',hi⟩:=old i a ha;rcases h.k0 i a ha' hm with x | x | ⟨x,y⟩ | x
  ·exact .inl (x.app u)
  ·exact .inr (.inl x)
  ·exact .inr (.inr (.inl ⟨an2 x,y⟩))
  ·exact .inr (.inr (.inr x))
 ·obtain ⟨ha',hi⟩:=old i a ha;rcases h.kn i a ha' hm with x | x | ⟨x,y⟩
  ·exact .inl (x.app u)
  ·exact .inr (.inl x)
  ·exact .inr (.inr ⟨an2 x,y⟩)
 ·refine au3 (C:=fun i g=>g=A.n/\i<r) h.over fun i op hi hop hne hc=>?_
  rcases getElem?_append_cases hop with ⟨h1,_⟩ | ⟨_,hm⟩
  ·omega
  ·exact absurd hc (aS3 hop (hn op hm))
theorem TJ.app0 (hA:Apart A) {r:Nat}(h:TJ A B r t) {B':Nat}(hB:B<=B') {u:Trace}(hg:∀ op∈u,op.g=0) (hu:∀ op∈u,A.ok0 op.act) (hl:∀ op∈u,op.act.low B'):TJ A B' r (t++u):=by
 refine ⟨fun said=>noRace_append (h.clean said) hg fun i a ha op hop b hb hc=>?_,fun i a ha hm=>?_,fun i a ha hm=>?_,?_,h.norel.app fun op hop=>(hu op hop).2,seen_app (fun op hop=>MemAct.low_mono hB (h.seen op hop)) hl,h.bf8 u⟩
 ·have hq:=(hu op hop).1 b hb;rcases h.k0 i a ha hc.2.1 with x | ⟨x,y⟩ | ⟨_,x | x,_⟩ | ⟨x,h1,h2,h3⟩
  ·exact x
  ·exact absurd (a71 hq) (by rw [<-hc.1]; exact hA.shun _ x)
  ·exact absurd (a71 hq) (by rw [<-hc.1]; exact x.1)
  ·exact absurd hc (am2 hA hq x).2
  ·exact absurd hc (am2 hA hq (.inr (.inl ⟨x,h1,h2,h3⟩))).2
 ·obtain ⟨x,hx,hxa⟩:=touch_of ha;rcases getElem?_append_cases hx with ⟨hi,hx'⟩ | ⟨_,hxu⟩
  ·rcases h.k0 i a (by rw [touchAt_of hx']; exact hxa) hm with x | x | ⟨x,y⟩ | x
   ·exact .inl (x.app u)
   ·exact .inr (.inl x)
   ·exact .inr (.inr (.inl ⟨an2 x,y⟩))
   ·exact .inr (.inr (.inr x))
  ·have:=knows_own hx
   rw [hg x hxu] at this;exact .inl this
 ·obtain ⟨x,hx,hxa⟩:=touch_of ha;rcases getElem?_append_cases hx with ⟨hi,hx'⟩ | ⟨_,hxu⟩
  ·rcases h.kn i a (by rw [touchAt_of hx']; exact hxa) hm with x | x | ⟨x,y⟩
   ·exact .inl (x.app u)
   ·exact .inr (.inl x)
   ·exact .inr (.inr ⟨an2 x,y⟩)
  ·exact .inr (.inr ⟨by simp [Trace.g?,hx,hg x hxu],(hu x hxu).1 a hxa⟩)
 ·refine au3 (C:=fun i g=>g=A.n/\i<r) h.over fun i op hi hop hne hc=>?_
  rcases getElem?_append_cases hop with ⟨h1,_⟩ | ⟨_,hm⟩
  ·omega
  ·exact absurd (hg op hm) hne
theorem TJ.appn (hA:Apart A) {r:Nat}(h:TJ A B r t) {u:Trace}(hg:∀ op∈u,op.g=A.n) (hu:∀ op∈u,(∀ b,op.act.touch?=some b->A.atWg b)/\op.act≠.mark (.release (st0 A.Wg))) (hl:∀ op∈u,op.act.low B)
  (hc:∀ i,t.size<=i->¬ (t++u).counts i):TJ A B r (t++u):=by
 refine ⟨fun said=>noRace_append (h.clean said) hg fun i a ha op hop b hb hc=>?_,fun i a ha hm=>?_,fun i a ha hm=>?_,?_,h.norel.app fun op hop=>(hu op hop).2,seen_app h.seen hl,h.bf8 u⟩
 ·obtain ⟨y,k1,k2,k3⟩:=(hu op hop).1 b hb;rcases h.kn i a ha hc.2.1 with x | ⟨x,y'⟩ | ⟨_,x⟩
  ·exact x
  ·exact absurd (.inl ⟨y,hc.1.trans k1,.inr k2⟩) (hA.shun _ x)
  ·exact absurd hc (am2 hA x (.inr (.inl ⟨y,k1,k2,k3⟩))).1
 ·obtain ⟨x,hx,hxa⟩:=touch_of ha;rcases getElem?_append_cases hx with ⟨hi,hx'⟩ | ⟨_,hxu⟩
  ·rcases h.k0 i a (by rw [touchAt_of hx']; exact hxa) hm with x | x | ⟨x,y⟩ | x
   ·exact .inl (x.app u)
   ·exact .inr (.inl x)
   ·exact .inr (.inr (.inl ⟨an2 x,y⟩))
   ·exact .inr (.inr (.inr x))
  ·exact .inr (.inr (.inr ((hu x hxu).1 a hxa)))
 ·obtain ⟨x,hx,hxa⟩:=touch_of ha;rcases getElem?_append_cases hx with ⟨hi,hx'⟩ | ⟨_,hxu⟩
  ·rcases h.kn i a (by rw [touchAt_of hx']; exact hxa) hm with x | x | ⟨x,y⟩
   ·exact .inl (x.app u)
   ·exact .inr (.inl x)
   ·exact .inr (.inr ⟨an2 x,y⟩)
  ·have:=knows_own hx
   rw [hg x hxu] at this;exact .inl this
 ·exact au3 (C:=fun i g=>g=A.n/\i<r) h.over fun i op hi _ _ hcc=>absurd hcc (hc i hi)
def Area.bA6 (A:Area) (l:Loc):Prop:=A.Shun l\/∃ a,l = .cell a/\a.block=A.Wg
theorem TJ.acquire {r:Nat}(h:TJ A B r t) (hW:A.Wg<B) (hd:Deaf t 0=0) (fn:FuncId) (pos:String):Past A.bA6 B (t++#[{ g:=0,fn,pos,act:= .mark (.acquire (st0 A.Wg)) }]):=by
 have k:TJ A B r (t++#[{ g:=0,fn,pos,act:= .mark (.acquire (st0 A.Wg)) }]):=h.mute (fun op hop=>by simp at hop; subst hop; rfl) (fun op hop=>by simp at hop; subst hop; simp) (fun op hop=>by simp at hop; subst hop; exact hW);have hr:=lt_of_act? h.rel.1;generalize hu:t++#[({ g:=0,fn,pos,act:= .mark (.acquire (st0 A.Wg)) }:MemOp)]=u at *
 have hy:u[t.size]?=some { g:=0,fn,pos,act:= .mark (.acquire (st0 A.Wg)) }:=by rw [<-hu]; simp
 have hh:u.heard t.size:=⟨0,by simp [Trace.g?,hy],by rw [<-hu,deaf_old (lf _)]; exact hd⟩
 have edge:HappensBefore u r t.size:= .single (.inr ⟨.marked hr (.inr k.rel.1) (by rw [act?_of hy]) (fun q _ _=>k.norel q),k.rel.2.2,hh⟩);have kn:∀ i,u.g? i=some A.n->i<r->HappensBefore u i t.size:=fun i hi hlt=> .trans (.single (.inl ⟨hlt,A.n,hi,k.rel.2.1⟩)) edge
 refine ⟨k.clean,fun i a ha hm=>?_,fun i g hg hne hc=>?_,?_,k.seen⟩
 ·rcases k.k0 i a ha hm with x | ⟨x,y⟩ | ⟨x,_,y⟩ | ⟨x,h1,h2,h3⟩
  ·exact .inl x
  ·exact .inr ⟨.inl x,y⟩
  ·exact .inl ⟨t.size,_,hy,rfl,.inr (kn i x y)⟩
  ·exact .inr ⟨.inr ⟨x,h1,h2⟩,h3⟩
 ·rcases k.over i g hg hne hc with x | ⟨rfl,x⟩
  ·exact x
  ·exact ⟨t.size,by simp [Trace.g?,hy],kn i hg x⟩
 ·rw [<-hu,Deaf_push,hd];rfl
end
end Hid
namespace Hid
open Go.RowKit Go.Conc
open Go.ConcN (sumTo upd sumTo_upd upd_ne upd_same)
structure P0 (A:Area) (B d:Nat) (t:Trace):Prop where
 clean:∀ said,¬ Race said t
 known:∀ i a,touchAt t i=some a->a.loc.isMemory=true->Knows t 0 i\/(A.Shun a.loc/\a.kind = .atomic)
 over:t.HandedOver
 norel:NoRelease (st0 A.Wg) t
 seen:∀ op∈t,op.act.low B
 deaf:Deaf t 0=d
section
variable {A:Area}{B d:Nat}{t:Trace}
theorem bD1 (h:∀ op∈t,op.act.low B) {w:Nat}(hw:B<=w):NoRelease (st0 w) t:=by
 intro i hi;obtain ⟨op,ho,hoa⟩:=xg.1 hi;have:=h op (mem_of_getElem? ho)
 rw [hoa] at this;have hlt:w<B:=this;omega
theorem P0.of (h:Past A.Shun B t) (hw:B<=A.Wg) {B':Nat}(hB:B<=B'):P0 A B' 0 t:=⟨h.clean,h.known,h.over,bD1 h.seen hw,fun op hop=>MemAct.low_mono hB (h.seen op hop),h.hears⟩
def Area.okp (A:Area) (B:Nat) (x:MemAct):Prop:=(∀ b,x.touch?=some b->A.Shun b.loc->b.kind≠.plain)/\x≠.mark (.release (st0 A.Wg))/\x.low B
theorem P0.app (h:P0 A B d t) {B' d':Nat}(hB:B<=B') {u:Trace}(hg:∀ op∈u,op.g=0) (hu:∀ op∈u,A.okp B' op.act) (hd:Deaf (t++u) 0=d'):P0 A B' d' (t++u):=by
 refine ⟨fun said=>noRace_append (h.clean said) hg fun i a ha op hop b hb hc=>?_,fun i a ha hm=>?_,handedOver_app h.over fun op hop=> .inl (hg op hop),h.norel.app fun op hop=>(hu op hop).2.1,seen_app (fun op hop=>MemAct.low_mono hB (h.seen op hop)) fun op hop=>(hu op hop).2.2,hd⟩
 ·rcases h.known i a ha hc.2.1 with hk | ⟨hsa,hka⟩
  ·exact hk
  ·have hkb:=(hu op hop).1 b hb (hc.1▸hsa);obtain ⟨_,_,_,hcase⟩:=hc;rw [hka] at hcase;rcases hcase with x | x | ⟨_,x,_⟩
   ·cases x
   ·exact absurd x hkb
   ·cases x
 ·obtain ⟨x,hx,hxa⟩:=touch_of ha;rcases getElem?_append_cases hx with ⟨_,hx'⟩ | ⟨_,hxu⟩
  ·exact (h.known i a (by rw [touchAt_of hx']; exact hxa) hm).imp (·.app u) id
  ·have:=knows_own hx
   rw [hg x hxu] at this;exact .inl this
theorem P0.mute (h:P0 A B d t) {g:Nat}(hg:g≠0) {fn:FuncId}{pos:String}{es:Array Event}(hm:∀ e∈es,e.mute=true):P0 A B d (t++MemOp.ofEvents g fn pos es):=by
 have hgu:∀ op∈MemOp.ofEvents g fn pos es,op.g=g:=fun op hop=>by obtain ⟨e,_,rfl⟩:=lI hop; rfl
 have hn:∀ op∈MemOp.ofEvents g fn pos es,op.act.touch?=none:=fun op hop=>by obtain ⟨e,he,rfl⟩:=lI hop; exact touch_mute (hm e he)
 refine ⟨fun said=>noRace_append (h.clean said) hgu fun i a _ op hop b hb _=>(by rw [hn op hop] at hb; cases hb),fun i a ha hmm=>?_,handedOver_app h.over fun op hop=> .inr (hn op hop),h.norel.app fun op hop=>?_,seen_app h.seen fun op hop=>?_,(Deaf_other t hg _ hgu).trans h.deaf⟩
 ·obtain ⟨x,hx,hxa⟩:=touch_of ha;rcases getElem?_append_cases hx with ⟨_,hx'⟩ | ⟨_,hxu⟩
  ·exact (h.known i a (by rw [touchAt_of hx']; exact hxa) hmm).imp (·.app _) id
  ·rw [hn x hxu] at hxa; cases hxa
 ·obtain ⟨e,he,rfl⟩:=lI hop;have:=hm e he
  obtain ⟨loc,wr,sy⟩:=e;cases loc with
  | mark m=>cases m<;>simp_all [Event.mute,MemAct.ofEvent]
  | _=>simp [Event.mute] at this
 ·obtain ⟨e,he,rfl⟩:=lI hop;exact low_mute (hm e he) B
theorem P0.fork (hA:Apart A) (h:P0 A B 0 t) (hn:Deaf t A.n=0) (f1 f2:FuncId) (p1 p2:String) :
  TI A B (t++#[{ g:=0,fn:=f1,pos:=p1,act:= .go A.n },{ g:=A.n,fn:=f2,pos:=p2,act:= .start }]):=by
 have k:P0 A B 0 (t++#[{ g:=0,fn:=f1,pos:=p1,act:= .go A.n },{ g:=A.n,fn:=f2,pos:=p2,act:= .start }]):=by
  have e:t++#[({ g:=0,fn:=f1,pos:=p1,act:= .go A.n }:MemOp),{ g:=A.n,fn:=f2,pos:=p2,act:= .start }]=t++#[{ g:=0,fn:=f1,pos:=p1,act:= .go A.n }]++#[{ g:=A.n,fn:=f2,pos:=p2,act:= .start }]:=by rw [Array.append_assoc]; rfl
  have k1:P0 A B 0 (t++#[{ g:=0,fn:=f1,pos:=p1,act:= .go A.n }]):=h.app (lf _) (fun op hop=>by simp at hop; subst hop; rfl) (fun op hop=>by simp at hop; subst hop; exact ⟨fun b hb=>(by cases hb),by simp,trivial⟩) (by rw [Deaf_push,h.deaf]; rfl);rw [e];refine ⟨fun said=>noRace_append (g:=A.n) (k1.clean said) (fun op hop=>(by simp at hop; subst hop; rfl)) fun i a _ op hop b hb _=>(by simp at hop; subst hop; cases hb),fun i a ha hm=>?_,handedOver_app k1.over fun op hop=> .inr (by simp at hop; subst hop; rfl),k1.norel.app fun op hop=>(by simp at hop; subst hop; simp),seen_app k1.seen fun op hop=>(by simp at hop; subst hop; trivial),?_⟩
  ·obtain ⟨x,hx,hxa⟩:=touch_of ha;rcases getElem?_append_cases hx with ⟨_,hx'⟩ | ⟨_,hxu⟩
   ·exact (k1.known i a (by rw [touchAt_of hx']; exact hxa) hm).imp (·.app _) id
   ·simp at hxu; subst hxu; cases hxa
  ·rw [Deaf_push,k1.deaf];rfl
 generalize hu:t++#[({ g:=0,fn:=f1,pos:=p1,act:= .go A.n }:MemOp),{ g:=A.n,fn:=f2,pos:=p2,act:= .start }]=u at *
 have hs:u.size=t.size+2:=by rw [<-hu]; simp
 have h1:u[t.size]?=some { g:=0,fn:=f1,pos:=p1,act:= .go A.n }:=by rw [<-hu]; simp
 have h2:u[t.size+1]?=some { g:=A.n,fn:=f2,pos:=p2,act:= .start }:=by
  rw [<-hu,xl (by omega)];simp
 have d1:u.deaf 0 t.size=0:=by rw [<-hu,deaf_old (lf _)]; exact h.deaf
 have d2:u.deaf A.n (t.size+1)=0:=by
  rw [deaf_succ h1,<-hu,deaf_old (lf _)];exact hn
 have edge:HappensBefore u t.size (t.size+1):= .single (.inr ⟨.spawn (act?_of h1) (act?_of h2) (by simp [Trace.g?,h2]),⟨0,by simp [Trace.g?,h1],d1⟩,A.n,by simp [Trace.g?,h2],d2⟩);have lt:∀ i a,touchAt u i=some a->i<t.size:=fun i a ha=>by
  obtain ⟨x,hx,hxa⟩:=touch_of ha;refine Nat.lt_of_not_le fun hle=>?_
  have hlt:=lt_size_of_getElem? hx;rcases xX t.size i with h3 | h3
  ·obtain rfl:i=t.size+1:=by omega
   rw [h2] at hx; cases hx; cases hxa
  ·obtain rfl:i=t.size:=by omega
   rw [h1] at hx; cases hx; cases hxa
 refine ⟨k.clean,fun i a ha hm=>(k.known i a ha hm).imp id .inl,fun i a ha hm=>?_,fun i g hg hne hc=> .inl (k.over i g hg hne hc),k.norel,k.seen⟩;rcases h.known i a (by rw [<-touchAt_old (u:=#[_,_]) (lt i a ha),hu]; exact ha) hm with x | x
 ·left;have:=x.hb_new (u:=#[{ g:=0,fn:=f1,pos:=p1,act:= .go A.n },{ g:=A.n,fn:=f2,pos:=p2,act:= .start }]) (lf _) (by rw [hu]; exact h1) rfl
  rw [hu] at this;exact ⟨t.size+1,_,h2,rfl,.inr (this.trans edge)⟩
 ·exact .inr (.inl x)
end
section
variable [LoopOK] [Junk] {P:Program}{Post:Value->World->Prop}
def be1 (T:Trace->Prop):Prop:=∀ t g fn pos (es:Array Event),g≠0->(∀ e∈es,e.mute=true)->T t->T (t++MemOp.ofEvents g fn pos es)
theorem aT6 {T:Trace->Prop}(hT:be1 T):∀ (M:Nat) {gs:Array Goroutine}{a:Goroutine}{C:World}{sl:Option (Nat×Nat)}{t:Trace}{q:Nat->Nat},sumTo gs.size q<=M->gs[0]?=some a->a.status = .running->Leavers P t gs q->T t->
  (∀ d gs' sl' t' q',gs'[0]?=some a->gs'.size=gs.size->Leavers P t' gs' q'->T t'->∃ m' ops,runT P (crowd gs' (C.at d) sl') 0=(.next m',ops)/\Wins P Post m' (t'++ops))->Wins P Post (crowd gs C sl) t:=by
 intro M;induction M with
 | zero | succ M ih=>?_
 all_goals
  intro gs a C sl t q hM h0 hrun hL hP hstep;have haw:∀ g∈gs,awake g:=by
   intro g hg;obtain ⟨i,hi,rfl⟩:=xW.1 hg;rcases ug i with rfl | hpos
   ·have:gs[0]=a:=by simpa [lH hi] using h0
    rw [this]; exact awake_of (.inl hrun)
   ·exact awake_of ((hL.old i _ hpos (lH hi)).status.elim .inl fun x=> .inr (.inr x))
  obtain ⟨i,g,d,sl',hi,hg,hst⟩:=crowd_pick (P:=P) (w:=C) (sl:=sl) haw ⟨0,a,h0,hrun⟩;rcases ug i with rfl | hpos
  ·obtain ⟨m',ops,h1,h2⟩:=hstep d gs sl' t q h0 rfl hL hP;exact .step (hst.trans h1) h2
  ·have hq:=hL.old i g hpos hi;have hi0:(i==0)=false:=by simp; omega
   have hlt:i<gs.size:=(lg.1 hi).1;cases hqi:q i with
   | zero=>rw [hqi] at hq; rw [hq.1] at hg; cases hg
   | succ k=>
    rw [hqi] at hq;rcases hq with ⟨hf,_⟩ | ⟨_,g',es,hm,hstp,hq'⟩
    ·rw [hf] at hg; cases hg
    have hsum:sumTo gs.size (upd q i k)+(k+1)=sumTo gs.size q+k:=by
     have:=sumTo_upd q k id hlt
     simpa [hqi] using this
    first
    | (exfalso; omega)
    | (have hrunT:=runT_crowd_go (P:=P) (sl:=sl') (i:=i) hi (by rw [hi0]; exact hstp (C.at d))
       have hsz:((gs.map (woken P g g' (C.at d))).setIfInBounds i g').size=gs.size:=by simp
       refine .step (hst.trans hrunT) (ih (a:=a) (q:=upd q i k) (by rw [hsz]; omega) ?_ hrun ⟨fun j x hj hx=>?_,fun j hj=>?_⟩ (hT _ _ _ _ _ (by omega) hm hP) fun e gs2 sl2 t2 q2 h1 h2 h3 h4=>hstep e gs2 sl2 t2 q2 h1 (h2.trans hsz) h3 h4)
       ·have hne:i≠0:=by omega
        rw [lh hne,lY,h0];simp [woken_run hrun]
       ·by_cases hji:i=j
        ·subst hji;rw [ll (by simpa using hlt)] at hx;obtain rfl:=Option.some.inj hx
         rw [upd_same,Deaf_own];exact hq'
        ·rw [lh hji,lY] at hx;obtain ⟨y,hy,rfl⟩:=xg.1 hx;have hqj:=hL.old j y hj hy;rw [woken_quitsD hqj,upd_ne q k (xy hji),Deaf_other t hji _ (fun op hop=>by obtain ⟨e,_,rfl⟩:=lI hop; rfl)];exact hqj
       ·rw [Deaf_other t (g':=i) (by simp at hj; omega) _ (fun op hop=>by obtain ⟨e,_,rfl⟩:=lI hop; rfl)];exact hL.above j (by simpa using hj))
theorem aO1 {T T':Trace->Prop}(hT:be1 T) {gs:Array Goroutine}{a:Goroutine}{C:World}{sl:Option (Nat×Nat)}{t:Trace}{q:Nat->Nat}(h0:gs[0]?=some a) (hrun:a.status = .running) (hL:Leavers P t gs q) (ht:T t)
  (hstep:∀ d,∃ a' C' es,stepG P true a (C.at d) = .go a' C' es/\(∀ t fn pos,T t->T' (t++MemOp.ofEvents 0 fn pos es))/\
   ∀ gs' sl' t' q',gs'[0]?=some a'->gs'.size=gs.size->Leavers P t' gs' q'->T' t'->Wins P Post (crowd gs' C' sl') t'):Wins P Post (crowd gs C sl) t:=by
 refine aT6 hT (sumTo gs.size q) (lf _) h0 hrun hL ht fun d gs' sl' t' q' h0' hz hL' ht'=>?_
 obtain ⟨a',C',es,hgo,hev,hk⟩:=hstep d;have hlt:0<gs'.size:=(lg.1 h0').1;refine ⟨_,_,runT_crowd_go (P:=P) (sl:=sl') (i:=0) h0' hgo,hk _ _ _ q' (by simp [hlt]) (by simp [hz]) ⟨fun j x hj hx=>?_,fun j hj=>?_⟩ (hev _ _ _ ht')⟩
 ·have hne:0≠j:=by omega
  rw [lh hne,lY] at hx;obtain ⟨y,hy,rfl⟩:=xg.1 hx;have hq:=hL'.old j y hj hy;rw [woken_quitsD hq,Deaf_other t' (by omega) _ (fun op hop=>by obtain ⟨e,_,rfl⟩:=lI hop; rfl)];exact hq
 ·rw [Deaf_other t' (g':=0) (by simp at hj; omega) _ (fun op hop=>by obtain ⟨e,_,rfl⟩:=lI hop; rfl)];exact hL'.above j (by simpa using hj)
theorem an1 {A:Area}{B d:Nat}:be1 (P0 A B d):=fun t g fn pos es hg hm h=>h.mute hg hm
theorem ad4 {S:Loc->Prop}{B:Nat}:be1 (Past S B):=fun t g fn pos es hg hm h=>h.mute hg hm
end
end Hid
namespace Hid
open Go.RowKit Go.Conc
inductive An
 | v (x:Value)
 | o (x:Obj)
 | r (n:Nat)
 | s (x:Option (TypeId×Nat))
 | b (x:Bool)
inductive Did
 | rd (m:Mode) (a:Addr) (v:Value)
 | wr (m:Mode) (a:Addr) (v:Value)
 | mk (m:Mark)
 | nw (o:Obj) (r:Nat)
 | gt (r:Nat) (o:Obj)
 | st (r:Nat) (o:Obj)
 | sh (r:Nat) (x:Option (TypeId×Nat))
 | fz (a:Addr) (x:Bool)
def Did.fits:Did->World->Prop
 | .rd _ a v,w=>w.cell? a=some v
 | .wr _ a v,w=>(∃ u,w.cell? a=some u)/\w.frozen? a=false/\(∀ x,v≠.agg x)/\∀ x,v≠.tuple x
 | .mk _,_=>True
 | .nw _ r,w=>w.heap.size=r
 | .gt r o,w=>w.heap[r]?=some o/\∀ c T f,o≠.cells c T f
 | .st r _,w=>∃ q,w.heap[r]?=some q/\∀ c T f,q≠.cells c T f
 | .sh r x,w=>w.shape? r=x
 | .fz a x,w=>w.frozen? a=x
def Did.w:Did->World->World
 | .rd ..,w | .mk _,w | .gt ..,w | .sh ..,w | .fz ..,w=>w
 | .wr _ a v,w=>w.setCell a v
 | .nw o _,w=>{ w with heap:=w.heap.push o }
 | .st r o,w=>{ w with heap:=w.heap.setIfInBounds r o }
def Did.es:Did->List Event
 | .rd m a _=>[⟨.cell a,false,m== .atomic⟩]
 | .wr m a _=>[⟨.cell a,true,m== .atomic⟩]
 | .mk m=>[⟨.mark m,false,true⟩]
 | .nw .. | .sh .. | .fz ..=>[]
 | .gt r o=>[⟨.obj r,false,o.isChan⟩]
 | .st r o=>[⟨.obj r,true,o.isChan⟩]
def Fits:List Did->World->Prop
 | [],_=>True
 | d::l,w=>d.fits w/\Fits l (d.w w)
def wOf:List Did->World->World
 | [],w=>w
 | d::l,w=>wOf l (d.w w)
def esOf:List Did->List Event
 | []=>[]
 | d::l=>d.es++esOf l
def aQ7 {β:Type}(d:Did) (x:Option (β×List Did)):Option (β×List Did):=match x with | some (b,l)=>some (b,d::l) | none=>none
def runA (P:Program) {α:Type}:Sem α->List An->Option ((α ⊕ Halt)×List Did)
 | .pure a,_=>some (.inl a,[])
 | .halt h,_=>some (.inr h,[])
 | .program k,s=>runA P (k P) s
 | .load m a k,.v x::s=>aQ7 (.rd m a x) (runA P (k x) s)
 | .store m a v k,s=>aQ7 (.wr m a v) (runA P k s)
 | .mark m k,s=>aQ7 (.mk m) (runA P k s)
 | .new o k,.r n::s=>aQ7 (.nw o n) (runA P (k n) s)
 | .getObj r k,.o x::s=>aQ7 (.gt r x) (runA P (k x) s)
 | .setObj r o k,s=>aQ7 (.st r o) (runA P k s)
 | .shape r k,.s x::s=>aQ7 (.sh r x) (runA P (k x) s)
 | .frozen a k,.b x::s=>aQ7 (.fz a x) (runA P (k x) s)
 | _,_=>none
def aq1 {α:Type}:α ⊕ Halt->World->Result α
 | .inl a,w=> .ok a w
 | .inr h,w=> .halt h w
theorem ag2 {β:Type}{d:Did}{x:Option (β×List Did)}{y:β×List Did}(h:aQ7 d x=some y):∃ l,x=some (y.1,l)/\y.2=d::l:=by
 unfold aQ7 at h;split at h
 ·cases h; exact ⟨_,rfl,rfl⟩
 ·cases h
theorem bB4 (es:Array Event) (e:Event) (l:List Event):es.push e++l.toArray=es++(e::l).toArray:=by
 apply Array.toList_inj.1;simp
theorem ao3 {P:Program}{α:Type}{s:Sem α}:∀ {an:List An}{r:α ⊕ Halt}{l:List Did},runA P s an=some (r,l)->∀ {w:World}{es:Array Event},Fits l w->s.runT P w es=(aq1 r (wOf l w),es++(esOf l).toArray):=by
 induction s with
 | pure a=>intro an r l h w es hf; simp only [runA] at h; cases h; simp [Sem.runT,aq1,wOf,esOf]
 | halt h=>intro an r l h w es hf; simp only [runA] at h; cases h; simp [Sem.runT,aq1,wOf,esOf]
 | program k ih=>intro an r l h w es hf; simp only [runA] at h; simp only [Sem.runT]; exact ih _ h hf
 | load m a k ih=>
  intro an r l h w es hf;cases an with
  | nil=>simp only [runA] at h; cases h
  | cons x s=>
   cases x with
   | v x=>
    simp only [runA] at h;obtain ⟨l',h1,rfl⟩:=ag2 h;obtain ⟨h2,h3⟩:=hf;have h2':w.cell? a=some x:=h2;have h3':Fits l' w:=h3;simp only [Sem.runT,h2'];rw [ih x h1 h3',bB4];rfl
   | _=>simp only [runA] at h; cases h
 | store m a v k ih=>
  intro an r l h w es hf;simp only [runA] at h;obtain ⟨l',h1,rfl⟩:=ag2 h;obtain ⟨⟨⟨u,h2⟩,h3,h4,h5⟩,h6⟩:=hf;have e1:(Sem.store m a v k).runT P w es=match w.cell? a with
    | some _ => if w.frozen? a then (.halt (.unsupported (.unsafePointer "a write to bytes that a string shares")) w, es) else k.runT P (w.setCell a v) (es.push ⟨.cell a, true, m == .atomic⟩)
    | none=>match w.farStore P a v (m== .atomic) with
     | .ok (w,touched)=>k.runT P w (es++touched.toArray.map (⟨.cell ·,true,m== .atomic⟩))
     | .error h=>(.halt h w,es):=by
   cases v with
   | agg x=>exact absurd rfl (h4 x)
   | tuple x=>exact absurd rfl (h5 x)
   | _=>rfl
  rw [e1,h2];simp only [h3,lG,xj];have h6':Fits l' (w.setCell a v):=h6;rw [ih h1 h6',bB4];rfl
 | mark m k ih=>
  intro an r l h w es hf;simp only [runA] at h;obtain ⟨l',h1,rfl⟩:=ag2 h;have h3:Fits l' w:=hf.2;simp only [Sem.runT];rw [ih h1 h3,bB4];rfl
 | new o k ih=>
  intro an r l h w es hf;cases an with
  | nil=>simp only [runA] at h; cases h
  | cons x s=>
   cases x with
   | r n=>
    simp only [runA] at h;obtain ⟨l',h1,rfl⟩:=ag2 h;obtain ⟨h2,h3⟩:=hf;have h2':w.heap.size=n:=h2;subst h2';simp only [Sem.runT];have h3':Fits l' { w with heap:=w.heap.push o }:=h3;rw [ih _ h1 h3'];rfl
   | _=>simp only [runA] at h; cases h
 | getObj r0 k ih=>
  intro an r l h w es hf;cases an with
  | nil=>simp only [runA] at h; cases h
  | cons x s=>
   cases x with
   | o x=>
    simp only [runA] at h;obtain ⟨l',h1,rfl⟩:=ag2 h;obtain ⟨⟨h2,h4⟩,h3⟩:=hf;have h3':Fits l' w:=h3;simp only [Sem.runT,h2];cases x with
    | cells c T f=>exact absurd rfl (h4 c T f)
    | _=>rw [ih _ h1 h3',bB4]; rfl
   | _=>simp only [runA] at h; cases h
 | setObj r0 o k ih=>
  intro an r l h w es hf;simp only [runA] at h;obtain ⟨l',h1,rfl⟩:=ag2 h;obtain ⟨⟨q,h2,h4⟩,h3⟩:=hf;have h3':Fits l' { w with heap:=w.heap.setIfInBounds r0 o }:=h3;simp only [Sem.runT,h2];cases q with
  | cells c T f=>exact absurd rfl (h4 c T f)
  | _=>rw [ih h1 h3',bB4]; rfl
 | shape r0 k ih=>
  intro an r l h w es hf;cases an with
  | nil=>simp only [runA] at h; cases h
  | cons x s=>
   cases x with
   | s x=>
    simp only [runA] at h;obtain ⟨l',h1,rfl⟩:=ag2 h;obtain ⟨h2,h3⟩:=hf;have h2':w.shape? r0=x:=h2;have h3':Fits l' w:=h3;simp only [Sem.runT,h2'];exact ih x h1 h3'
   | _=>simp only [runA] at h; cases h
 | frozen r0 k ih=>
  intro an r l h w es hf;cases an with
  | nil=>simp only [runA] at h; cases h
  | cons x s=>
   cases x with
   | b x=>
    simp only [runA] at h;obtain ⟨l',h1,rfl⟩:=ag2 h;obtain ⟨h2,h3⟩:=hf;have h2':w.frozen? r0=x:=h2;have h3':Fits l' w:=h3;simp only [Sem.runT,h2'];exact ih x h1 h3'
   | _=>simp only [runA] at h; cases h
 | _=>intro an r l h; simp only [runA] at h; cases h
inductive SA
 | go (g:Goroutine)
 | still (g:Goroutine)
 | spawn (g c:Goroutine)
 | comm (g:Goroutine) (cs:Array CommCase) (b:Bool) (sh:CommShape)
def SA.step (P:Program) (f:FuncId) (l:List Did) (w:World):SA->GStep
 | .go g=> .go g (wOf l w) (seen P f (esOf l).toArray)
 | .still g=> .go g (wOf l w) #[]
 | .spawn g c=> .spawn g c (wOf l w) (seen P f (esOf l).toArray)
 | .comm g cs b sh=> .comm g cs b sh (wOf l w) (seen P f (esOf l).toArray)
def isNil:Target->Bool
 | .nil=>true
 | _=>false
def bI4 (P:Program) (fr:Frame) (cs:List Frame) (s:Sem Next) (an:List An):Option (SA×List Did):=
 match runA P s an with
 | some (.inl (.value v),l)=>some (.go (G (fr.finish v) cs),l)
 | some (.inl .skip,l)=>some (.go (G (fr.finish undef) cs),l)
 | some (.inl (.enter f args),l)=>some (.go (G (Frame.enter P f args .normal) (fr::cs)),l)
 | some (.inl (.defer d),l)=>some (.go (G (({ fr with defers:=d::fr.defers }:Frame).finish undef) cs),l)
 | some (.inl (.comm cases b sh),l)=>some (.comm (G fr cs) cases b sh,l)
 | some (.inl (.spawn d),l)=>if isNil d.target then none else
   some (.spawn (G (fr.finish undef) cs) (G { (default:Frame) with fn:=P.funcs.size,defers:=[d],mode:= .panicking [goexitEntry] } []),l)
 | some (.inr .blocked,l)=>some (.still { G fr cs with status:= .blocked },l)
 | _=>none
def bs7:CallKind->Bool
 | .early=>false
 | _=>true
theorem bd5 {P:Program}{fr:Frame}{cs:List Frame}{s:Sem Next}{an:List An}{sa:SA}{l:List Did}(h:bI4 P fr cs s an=some (sa,l)) (hk:bs7 fr.kind=true) (hc:∃ ops i rest k,fr.todo = .inRegion ops (i::rest)::k) {w:World}(hf:Fits l w) :
  stepG.apply P true fr cs none s w=sa.step P fr.fn l w:=by
 have hk':(fr.kind==CallKind.early)=false:=by cases hh:fr.kind<;>first | rfl | (rw [hh] at hk; cases hk)
 unfold bI4 at h;cases hr:runA P s an with
 | none=>rw [hr] at h; cases h
 | some y=>
  obtain ⟨r,l'⟩:=y;rw [hr] at h;have hs:∀ {l},runA P s an=some (r,l)->Fits l w->s.runT P w #[]=(aq1 r (wOf l w),(esOf l).toArray):=fun h1 h2=>by
   have:=ao3 h1 h2 (es:=#[])
   simpa using this
  unfold stepG.apply;have fin:∀ v,({ frame:=fr.finish v,callers:=cs,status:= .running,dying:=none }:Goroutine)=G (fr.finish v) cs:=fun _=>rfl
  cases r with
  | inl n=>
   cases n with
   | value v=>simp only at h; cases h; simp only [hs hr hf,aq1,hk',xf,ac9,SA.step]; rfl
   | skip=>simp only at h; cases h; simp only [hs hr hf,aq1,hk',xf,ac9,SA.step]; rfl
   | enter f args=>
    simp only at h; cases h; simp only [hs hr hf,aq1,hk',xf,ac9,SA.step]
    obtain ⟨ops,i,rest,k,hq⟩:=hc;simp only [hq];rfl
   | defer d=>simp only at h; cases h; simp only [hs hr hf,aq1,hk',xf,ac9,SA.step]; rfl
   | comm cases b sh=>simp only at h; cases h; simp only [hs hr hf,aq1,hk',xf,SA.step]; simp [GStep.after,G]
   | spawn d=>
    simp only at h
    by_cases hn:isNil d.target=true
    ·rw [ln hn] at h; cases h
    ·rw [lr hn] at h;cases h;simp only [hs hr hf,aq1,hk',xf,SA.step];obtain ⟨tg,ar⟩:=d;cases tg<;>first | exact absurd rfl hn | simp [GStep.after,G]
   | _=>simp only at h; cases h
  | inr hh=>
   cases hh with
   | blocked=>simp only at h; cases h; simp only [hs hr hf,aq1,hk',xf,SA.step]; simp [GStep.after,seen,G]
   | _=>simp only at h; cases h
def bH4 (P:Program) (fr:Frame) (cs:List Frame) (d:Deferred) (an:List An):Option (SA×List Did):=
 if isNil d.target then none else
 match runA P (invoke d.target d.args) an with
 | some (.inl (.enter f args),l)=>some (.go (G (Frame.enter P f args .deferred) (fr::cs)),l)
 | some (.inl (.value _),l) | some (.inl .skip,l)=>some (.go (G fr cs),l)
 | _=>none
theorem bi5 {P:Program}{fr:Frame}{cs:List Frame}{d:Deferred}{an:List An}{sa:SA}{l:List Did}(h:bH4 P fr cs d an=some (sa,l)) {w:World}(hf:Fits l w):callDeferred P fr cs none d w=sa.step P fr.fn l w:=by
 unfold bH4 at h;split at h
 ·cases h
 ·rename_i hn;cases hr:runA P (invoke d.target d.args) an with
  | none=>rw [hr] at h; cases h
  | some y=>
   obtain ⟨r,l'⟩:=y;rw [hr] at h;have hs:∀ {l},runA P (invoke d.target d.args) an=some (r,l)->Fits l w->(invoke d.target d.args).runT P w #[]=(aq1 r (wOf l w),(esOf l).toArray):=fun h1 h2=>by
    have:=ao3 h1 h2 (es:=#[])
    simpa using this
   unfold callDeferred;rw [lr (by intro hc; apply hn; revert hc; cases d.target<;>simp [isNil])];cases r with
   | inl n=>
    cases n with
    | enter f args=>simp only at h; cases h; simp only [hs hr hf,aq1,ac9,SA.step]; rfl
    | value v=>simp only at h; cases h; simp only [hs hr hf,aq1,ac9,SA.step]; rfl
    | skip=>simp only at h; cases h; simp only [hs hr hf,aq1,ac9,SA.step]; rfl
    | _=>simp only at h; cases h
   | inr hh=>simp only at h; cases h
def aK8:Target->Bool
 | .collected _=>false
 | _=>true
def retA (main:Bool) (fr:Frame) (cs:List Frame) (v:Value):Option SA:=
 match cs with
 | c::rest=>match fr.kind with
  | .normal | .wrapped=>some (.go (G (c.finish v) rest))
  | .deferred=>match c.mode with
   | .panicking _=>if (c.mode matches .panicking ({ recovered:=true,.. }::_)) then none else some (.go (G c rest))
   | _=>some (.go (G c rest))
  | _=>none
 | []=>match fr.kind with
  | .report=>none
  | _=>if main then none else some (.go { frame:=fr,callers:=[],status:= .finished,dying:=none })
def b46 (P:Program) (fr:Frame) (cs:List Frame) (an:List An):Option (SA×List Did):=
 let to (k:List Item):Option (SA×List Did):=some (.go (G { fr with todo:=k } cs),[])
 let leave:Option (SA×List Did):=some (.go (G { fr with mode:= .returning } cs),[])
 match fr.todo with
 | []=>leave
 | .code .ret::_=>leave
 | .code .skip::k | .code (.label _)::k | .inBlock _::k | .inScope _::k=>to k
 | .code (.seq a b)::k=>to (.code a:: .code b::k)
 | .code (.cond c thn els)::k=>match fr.eval c with
  | .bool b=>to (.code (if b then thn else els)::k)
  | _=>none
 | .code (.block id body)::k=>to (.code body:: .inBlock id::k)
 | .code (.loop body)::k | .inLoop body::k=>to (.code body:: .inLoop body::k)
 | .code (.scope body)::k=>to (.code body:: .inScope body::k)
 | .code (.exit id)::k=>match exitTo id k with
  | some k'=>to k'
  | none=>none
 | .code (.region _ ops draw)::k=>if draw then none else to (.inRegion ops (List.range ops.size)::k)
 | .inRegion _ []::k=>to k
 | .inRegion ops (i::_)::_=>
  if ((ops[i]?).map (Region.wanted · (yielded ops fr.tmps))).getD false then
   match fr.oper? with
   | none=>none
   | some o=>bI4 P fr cs (execOp fr.eval o) an
  else some (.go (G (fr.finish undef) cs),[])
 | _=>none
def aW1 (P:Program) (main:Bool) (fr:Frame) (cs:List Frame) (an:List An):Option (SA×List Did):=
 if bs7 fr.kind then
  match fr.mode with
  | .run=>if fr.roundOf.isNone then b46 P fr cs an else none
  | .returning=>match fr.defers with
   | d::ds=>if aK8 d.target then bH4 P { fr with defers:=ds } cs d an else none
   | []=>match P.funcs[fr.fn]? with
    | none=>none
    | some fn=>match runA P (results fn fr.tmps) an with
     | some (.inl v,l)=>match retA main fr cs v with
      | some s=>some (s,l)
      | none=>none
     | _=>none
  | .panicking ch=>match fr.defers with
   | d::ds=>if aK8 d.target then bH4 P { fr with defers:=ds } cs d an else none
   | []=>if fr.catches P then none else match cs with
    | []=>if ch.head?.any (·.goexit) then some (.go { frame:=fr,callers:=[],status:= .finished,dying:=none },[]) else none
    | _=>none
 else none
theorem bk8 (P:Program) (f:FuncId):seen P f (esOf []).toArray = #[]:=rfl
theorem bh1 {P:Program}{main:Bool}{fr:Frame}{cs:List Frame}{an:List An}{sa:SA}{l:List Did}(h:b46 P fr cs an=some (sa,l)) (hk:bs7 fr.kind=true) (hr:fr.roundOf=none) {w:World}(hf:Fits l w) :
  stepG.exec P main true fr cs none w=sa.step P fr.fn l w:=by
 unfold b46 at h;have step1:∀ (g:Goroutine),SA.step P fr.fn [] w (.go g) = .go g w:=fun g=>rfl
 cases hq:fr.todo with
 | nil=>simp only [hq] at h; cases h; simp only [stepG.exec,hq,hr,xf,step1]; rfl
 | cons i k=>
  cases i with
  | inBlock id=>simp only [hq] at h; cases h; simp only [stepG.exec,hq,step1]; rfl
  | inScope b=>simp only [hq] at h; cases h; simp only [stepG.exec,hq,step1]; rfl
  | inLoop b=>simp only [hq] at h; cases h; simp only [stepG.exec,hq,step1]; rfl
  | inRegion ops js=>
   cases js with
   | nil=>simp only [hq] at h; cases h; simp only [stepG.exec,hq,step1]; rfl
   | cons j js=>
    simp only [hq] at h;split at h
    ·rename_i hw;cases ho:fr.oper? with
     | none=>rw [ho] at h; cases h
     | some o=>
      rw [ho] at h;simp only at h
      have e:stepG.exec P main true fr cs none w=stepG.oper P true fr cs none w:=by simp only [stepG.exec,hq,hw,xf]
      have e2:stepG.oper P true fr cs none w=stepG.apply P true fr cs none (execOp fr.eval o) w:=by simp only [stepG.oper,ho,hr]
      rw [e,e2];exact bd5 h hk ⟨_,_,_,_,hq⟩ hf
    ·rename_i hw;cases h;simp only [stepG.exec,hq,hw,step1];rfl
  | code c=>
   cases c with
   | skip=>simp only [hq] at h; cases h; simp only [stepG.exec,hq,step1]; rfl
   | label _=>simp only [hq] at h; cases h; simp only [stepG.exec,hq,step1]; rfl
   | ret=>simp only [hq] at h; cases h; simp only [stepG.exec,hq,hr,xf,step1]; rfl
   | seq a b=>simp only [hq] at h; cases h; simp only [stepG.exec,hq,step1]; rfl
   | block a b=>simp only [hq] at h; cases h; simp only [stepG.exec,hq,step1]; rfl
   | loop b=>simp only [hq] at h; cases h; simp only [stepG.exec,hq,step1]; rfl
   | scope b=>simp only [hq] at h; cases h; simp only [stepG.exec,hq,step1]; rfl
   | cond t a b=>
    simp only [hq] at h;cases hv:fr.eval t with
    | bool v=>rw [hv] at h; simp only at h; cases h; simp only [stepG.exec,hq,hv,step1]; rfl
    | _=>rw [hv] at h; cases h
   | exit id=>
    simp only [hq] at h;cases he:exitTo id k with
    | none=>rw [he] at h; cases h
    | some k'=>rw [he] at h; simp only at h; cases h; simp only [stepG.exec,hq,he,step1]; rfl
   | region id ops draw=>
    simp only [hq] at h;cases draw with
    | true=>cases h
    | false=>cases h; simp only [stepG.exec,hq,step1]; rfl
   | _=>simp only [hq] at h; cases h
  | _=>simp only [hq] at h; cases h
theorem ai0 {P:Program}{main:Bool}{fr:Frame}{cs:List Frame}{an:List An}{sa:SA}{l:List Did}(h:aW1 P main fr cs an=some (sa,l)) {w:World}(hf:Fits l w) :
  stepG P main (G fr cs) w=sa.step P fr.fn l w:=by
 unfold aW1 at h;by_cases hk:bs7 fr.kind=true
 case neg=>rw [lr hk] at h; cases h
 rw [ln hk] at h;have defer:∀ {d ds},fr.mode≠.run->fr.defers=d::ds->(if aK8 d.target then bH4 P { fr with defers:=ds } cs d an else none)=some (sa,l)->stepG P main (G fr cs) w=sa.step P fr.fn l w:=fun {d ds} hm hd h=>by
  by_cases hc:aK8 d.target=true
  case neg=>rw [lr hc] at h; cases h
  rw [ln hc] at h;have e:stepG P main (G fr cs) w=unwind P main fr cs none w:=by
   simp only [stepG,G]
  have e2:unwind P main fr cs none w=callDeferred P { fr with defers:=ds } cs none d w:=by
   unfold unwind;rw [hd];obtain ⟨tg,ar⟩:=d;cases tg<;>first | rfl | (simp [aK8] at hc)
  rw [e,e2];exact bi5 h hf
 cases hm:fr.mode with
 | run=>
  simp only [hm] at h;split at h
  ·rename_i hr;have hr':fr.roundOf=none:=by simpa using hr
   have e:stepG P main (G fr cs) w=stepG.exec P main true fr cs none w:=by simp only [stepG,G,hm]
   rw [e];exact bh1 h hk hr' hf
  ·cases h
 | returning=>
  simp only [hm] at h;cases hd:fr.defers with
  | cons d ds=>rw [hd] at h; rw [<-hm] at h; exact defer (by rw [hm]; simp) hd h
  | nil=>
   rw [hd] at h;simp only at h
   cases hfn:P.funcs[fr.fn]? with
   | none=>rw [hfn] at h; cases h
   | some fn=>
    rw [hfn] at h;simp only at h
    cases hr:runA P (results fn fr.tmps) an with
    | none=>rw [hr] at h; cases h
    | some y=>
     obtain ⟨r,l'⟩:=y;rw [hr] at h;cases r with
     | inr _=>cases h
     | inl v=>
      simp only at h
      cases hret:retA main fr cs v with
      | none=>rw [hret] at h; cases h
      | some s=>
       rw [hret] at h;simp only at h
       cases h;have hs:=ao3 hr hf (es:=#[]);rw [uM] at hs;have e:stepG P main (G fr cs) w=GStep.after (seen P fr.fn (esOf l).toArray) (doReturn P main fr cs none v (wOf l w)):=by
        simp only [stepG,G,hm,unwind,hd,hfn,hs,aq1]
       rw [e];unfold retA at hret;unfold doReturn;cases cs with
       | nil=>
        cases hkk:fr.kind<;>simp only [hkk] at hret ⊢<;>first | cases hret | skip
        all_goals
         cases main
         ·simp at hret;subst hret;simp [GStep.after,SA.step]
         ·simp at hret
       | cons c rest=>
        cases hkk:fr.kind<;>simp only [hkk] at hret ⊢<;>first | (cases hret; simp [GStep.after,SA.step,G]; done) | skip
        ·cases hcm:c.mode with
         | panicking ch=>
          rw [hcm] at hret;cases ch with
          | nil=>simp at hret; subst hret; simp [GStep.after,SA.step,G]
          | cons e ch=>
           obtain ⟨ev,er,eg⟩:=e;cases er
           ·simp at hret; subst hret; simp [GStep.after,SA.step,G]
           ·simp at hret
         | _=>rw [hcm] at hret; simp at hret; subst hret; simp [GStep.after,SA.step,G]
        all_goals cases hret
 | panicking ch=>
  simp only [hm] at h;cases hd:fr.defers with
  | cons d ds=>rw [hd] at h; rw [<-hm] at h; exact defer (by rw [hm]; simp) hd h
  | nil=>
   rw [hd] at h;simp only at h
   split at h
   ·cases h
   ·rename_i hc;cases cs with
    | cons _ _=>cases h
    | nil=>
     simp only at h
     split at h
     ·rename_i hg;cases h;have e:stepG P main (G fr []) w=unwind P main fr [] none w:=by
       simp only [stepG,G,hm]
      rw [e];unfold unwind;simp only [hd,hm];rw [lr hc,ln hg];rfl
     ·cases h
end Hid
namespace Hid
open Go.RowKit Go.Conc
open Go.ConcN (sumTo)
abbrev St:=Frame×List Frame
def toS (g:Goroutine):Option St:=match g.status,g.dying,g.offers with
 | .running,none,none=>some (g.frame,g.callers)
 | _,_,_=>none
theorem bQ8 {g:Goroutine}{s:St}(h:toS g=some s):g=G s.1 s.2:=by
 obtain ⟨fr,cs,st,dy,of⟩:=g;unfold toS at h;split at h
 ·rename_i h1 h2 h3;simp only at h1 h2 h3
  subst h1 h2 h3;cases h;rfl
 ·cases h
def oneG (P:Program) (main:Bool) (s:St) (an:List An):Option (St×List Did):=
 match aW1 P main s.1 s.2 an with
 | some (.go g,l)=>match toS g with
  | some s'=>some (s',l)
  | none=>none
 | _=>none
theorem ab4 {P:Program}{main:Bool}{s s':St}{an:List An}{l:List Did}(h:oneG P main s an=some (s',l)) {w:World}(hf:Fits l w):stepG P main (G s.1 s.2) w = .go (G s'.1 s'.2) (wOf l w) (seen P s.1.fn (esOf l).toArray):=by
 unfold oneG at h;split at h
 ·rename_i g l' hs;split at h
  ·rename_i s1 h1;cases h;rw [ai0 hs hf,bQ8 h1];rfl
  ·cases h
 ·cases h
def addL (f:FuncId) (l:List Did) (x:Option (St×List (FuncId×List Did))):Option (St×List (FuncId×List Did)):=match x with
 | none=>none
 | some (s,r)=>match l with
  | []=>some (s,r)
  | _=>some (s,(f,l)::r)
def runG (P:Program) (main:Bool):Nat->St->List (List An)->Option (St×List (FuncId×List Did))
 | 0,s,_=>some (s,[])
 | n+1,s,ans=>match oneG P main s [] with
  | some (s',l)=>addL s.1.fn l (runG P main n s' ans)
  | none=>match ans with
   | a::ans=>match oneG P main s a with
    | some (s',l)=>addL s.1.fn l (runG P main n s' ans)
    | none=>none
   | []=>none
theorem aI8 {f:FuncId}{l:List Did}{x:Option (St×List (FuncId×List Did))}{y:St×List (FuncId×List Did)}(h:addL f l x=some y):(l=[]/\x=some y)\/(∃ r,x=some (y.1,r)/\y.2=(f,l)::r):=by
 unfold addL at h;split at h
 ·cases h
 ·split at h
  ·cases h; exact .inl ⟨rfl,rfl⟩
  ·cases h; exact .inr ⟨_,rfl,rfl⟩
theorem aI0 {P:Program}{main:Bool}{n:Nat}{s s':St}{ans:List (List An)}{ls:List (FuncId×List Did)}(h:runG P main (n+1) s ans=some (s',ls)) :
  ∃ s1 an l ans' r,oneG P main s an=some (s1,l)/\runG P main n s1 ans'=some (s',r)/\((l=[]/\ls=r)\/ls=(s.1.fn,l)::r):=by
 unfold runG at h;split at h
 ·rename_i s1 l h1;rcases aI8 h with ⟨e,h2⟩ | ⟨r,h2,h3⟩
  ·exact ⟨s1,_,l,_,_,h1,h2,.inl ⟨e,rfl⟩⟩
  ·exact ⟨s1,_,l,_,_,h1,h2,.inr h3⟩
 ·split at h
  ·rename_i a ans';split at h
   ·rename_i s1 l h1;rcases aI8 h with ⟨e,h2⟩ | ⟨r,h2,h3⟩
    ·exact ⟨s1,_,l,_,_,h1,h2,.inl ⟨e,rfl⟩⟩
    ·exact ⟨s1,_,l,_,_,h1,h2,.inr h3⟩
   ·cases h
  ·cases h
variable [LoopOK] [Junk]
section
variable {P:Program}{Post:Value->World->Prop}
def aO8 (P:Program):List (FuncId×List Did)->(Trace->Prop)->World->(World->(Trace->Prop)->Prop)->Prop
 | [],T,w,K=>K w T
 | (f,l)::r,T,w,K=>(∀ d,Fits l (w.at d))/\∃ T',be1 T'/\(∀ t fn pos,T t->T' (t++MemOp.ofEvents 0 fn pos (seen P f (esOf l).toArray)))/\∀ d,aO8 P r T' (wOf l (w.at d)) K
theorem ofEvents_none (g:Nat) (fn:FuncId) (pos:String):MemOp.ofEvents g fn pos #[] = #[]:=rfl
theorem aW7:∀ (n:Nat) {s s':St}{ans:List (List An)}{ls:List (FuncId×List Did)},runG P true n s ans=some (s',ls)->∀ {N:Nat}{T:Trace->Prop}{gs:Array Goroutine}{C:World}{sl:Option (Nat×Nat)}{t:Trace}{q:Nat->Nat},be1 T->gs.size=N->gs[0]?=some (G s.1 s.2)->Leavers P t gs q->T t->
  (∀ d,aO8 P ls T (C.at d) fun C' T'=>∀ d gs' sl' t' q',gs'.size=N->gs'[0]?=some (G s'.1 s'.2)->Leavers P t' gs' q'->T' t'->Wins P Post (crowd gs' (C'.at d) sl') t')->Wins P Post (crowd gs C sl) t:=by
 intro n;induction n with
 | zero=>
  intro s s' ans ls h N T gs C sl t q hT hN h0 hL ht hA;cases h;exact hA C.drawn C.drawn gs sl t q hN h0 hL ht
 | succ n ih=>
  intro s s' ans ls h N T gs C sl t q hT hN h0 hL ht hA;obtain ⟨s1,an,l,ans',r,h1,h2,h3⟩:=aI0 h;rcases h3 with ⟨rfl,rfl⟩ | rfl
  ·refine aO1 (T':=T) hT h0 rfl hL ht fun d=>⟨_,_,_,ab4 h1 (w:=C.at d) trivial,fun t fn pos h=>by simpa [bk8,ofEvents_none] using h,fun gs' sl' t' q' g0 gz hl' hp'=>?_⟩
   exact ih h2 hT (gz.trans hN) g0 hl' hp' fun e=>hA e
  ·have hA':=fun d=>hA d
   obtain ⟨hf,T',hT',hev,hk⟩:=hA C.drawn;refine aO1 (T':=T') hT h0 rfl hL ht fun d=>⟨_,_,_,ab4 h1 (w:=C.at d) (hf d),fun t fn pos h=>hev t fn pos h,fun gs' sl' t' q' g0 gz hl' hp'=>?_⟩
   have hat:∀ (l:List Did) (w:World) (e:Nat),(wOf l w).at e=wOf l (w.at e):=by
    intro l;induction l with
    | nil=>intro w e; rfl
    | cons x l ihl=>intro w e; cases x<;>exact ihl _ e
   exact ih h2 hT' (gz.trans hN) g0 hl' hp' fun e=>by rw [hat]; exact hk e
end
def bQ4:List (FuncId×List Did)->World->Prop
 | [],_=>True
 | (_,l)::r,w=>Fits l w/\bQ4 r (wOf l w)
def wL:List (FuncId×List Did)->World->World
 | [],w=>w
 | (_,l)::r,w=>wL r (wOf l w)
def runR (P:Program) (main:Bool):Nat->St->List (List An)->Option (St×List (FuncId×List Did))
 | 0,s,_=>some (s,[])
 | n+1,s,ans=>match s.1.mode with
  | .run=>match oneG P main s [] with
   | some (s',l)=>addL s.1.fn l (runR P main n s' ans)
   | none=>match ans with
    | a::ans=>match oneG P main s a with
     | some (s',l)=>addL s.1.fn l (runR P main n s' ans)
     | none=>none
    | []=>none
  | _=>none
theorem bL6 {P:Program}{main:Bool}{n:Nat}{s s':St}{ans:List (List An)}{ls:List (FuncId×List Did)}(h:runR P main (n+1) s ans=some (s',ls)) :
  s.1.mode = .run/\∃ s1 an l ans' r,oneG P main s an=some (s1,l)/\runR P main n s1 ans'=some (s',r)/\((l=[]/\ls=r)\/ls=(s.1.fn,l)::r):=by
 unfold runR at h;split at h
 ·rename_i hm;refine ⟨hm,?_⟩;split at h
  ·rename_i s1 l h1;rcases aI8 h with ⟨e,h2⟩ | ⟨r,h2,h3⟩
   ·exact ⟨s1,_,l,_,_,h1,h2,.inl ⟨e,rfl⟩⟩
   ·exact ⟨s1,_,l,_,_,h1,h2,.inr h3⟩
  ·split at h
   ·rename_i a ans';split at h
    ·rename_i s1 l h1;rcases aI8 h with ⟨e,h2⟩ | ⟨r,h2,h3⟩
     ·exact ⟨s1,_,l,_,_,h1,h2,.inl ⟨e,rfl⟩⟩
     ·exact ⟨s1,_,l,_,_,h1,h2,.inr h3⟩
    ·cases h
   ·cases h
 ·cases h
theorem ad7 {p:Program}{f:FuncId}{Q:Value->World->Prop}:∀ (n:Nat) {s s':St}{ans:List (List An)}{ls:List (FuncId×List Did)},runR p true n s ans=some (s',ls)->∀ {L:World},bQ4 ls L->
  Tree p (AtRet p f Q) (G s.1 s.2) L->Tree p (AtRet p f Q) (G s'.1 s'.2) (wL ls L)/\Later p (G s.1 s.2) L (G s'.1 s'.2) (wL ls L):=by
 intro n;induction n with
 | zero=>intro s s' ans ls h L hf ht; cases h; exact ⟨ht,.refl _ _⟩
 | succ n ih=>
  intro s s' ans ls h L hf ht;obtain ⟨hm,s1,an,l,ans',r,h1,h2,h3⟩:=bL6 h;have hfl:Fits l L/\bQ4 r (wOf l L)/\wL ls L=wL r (wOf l L):=by
   rcases h3 with ⟨rfl,rfl⟩ | rfl
   ·exact ⟨trivial,hf,rfl⟩
   ·exact ⟨hf.1,hf.2,rfl⟩
  have e:=ab4 h1 (w:=L) hfl.1;have e':stepG p true (G s.1 s.2) (L.at L.drawn) = .go (G s1.1 s1.2) (wOf l L) (seen p s.1.fn (esOf l).toArray):=e;obtain ⟨k1,k2⟩:=ih h2 hfl.2.1 (ht.adv (as6 hm) e');rw [hfl.2.2];exact ⟨k1,.step e' k2⟩
end Hid
namespace Hid
open Go.RowKit Go.Conc
open Go.ConcN (sumTo upd sumTo_upd upd_ne upd_same)
structure LB (P:Program) (t:Trace) (gs:Array Goroutine) (n:Nat) (q:Nat->Nat):Prop where
 old:∀ i g,0<i->i≠n->gs[i]?=some g->QuitsD P (q i) (Deaf t i) g
 above:∀ j,gs.size<=j->Deaf t j=0
 lt:n<gs.size
 pos:0<n
section
variable {P:Program}{t t':Trace}{gs gs':Array Goroutine}{n:Nat}{q:Nat->Nat}
theorem LB.upd (h:LB P t gs n q) (hs:gs'.size=gs.size) (hg:∀ i g,0<i->i≠n->gs'[i]?=some g->gs[i]?=some g) (hd:∀ i,i≠0->i≠n->Deaf t' i=Deaf t i):LB P t' gs' n q:=by
 have:=h.lt
 have:=h.pos
 exact ⟨fun i g hi hn hx=>by rw [hd i (by omega) hn]; exact h.old i g hi hn (hg i g hi hn hx),fun j hj=>by rw [hd j (by omega) (by omega)]; exact h.above j (by omega),by omega,h.pos⟩
theorem LB.step (h:LB P t gs n q) {k:Nat}(hk:k=0\/k=n) (g g':Goroutine) (w:World) {u:Trace}(hu:∀ op∈u,op.g=0\/op.g=n):LB P (t++u) ((gs.map (woken P g g' w)).setIfInBounds k g') n q:=by
 have h1:=h.lt;have h2:=h.pos;refine h.upd (by simp) (fun i x hi hn hx=>?_) fun i hi hn=>?_
 ·rw [lh (by omega),lY] at hx;obtain ⟨y,hy,rfl⟩:=xg.1 hx;rw [woken_quitsD (h.old i y hi hn hy)];exact hy
 ·obtain ⟨l⟩:=u;rw [Deaf_append];have:∀ (l:List MemOp) (d:Nat),(∀ op∈l,op.g=0\/op.g=n)->l.foldl (deafStep i) d=d:=by
   intro l;induction l with
   | nil=>intro d _; rfl
   | cons y l ih=>
    intro d hl;rw [uJ,ih _ fun op hop=>hl op (by simp [hop])];have hy:=hl y (by simp);have:y.g≠i:=by rcases hy with e | e<;>rw [e]<;>omega
    unfold deafStep;split<;>simp [this]
  exact this l _ fun op hop=>hu op (by simpa using hop)
theorem LB.set (h:LB P t gs n q) (x y:Goroutine) {u:Trace}(hu:∀ op∈u,op.g=0\/op.g=n):LB P (t++u) ((gs.setIfInBounds 0 x).setIfInBounds n y) n q/\LB P (t++u) ((gs.setIfInBounds n y).setIfInBounds 0 x) n q/\LB P (t++u) (gs.setIfInBounds 0 x) n q/\LB P (t++u) (gs.setIfInBounds n y) n q:=by
 have h1:=h.lt;have h2:=h.pos;have hd:∀ i,i≠0->i≠n->Deaf (t++u) i=Deaf t i:=fun i hi hn=>by
  obtain ⟨l⟩:=u;rw [Deaf_append];have:∀ (l:List MemOp) (d:Nat),(∀ op∈l,op.g=0\/op.g=n)->l.foldl (deafStep i) d=d:=by
   intro l;induction l with
   | nil=>intro d _; rfl
   | cons y l ih=>
    intro d hl;rw [uJ,ih _ fun op hop=>hl op (by simp [hop])];have hy:=hl y (by simp);have:y.g≠i:=by rcases hy with e | e<;>rw [e]<;>omega
    unfold deafStep;split<;>simp [this]
  exact this l _ fun op hop=>hu op (by simpa using hop)
 refine ⟨h.upd (by simp) (fun i x hi hn hx=>?_) hd,h.upd (by simp) (fun i x hi hn hx=>?_) hd,h.upd (by simp) (fun i x hi hn hx=>?_) hd,h.upd (by simp) (fun i x hi hn hx=>?_) hd⟩
 ·rw [lh (by omega),lh (by omega)] at hx; exact hx
 ·rw [lh (by omega),lh (by omega)] at hx; exact hx
 ·rw [lh (by omega)] at hx; exact hx
 ·rw [lh (by omega)] at hx; exact hx
end
def FB (bx:Nat->Option Obj) (w:World):Prop:=∀ b o,bx b=some o->w.heap[b]?=some o
def WgS (Wg:Nat) (tW:TypeId) (w:World) (st sm:Int):Prop:=w.heap[Wg]?=some (.cells #[.int .u64 st,.int .u32 sm] tW (0,0))
def ChS (Ch:Nat) (w:World) (cl:Bool):Prop:=∃ s r,w.heap[Ch]?=some (.chan 0 #[] cl s r false)
def KK:Int:=4294967296
inductive Ph
 | opn
 | cls
 | reg
 deriving DecidableEq
def Ev0 (A:Area) (Low:Nat) (e:Event):Prop:=A.ok0 (.ofEvent e)/\(MemAct.ofEvent e).low Low
def WgL (Wg:Nat) (tW:TypeId) (w:World):Prop:=∃ s m,WgS Wg tW w s m
structure Env where
 P:Program
 A:Area
 bx:Nat->Option Obj
 tW:TypeId
 n3:Nat
 Low:Nat
 item:Nat->Value
 PX:Bool->Nat->St->Prop
inductive PS (E:Env):Nat->Ph->Nat->Goroutine->Prop
 | quiet {nx:Nat}{ph:Ph}{d:Nat}{s s1:St}{es:Array Event}(h:∀ w,FB E.bx w->WgL E.A.Wg E.tW w->stepG E.P true (G s.1 s.2) w = .go (G s1.1 s1.2) w es) (he:∀ e∈es,Ev0 E.A E.Low e) (k:PS E nx ph (deafBehind d es) (G s1.1 s1.2)):PS E nx ph d (G s.1 s.2)
 | send {nx:Nat}{s:St}(h:∀ w,FB E.bx w->stepG E.P true (G s.1 s.2) w = .comm (G s.1 s.2) #[scase E.A.Ch (E.item nx) (.tuple #[])] true .send w #[]) (hn:nx<E.n3) (k:PS E (nx+1) .opn 0 (G (s.1.finish undef) s.2)):PS E nx .opn 0 (G s.1 s.2)
 | parked {nx:Nat}{s:St}(hn:nx<E.n3) (k:PS E (nx+1) .opn 0 (G (s.1.finish undef) s.2)):PS E nx .opn 0 (parked (G s.1 s.2) #[scase E.A.Ch (E.item nx) (.tuple #[])] .send)
 | close {s s1:St}{es:Array Event}(h:∀ w s' r',FB E.bx w->w.heap[E.A.Ch]?=some (.chan 0 #[] false s' r' false)->stepG E.P true (G s.1 s.2) w = .go (G s1.1 s1.2) { w with heap:=w.heap.setIfInBounds E.A.Ch (.chan 0 #[] true s' r' false) } es)
   (hm:mayWake E.P (G s.1 s.2)=true) (he:∀ e∈es,Ev0 E.A E.Low e) (hd:deafBehind 0 es=0) (k:PS E E.n3 .cls 0 (G s1.1 s1.2)):PS E E.n3 .opn 0 (G s.1 s.2)
 | w1 {nx d:Nat}{s s1 s0:St}{es:Array Event}(h1:∀ w,FB E.bx w->WgS E.A.Wg E.tW w KK 0->stepG E.P true (G s.1 s.2) w = .go (G s1.1 s1.2) w es) (k1:PS E nx .cls (deafBehind d es) (G s1.1 s1.2))
   (h0:∀ w,FB E.bx w->WgS E.A.Wg E.tW w 0 0->stepG E.P true (G s.1 s.2) w = .go (G s0.1 s0.2) w es) (k0:E.PX true (deafBehind d es) s0) (he:∀ e∈es,Ev0 E.A E.Low e):PS E nx .cls d (G s.1 s.2)
 | w2 {nx d:Nat}{s s1 s0:St}{es es0:Array Event}(h1:∀ w,FB E.bx w->WgS E.A.Wg E.tW w KK 0->stepG E.P true (G s.1 s.2) w = .go (G s1.1 s1.2) (w.setCell ⟨E.A.Wg,0,none⟩ (.int .u64 (KK+1))) es) (k1:PS E nx .reg (deafBehind d es) (G s1.1 s1.2))
   (h0:∀ w,FB E.bx w->WgS E.A.Wg E.tW w 0 0->stepG E.P true (G s.1 s.2) w = .go (G s0.1 s0.2) w es0) (k0:E.PX true (deafBehind d es0) s0) (he:∀ e∈es,Ev0 E.A E.Low e) (he0:∀ e∈es0,Ev0 E.A E.Low e):PS E nx .cls d (G s.1 s.2)
 | w3 {nx d:Nat}{s s1:St}{es:Array Event}(hb:∀ w st,FB E.bx w->WgS E.A.Wg E.tW w st 0->stepG E.P true (G s.1 s.2) w = .go { G s.1 s.2 with status:= .blocked } w #[])
   (hf:∀ w,FB E.bx w->WgS E.A.Wg E.tW w 0 1->stepG E.P true (G s.1 s.2) w = .go (G s1.1 s1.2) (w.setCell ⟨E.A.Wg,1,none⟩ (.int .u32 0)) es) (k:E.PX false (deafBehind d es) s1) (he:∀ e∈es,Ev0 E.A E.Low e):PS E nx .reg d (G s.1 s.2)
 | blk {nx d:Nat}{s:St}(k:PS E nx .reg d (G s.1 s.2)):PS E nx .reg d { G s.1 s.2 with status:= .blocked }
def Ph.cl:Ph->Bool
 | .opn=>false
 | _=>true
def Ph.st:Ph->Int
 | .reg=>KK+1
 | _=>KK
structure TProp (A:Area) (T:Nat->Trace->Prop):Prop where
 app0:∀ B B' t u,T B t->B<=B'->(∀ op∈u,op.g=0)->(∀ op∈u,A.ok0 op.act)->(∀ op∈u,op.act.low B')->T B' (t++u)
 mute:∀ B t u,T B t->(∀ op∈u,op.act.touch?=none)->(∀ op∈u,op.act≠.mark (.release (st0 A.Wg)))->(∀ op∈u,op.act.low B)->T B (t++u)
theorem al1 {A:Area}(hA:Apart A):TProp A (TI A):=⟨fun _ _ _ _ h hB hg hu hl=>h.app0 hA hB hg hu hl,fun _ _ _ h hn hr hl=>h.mute hn hr hl⟩
structure Inv [LoopOK] [Junk] (E:Env) (B0:Nat) (T:Nat->Trace->Prop) (st:Ph->Int) (nx:Nat) (dn:Nat) (b:Goroutine) (L:World) (ph:Ph) (d:Nat) (a:Goroutine) (gs:Array Goroutine) (C:World) (t:Trace) (q:Nat->Nat):Prop where
 g0:gs[0]?=some a
 gn:gs[E.A.n]?=some b
 lb:LB E.P t gs E.A.n q
 wr:WR C L
 old:∀ b:Nat,b<B0->C.heap[b]?=U b L.heap[b]?
 tape:C.tape=L.tape
 low:E.Low<=L.heap.size
 shun:∀ l,E.A.Shun l->∃ a T fz,l = .cell a/\L.heap[a.block]?=some (.cells #[] T fz)
 bx:FB E.bx C
 ch:ChS E.A.Ch C ph.cl
 chL:L.heap[E.A.Ch]?=some (.chan 0 #[] false 0 0 false)
 wg:WgS E.A.Wg E.tW C (st ph) 0
 hidb:∀ b o,E.bx b=some o->∃ T fz,L.heap[b]?=some (.cells #[] T fz)
 hidw:∃ T fz,L.heap[E.A.Wg]?=some (.cells #[] T fz)
 tr:T C.heap.size t
 d0:Deaf t 0=d
 dn:Deaf t E.A.n=dn
 ps:PS E nx ph d a
 cn:ph≠.opn->nx=E.n3
end Hid
namespace Hid
open Go.RowKit Go.Conc
open Go.ConcN (sumTo upd sumTo_upd upd_ne upd_same)
variable [LoopOK] [Junk]
section
variable {E:Env}{B0:Nat}{T:Nat->Trace->Prop}{st:Ph->Int}{nx dn:Nat}{b:Goroutine}{L:World}{Post:Value->World->Prop}
theorem ae1 {g:Nat}{fn:FuncId}{pos:String}{es:Array Event}:∀ op∈MemOp.ofEvents g fn pos es,op.g=g:=fun op hop=>by obtain ⟨e,_,rfl⟩:=lI hop; rfl
theorem ar3 {A:Area}{Low:Nat}{fn:FuncId}{pos:String}{es:Array Event}(he:∀ e∈es,Ev0 A Low e):(∀ op∈MemOp.ofEvents 0 fn pos es,A.ok0 op.act)/\∀ op∈MemOp.ofEvents 0 fn pos es,op.act.low Low:=
 ⟨fun op hop=>by obtain ⟨e,h,rfl⟩:=lI hop; exact (he e h).1,fun op hop=>by obtain ⟨e,h,rfl⟩:=lI hop; exact (he e h).2⟩
theorem FB.at {bx:Nat->Option Obj}{w:World}(h:FB bx w) (d:Nat):FB bx (w.at d):=h
theorem Inv.at {ph:Ph}{d:Nat}{a:Goroutine}{gs:Array Goroutine}{C:World}{t:Trace}{q:Nat->Nat}(h:Inv E B0 T st nx dn b L ph d a gs C t q) (e:Nat):Inv E B0 T st nx dn b (L.at e) ph d a gs (C.at e) t q:=
 ⟨h.g0,h.gn,h.lb,⟨h.wr.os,h.wr.out,h.wr.size,h.wr.blk,h.wr.nv,h.wr.np,h.wr.lp⟩,h.old,h.tape,h.low,h.shun,h.bx,h.ch,h.chL,h.wg,h.hidb,h.hidw,h.tr,h.d0,h.dn,h.ps,h.cn⟩
theorem Inv.atC {ph:Ph}{d:Nat}{a:Goroutine}{gs:Array Goroutine}{C:World}{t:Trace}{q:Nat->Nat}(h:Inv E B0 T st nx dn b L ph d a gs C t q) (e:Nat):Inv E B0 T st nx dn b L ph d a gs (C.at e) t q:=
 ⟨h.g0,h.gn,h.lb,⟨h.wr.os,h.wr.out,h.wr.size,h.wr.blk,h.wr.nv,h.wr.np,h.wr.lp⟩,h.old,h.tape,h.low,h.shun,h.bx,h.ch,h.chL,h.wg,h.hidb,h.hidw,h.tr,h.d0,h.dn,h.ps,h.cn⟩
theorem ba6 (w:World) (r:Nat) (o:Obj) (b:Nat):({ w with heap:=w.heap.setIfInBounds r o }:World).heap[b]?=if b=r/\b<w.heap.size then some o else w.heap[b]?:=by
 show (w.heap.setIfInBounds r o)[b]?=_;by_cases h:b=r
 ·subst h;by_cases hl:b<w.heap.size
  ·rw [ln ⟨rfl,hl⟩,ll hl]
  ·rw [lr (fun hh=>hl hh.2),xO (by simp; omega),xO (by omega)]
 ·rw [lr (fun hh=>h hh.1),lh (fun e=>h e.symm)]
theorem Inv.chan {ph ph':Ph}{d d':Nat}{a a' b':Goroutine}{gs gs':Array Goroutine}{C:World}{t t':Trace}{q:Nat->Nat}{nx' dn':Nat}(h:Inv E B0 T st nx dn b L ph d a gs C t q) (hA:Apart E.A) (hB:∀ b o,E.bx b=some o->E.A.Bx b) (hCW:E.A.Ch≠E.A.Wg) (hCB:E.bx E.A.Ch=none) (hC0:B0<=E.A.Ch)
  {cl:Bool}{s r:Nat}(hcl:cl=ph'.cl) (hst:st ph'=st ph) (h0:gs'[0]?=some a') (hn:gs'[E.A.n]?=some b') (hl:LB E.P t' gs' E.A.n q) (htr:T C.heap.size t') (hd:Deaf t' 0=d') (hdn:Deaf t' E.A.n=dn') (hps:PS E nx' ph' d' a') (hcn:ph'≠.opn->nx'=E.n3) :
  Inv E B0 T st nx' dn' b' L ph' d' a' gs' { C with heap:=C.heap.setIfInBounds E.A.Ch (.chan 0 #[] cl s r false) } t' q:=by
 have hsz:=h.wr.size;obtain ⟨s0,r0,hch⟩:=h.ch;have hlt:E.A.Ch<C.heap.size:=(lg.1 hch).1;have e1:=ba6 C E.A.Ch (.chan 0 #[] cl s r false);have ne:∀ b,b≠E.A.Ch->({ C with heap:=C.heap.setIfInBounds E.A.Ch (.chan 0 #[] cl s r false) }:World).heap[b]?=C.heap[b]?:=fun b hb=>by rw [e1,lr (fun hh=>hb hh.1)]
 refine ⟨h0,hn,hl,⟨h.wr.os,h.wr.out,by simp [hsz],fun b o ho=>?_,h.wr.nv,h.wr.np,h.wr.lp⟩,fun b hb=>?_,h.tape,h.low,h.shun,fun b o hb=>?_,⟨s,r,?_⟩,h.chL,?_,h.hidb,h.hidw,by simpa using htr,hd,hdn,hps,hcn⟩
 ·by_cases hc:b=E.A.Ch
  ·subst hc;refine ⟨_,by rw [e1,ln ⟨rfl,hlt⟩],.inr (.inr ?_)⟩;rw [h.chL] at ho;exact .inl ⟨0,cl,s,r,false,0,0,rfl,(Option.some.inj ho).symm⟩
  ·rw [ne b hc];exact h.wr.blk b o ho
 ·rw [ne b (by omega)];exact h.old b hb
 ·rw [ne b (fun hc=>by subst hc; rw [hCB] at hb; cases hb)];exact h.bx b o hb
 ·rw [e1,ln ⟨rfl,hlt⟩,hcl]
 ·unfold WgS;rw [ne _ (xy hCW),hst];exact h.wg
structure EOK (E:Env) (B0:Nat):Prop where
 ap:Apart E.A
 bx:∀ b o,E.bx b=some o->E.A.Bx b
 bx':∀ b,E.A.Bx b->∃ o,E.bx b=some o
 cw:E.A.Ch≠E.A.Wg
 cb:E.bx E.A.Ch=none
 wb:E.bx E.A.Wg=none
 c0:B0<=E.A.Ch
 w0:B0<=E.A.Wg
 cl:E.A.Ch<E.Low
 wl:E.A.Wg<E.Low
theorem PS.status {ph:Ph}{d:Nat}{a:Goroutine}(h:PS E nx ph d a):a.status = .running\/a.status = .blocked:=by
 cases h<;>first | exact .inl rfl | exact .inr rfl
theorem PS.woken {ph:Ph}{d:Nat}{a:Goroutine}(h:PS E nx ph d a) {w:World}(hc:ChS E.A.Ch w ph.cl) (g g':Goroutine):PS E nx ph d (woken E.P g g' w a):=by
 have run:∀ s:St,Go.Conc.woken E.P g g' w (G s.1 s.2)=G s.1 s.2:=fun s=>woken_run rfl
 cases h with
 | quiet h he k=>rw [run]; exact .quiet h he k
 | send h hn k=>rw [run]; exact .send h hn k
 | close h hm he hd k=>rw [run]; exact .close h hm he hd k
 | w1 h1 k1 h0 k0 he=>rw [run]; exact .w1 h1 k1 h0 k0 he
 | w2 h1 k1 h0 k0 he he0=>rw [run]; exact .w2 h1 k1 h0 k0 he he0
 | w3 hb hf k he=>rw [run]; exact .w3 hb hf k he
 | parked hn k=>
  obtain ⟨s,r,hc⟩:=hc;rw [woken_send_open g g' hc];exact .parked hn k
 | @blk _ _ s k=>
  unfold Go.Conc.woken;split
  ·exact k
  ·exact .blk k
theorem Inv.keep {ph:Ph}{d d':Nat}{a a' b':Goroutine}{gs gs':Array Goroutine}{C:World}{t t':Trace}{q q':Nat->Nat}{dn':Nat}(h:Inv E B0 T st nx dn b L ph d a gs C t q)
  (h0:gs'[0]?=some a') (hn:gs'[E.A.n]?=some b') (hl:LB E.P t' gs' E.A.n q') (htr:T C.heap.size t') (hd:Deaf t' 0=d') (hdn:Deaf t' E.A.n=dn') (hps:PS E nx ph d' a'):Inv E B0 T st nx dn' b' L ph d' a' gs' C t' q':=
 ⟨h0,hn,hl,h.wr,h.old,h.tape,h.low,h.shun,h.bx,h.ch,h.chL,h.wg,h.hidb,h.hidw,htr,hd,hdn,hps,h.cn⟩
theorem Inv.group {ph ph':Ph}{d d':Nat}{a a' b':Goroutine}{gs gs':Array Goroutine}{C:World}{t t':Trace}{q:Nat->Nat}{dn':Nat}{T':Nat->Trace->Prop}{st':Ph->Int}(h:Inv E B0 T st nx dn b L ph d a gs C t q) (hE:EOK E B0) (i:Nat) (v:Value)
  (hcl:ph'.cl=ph.cl) (hw:WgS E.A.Wg E.tW (C.setCell ⟨E.A.Wg,i,none⟩ v) (st' ph') 0) (h0:gs'[0]?=some a') (hn:gs'[E.A.n]?=some b') (hl:LB E.P t' gs' E.A.n q) (htr:T' C.heap.size t') (hd:Deaf t' 0=d') (hdn:Deaf t' E.A.n=dn') (hps:PS E nx ph' d' a') :
  Inv E B0 T' st' nx dn' b' L ph' d' a' gs' (C.setCell ⟨E.A.Wg,i,none⟩ v) t' q:=by
 have ne:∀ b,b≠E.A.Wg->(C.setCell ⟨E.A.Wg,i,none⟩ v).heap[b]?=C.heap[b]?:=fun b hb=>by rw [heap_set,lr hb]
 have hsz:(C.setCell ⟨E.A.Wg,i,none⟩ v).heap.size=C.heap.size:=by simp [World.setCell]
 refine ⟨h0,hn,hl,⟨h.wr.os,h.wr.out,hsz.trans h.wr.size,fun b o ho=>?_,h.wr.nv,h.wr.np,h.wr.lp⟩,fun b hb=>?_,h.tape,h.low,h.shun,fun b o hb=>?_,?_,h.chL,hw,h.hidb,h.hidw,by rw [hsz]; exact htr,hd,hdn,hps,fun hn=>h.cn fun e=>hn ?_⟩
 ·by_cases hc:b=E.A.Wg
  ·subst hc;obtain ⟨T0,fz,hL⟩:=h.hidw;obtain ⟨o',k1,k2⟩:=h.wr.blk _ _ ho;have hC:=h.wg;unfold WgS at hC;rw [hL] at ho;cases ho;rw [hC] at k1;cases k1;rcases k2 with k2 | ⟨T1,c1,k2,k3⟩ | ⟨_,_,_,_,_,_,_,k2,_⟩ | ⟨⟨_,_,k2⟩,_⟩;rotate_left 3
   ·cases k2
   ·cases k2
   ·cases k2;cases k3;exact ⟨_,hw,.inr (.inl ⟨_,_,rfl,rfl⟩)⟩
   ·cases k2
  ·rw [ne b hc];exact h.wr.blk b o ho
 ·rw [ne b (by have:=hE.w0; omega)];exact h.old b hb
 ·rw [ne b (fun hc=>by subst hc; rw [hE.wb] at hb; cases hb)];exact h.bx b o hb
 ·obtain ⟨s,r,hc⟩:=h.ch;exact ⟨s,r,by rw [ne _ hE.cw,hcl]; exact hc⟩
 ·subst e;cases ph'<;>first | rfl | cases hcl
theorem aH2 {Wg:Nat}{tW:TypeId}{w:World}{s m:Int}(h:WgS Wg tW w s m) (v:Int):WgS Wg tW (w.setCell ⟨Wg,0,none⟩ (.int .u64 v)) v m:=by
 unfold WgS at *
 rw [heap_set,ln rfl,h];rfl
theorem bj4 {Wg:Nat}{tW:TypeId}{w:World}{s m:Int}(h:WgS Wg tW w s m) (v:Int):WgS Wg tW (w.setCell ⟨Wg,1,none⟩ (.int .u32 v)) s v:=by
 unfold WgS at *
 rw [heap_set,ln rfl,h];rfl
theorem ao5 {P:Program}{t:Trace}{gs:Array Goroutine}{n:Nat}{q:Nat->Nat}(h:LB P t gs n q) {i k c:Nat}{send:Bool}(hi:(i=0/\k=n)\/(i=n/\k=0)) {x:Goroutine}(hx:gs[k]?=some x) :
  (offersAt x c send=[]->partners (gs.setIfInBounds i ph) c send=[])/\(∀ l,offersAt x c send=l->partners (gs.setIfInBounds i ph) c send=l.map fun m=>(k,m)):=by
 have hpos:=h.pos;have other:∀ (j:Nat) (g:Goroutine),j≠k->(gs.setIfInBounds i ph)[j]?=some g->offersAt g c send=[]:=fun j g hj hg=>by
  rcases getElem?_stand gs i j g hg with ⟨_,rfl⟩ | ⟨hji,hg'⟩
  ·exact offersAt_ph _ _
  ·refine offersAt_of_not_blocked (fun e=>?_) _ _;have:=(h.old j g (by omega) (by omega) hg').status
   rw [e] at this;rcases this with x | x<;>cases x
 have hk:(gs.setIfInBounds i ph)[k]?=some x:=by
  rw [lh (by omega)];exact hx
 refine ⟨fun ho=>partners_nil fun j g hg=>?_,fun l hl=>?_⟩
 ·by_cases hj:j=k
  ·subst hj;rw [hk] at hg;cases hg;exact ho
  ·exact other j g hj hg
 ·rw [partners_one hk fun j g hj hg=>other j g hj hg,hl]
theorem aX4 (g:Nat) (fn:FuncId) (pos:String) (t:Trace):t++MemOp.ofEvents g fn pos #[]=t:=by simp [ofEvents_none]
theorem Inv.ce5 (hE:EOK E B0) (hT:TProp E.A T) {ph:Ph}{d:Nat}{a b':Goroutine}{gs:Array Goroutine}{C:World}{t:Trace}{q:Nat->Nat}(h:Inv E B0 T st nx dn b L ph d a gs C t q) {i:Nat}{g:Goroutine}(h0:0<i) (hn:i≠E.A.n) (hi:gs[i]?=some g) (hg:g.status = .running)
  (hb':∀ g' w',w'.heap=C.heap->woken E.P g g' w' b=b'):∃ g' es k,q i=k+1/\stepG E.P false g C = .go g' C es/\
   Inv E B0 T st nx dn b' L ph d (woken E.P g g' C a) ((gs.map (woken E.P g g' C)).setIfInBounds i g') C (t++MemOp.ofEvents i g.frame.fn g.frame.place es) (upd q i k):=by
 have hq:=h.lb.old i g h0 hn hi;have hlt:i<gs.size:=(lg.1 hi).1;cases hqi:q i with
 | zero=>rw [hqi] at hq; rw [hq.1] at hg; cases hg
 | succ k=>
  rw [hqi] at hq;rcases hq with ⟨hf,_⟩ | ⟨_,g',es,hm,hstp,hq'⟩
  ·rw [hf] at hg; cases hg
  refine ⟨g',es,k,rfl,hstp C,?_⟩;have hpos:=h.lb.pos;have hlt':=h.lb.lt;refine h.keep ?_ ?_ ⟨fun j x hj hjn hx=>?_,fun j hj=>?_,by simp; exact hlt',hpos⟩ (hT.mute _ _ _ h.tr (fun op hop=>?_) (fun op hop=>?_) fun op hop=>?_) ?_ ?_ (h.ps.woken h.ch _ _)
  ·rw [lh (by omega),lY,h.g0];rfl
  ·rw [lh hn,lY,h.gn];exact congrArg some (hb' g' C rfl)
  ·by_cases hji:i=j
   ·subst hji;rw [ll (by simpa using hlt)] at hx;obtain rfl:=Option.some.inj hx
    rw [upd_same,Deaf_own];exact hq'
   ·rw [lh hji,lY] at hx;obtain ⟨y,hy,rfl⟩:=xg.1 hx;have hqj:=h.lb.old j y hj hjn hy;rw [woken_quitsD hqj,upd_ne q k (xy hji),Deaf_other t hji _ ae1];exact hqj
  ·rw [Deaf_other t (g':=i) (by simp at hj; omega) _ ae1];exact h.lb.above j (by simpa using hj)
  ·obtain ⟨e,he,rfl⟩:=lI hop; exact touch_mute (hm e he)
  ·obtain ⟨e,he,rfl⟩:=lI hop;have:=hm e he
   obtain ⟨loc,wr,sy⟩:=e;cases loc with
   | mark m=>cases m<;>simp_all [Event.mute,MemAct.ofEvent]
   | _=>simp [Event.mute] at this
  ·obtain ⟨e,he,rfl⟩:=lI hop; exact low_mute (hm e he) _
  ·rw [Deaf_other t (g':=i) (by omega) _ ae1]; exact h.d0
  ·rw [Deaf_other t (g':=i) hn _ ae1]; exact h.dn
end
end Hid
namespace Hid
open Go.RowKit Go.Conc
open Go.ConcN (sumTo upd sumTo_upd upd_ne upd_same)
variable [LoopOK] [Junk]
section
variable {E:Env}{B0:Nat}{T:Nat->Trace->Prop}{st:Ph->Int}{dn:Nat}{b:Goroutine}{L:World}{Post:Value->World->Prop}
theorem trio (hE:EOK E B0) (hT:TProp E.A T) {nx:Nat}{ph:Ph}{d:Nat}{a:Goroutine}(hab:a.status = .running\/b.status = .running) (hbs:b.status = .running\/∃ cs sh,b=parked b cs sh)
  (hbw:∀ g g' C,ChS E.A.Ch C ph.cl->woken E.P g g' C b=b) {M:Nat}
  (hleaver:∀ a' gs' C' sl' t' q',(a.status = .running->a'.status = .running)->sumTo gs'.size q'<M->Inv E B0 T st nx dn b L ph d a' gs' C' t' q'->Wins E.P Post (crowd gs' C' sl') t')
  (hwork:b.status = .running->∀ gs C sl t q,Inv E B0 T st nx dn b L ph d a gs C t q->∃ m' ops,runT E.P (crowd gs C sl) E.A.n=(.next m',ops)/\Wins E.P Post m' (t++ops))
  (hpar:a.status = .running->∀ gs C sl t q,sumTo gs.size q<=M->Inv E B0 T st nx dn b L ph d a gs C t q->∃ m' ops,runT E.P (crowd gs C sl) 0=(.next m',ops)/\Wins E.P Post m' (t++ops))
  (gs:Array Goroutine) (C:World) (sl:Option (Nat×Nat)) (t:Trace) (q:Nat->Nat) (hM:sumTo gs.size q<=M) (h:Inv E B0 T st nx dn b L ph d a gs C t q):Wins E.P Post (crowd gs C sl) t:=by
 have hpos:=h.lb.pos;have hlt:=h.lb.lt;have hb':b.status = .running\/b.status = .blocked:=hbs.imp id fun ⟨cs,sh,e⟩=>by rw [e]; rfl
 have haw:∀ g∈gs,awake g:=by
  intro g hg;obtain ⟨i,hi,rfl⟩:=xW.1 hg;have e:=lH hi;rcases ug i with rfl | hp
  ·rw [h.g0] at e;cases e;exact awake_of (h.ps.status.imp id .inl)
  ·by_cases hn:i=E.A.n
   ·subst hn;rw [h.gn] at e;obtain rfl:=Option.some.inj e
    exact awake_of (hb'.imp id .inl)
   ·exact awake_of ((h.lb.old i _ hp hn e).status.elim .inl fun x=> .inr (.inr x))
 obtain ⟨i,g,dd,sl',hi,hg,hst⟩:=crowd_pick (P:=E.P) (w:=C) (sl:=sl) haw (by
  rcases hab with ha | hb
  ·exact ⟨0,a,h.g0,ha⟩
  ·exact ⟨E.A.n,b,h.gn,hb⟩)
 rcases ug i with rfl | hp
 ·obtain rfl:g=a:=by rw [h.g0] at hi; exact (Option.some.inj hi).symm
  obtain ⟨m',ops,h1,h2⟩:=hpar hg gs (C.at dd) sl' t q hM (h.atC dd);exact .step (hst.trans h1) h2
 ·by_cases hn:i=E.A.n
  ·subst hn;obtain rfl:g=b:=by rw [h.gn] at hi; exact (Option.some.inj hi).symm
   obtain ⟨m',ops,h1,h2⟩:=hwork hg gs (C.at dd) sl' t q (h.atC dd);exact .step (hst.trans h1) h2
  ·obtain ⟨g',es,k,hq,hgo,hinv⟩:=(h.atC dd).ce5 hE hT hp hn hi hg (b':=b) (fun g' w' hw=>hbw g g' w' (by
    obtain ⟨s,r,hc⟩:=h.ch;exact ⟨s,r,by rw [hw]; exact hc⟩))
   have hi0:(i==0)=false:=by simp; omega
   have hrunT:=runT_crowd_go (P:=E.P) (sl:=sl') (i:=i) hi (by rw [hi0]; exact hgo);have hlti:i<gs.size:=(lg.1 hi).1;refine .step (hst.trans hrunT) (hleaver _ _ _ _ _ _ (fun ha=>?_) ?_ hinv)
   ·rw [woken_run ha]; exact ha
   ·have hsz:((gs.map (woken E.P g g' (C.at dd))).setIfInBounds i g').size=gs.size:=by simp
    rw [hsz];have hsum:sumTo gs.size (upd q i k)+(k+1)=sumTo gs.size q+k:=by
     have:=sumTo_upd q k id hlti
     simpa [hq] using this
    omega
theorem bv8 (hb:b.status = .running) (P:Program) (g g':Goroutine) (C:World):woken P g g' C b=b:=woken_run hb
theorem bl9 (hE:EOK E B0) (hT:TProp E.A T) {nx:Nat}{ph:Ph}{d:Nat}{s:St}{es:Array Event}(hbw:∀ g g' C,ChS E.A.Ch C ph.cl->woken E.P g g' C b=b) {gs:Array Goroutine}{C:World}{sl:Option (Nat×Nat)}{t:Trace}{q:Nat->Nat}(h:Inv E B0 T st nx dn b L ph d (G s.1 s.2) gs C t q)
  {a':Goroutine}(hs:stepG E.P true (G s.1 s.2) C = .go a' C es) (he:∀ e∈es,Ev0 E.A E.Low e) (k:PS E nx ph (deafBehind d es) a') :
  ∃ gs',runT E.P (crowd gs C sl) 0=(.next (crowd gs' C sl),MemOp.ofEvents 0 s.1.fn s.1.place es)/\gs'.size=gs.size/\Inv E B0 T st nx dn b L ph (deafBehind d es) a' gs' C (t++MemOp.ofEvents 0 s.1.fn s.1.place es) q:=by
 have hpos:=h.lb.pos;have hlt:=h.lb.lt;refine ⟨_,runT_crowd_go (P:=E.P) (sl:=sl) (i:=0) h.g0 (by exact hs),by simp,h.keep ?_ ?_ (h.lb.step (.inl rfl) _ _ _ fun op hop=> .inl (ae1 op hop)) (hT.app0 _ _ _ _ h.tr (lf _) ae1 (ar3 he).1 fun op hop=>MemAct.low_mono (by rw [h.wr.size]; exact h.low) ((ar3 he).2 op hop)) ?_ ?_ k⟩
 ·rw [ll (by simp; omega)]
 ·rw [lh (by omega),lY,h.gn];exact congrArg some (hbw _ _ _ h.ch)
 ·rw [Deaf_own,h.d0]
 ·rw [Deaf_other t (g':=0) (by omega) _ ae1]; exact h.dn
theorem E1 (hE:EOK E B0) (hT:TProp E.A T) (hb:b.status = .running) {R:Ph->Prop}(hR1:R .opn->R .cls) (hR2:R .cls->R .reg) (hRs:∀ ph,R ph->st=Ph.st\/ph = .reg):∀ (M:Nat) {nx:Nat}{ph:Ph}{d:Nat}{a:Goroutine},PS E nx ph d a->R ph->
  (∀ ph d a gs C sl t q,Inv E B0 T st nx dn b L ph d a gs C t q->R ph->∃ m' ops,runT E.P (crowd gs C sl) E.A.n=(.next m',ops)/\Wins E.P Post m' (t++ops))->
  ∀ gs C sl t q,sumTo gs.size q<=M->Inv E B0 T st nx dn b L ph d a gs C t q->Wins E.P Post (crowd gs C sl) t:=by
 intro M;induction M using Nat.strongRecOn with
 | _ M ih=>
  intro nx ph d a hps;have hbw:∀ (cl:Bool) (g g':Goroutine) (C:World),ChS E.A.Ch C cl->woken E.P g g' C b=b:=fun _ g g' C _=>bv8 hb _ g g' C
  have go:∀ {nx:Nat}{ph:Ph}{d:Nat}{a:Goroutine},R ph->(∀ ph d a gs C sl t q,Inv E B0 T st nx dn b L ph d a gs C t q->R ph->∃ m' ops,runT E.P (crowd gs C sl) E.A.n=(.next m',ops)/\Wins E.P Post m' (t++ops))->
    (a.status = .running->∀ gs C sl t q,sumTo gs.size q<=M->Inv E B0 T st nx dn b L ph d a gs C t q->∃ m' ops,runT E.P (crowd gs C sl) 0=(.next m',ops)/\Wins E.P Post m' (t++ops))->
    ∀ gs C sl t q,sumTo gs.size q<=M->Inv E B0 T st nx dn b L ph d a gs C t q->Wins E.P Post (crowd gs C sl) t:=fun hph HW hpar gs C sl t q hM hinv=>
   trio hE hT (.inr hb) (.inl hb) (fun g g' C h=>hbw _ g g' C h) (fun a' gs' C' sl' t' q' _ hlt hinv'=>ih _ hlt hinv'.ps hph HW gs' C' sl' t' q' (lf _) hinv') (fun _ gs C sl t q hi=>HW _ _ _ gs C sl t q hi hph) hpar gs C sl t q hM hinv
  have blocked:∀ {nx:Nat}{ph:Ph}{d:Nat}{a:Goroutine},a.status = .blocked->R ph->(∀ ph d a gs C sl t q,Inv E B0 T st nx dn b L ph d a gs C t q->R ph->∃ m' ops,runT E.P (crowd gs C sl) E.A.n=(.next m',ops)/\Wins E.P Post m' (t++ops))->
    ∀ gs C sl t q,sumTo gs.size q<=M->Inv E B0 T st nx dn b L ph d a gs C t q->Wins E.P Post (crowd gs C sl) t:=fun ha hph HW=>go hph HW fun hr=>by rw [ha] at hr; cases hr
  induction hps with
  | @quiet nx ph d s s1 es h he k ihk=>
   intro hph HW;refine go hph HW fun _ gs C sl t q hM hinv=>?_
   obtain ⟨gs',h1,hz,h2⟩:=bl9 hE hT (fun g g' C h=>hbw _ g g' C h) hinv (sl:=sl) (h C hinv.bx ⟨_,_,hinv.wg⟩) he k;exact ⟨_,_,h1,ihk hph HW gs' C sl _ q (by rw [hz]; exact hM) h2⟩
  | @send nx s h hn k _=>
   intro hph HW;refine go hph HW fun _ gs C sl t q hM hinv=>?_
   obtain ⟨s',r',hc⟩:=hinv.ch;have hpos:=hinv.lb.pos;have hlt:=hinv.lb.lt;have hp:=(ao5 hinv.lb (i:=0) (k:=E.A.n) (c:=E.A.Ch) (send:=false) (.inl ⟨rfl,rfl⟩) hinv.gn).1 (offersAt_of_not_blocked (by rw [hb]; simp) _ _);have hw:=crowd_waits (P:=E.P) (sl:=sl) (i:=0) hinv.g0 (by exact h C hinv.bx) (fun cc hcc=>by
    simp at hcc;subst hcc;exact ways_send_none hc (lE _) hp)
   refine ⟨_,_,hw,?_⟩;rw [aX4];refine blocked (a:=parked (G s.1 s.2) #[scase E.A.Ch (E.item nx) (.tuple #[])] .send) rfl hph HW _ C sl t q (by simpa using hM) (hinv.keep ?_ ?_ ?_ hinv.tr hinv.d0 hinv.dn (.parked hn k))
   ·rw [ll (by omega)]
   ·rw [lh (by omega)]; exact hinv.gn
   ·have:=(hinv.lb.set (parked (G s.1 s.2) #[scase E.A.Ch (E.item nx) (.tuple #[])] .send) b (u:=#[]) (by simp)).2.2.1
    simpa using this
  | parked hn k _=>intro hph HW; exact blocked rfl hph HW
  | @close s s1 es h hm he hd k ihk=>
   intro hph HW;refine go hph HW fun _ gs C sl t q hM hinv=>?_
   obtain ⟨s',r',hc⟩:=hinv.ch;have hpos:=hinv.lb.pos;have hlt:=hinv.lb.lt;have hst:st=Ph.st:=(hRs _ hph).elim id fun e=>by cases e
   refine ⟨_,_,runT_crowd_go (P:=E.P) (sl:=sl) (i:=0) hinv.g0 (by exact h C s' r' hinv.bx hc),ihk (hR1 hph) HW _ _ sl _ q (by simpa using hM) (hinv.chan hE.ap hE.bx hE.cw hE.cb hE.c0 (ph':= .cls) rfl (by rw [hst]; rfl) ?_ ?_ (hinv.lb.step (.inl rfl) _ _ _ fun op hop=> .inl (ae1 op hop)) (hT.app0 _ _ _ _ hinv.tr (lf _) ae1 (ar3 he).1 fun op hop=>MemAct.low_mono (by rw [hinv.wr.size]; exact hinv.low) ((ar3 he).2 op hop)) ?_ ?_ k ?_)⟩
   ·rw [ll (by simp; omega)]
   ·rw [lh (by omega),lY,hinv.gn];exact congrArg some (bv8 hb _ _ _ _)
   ·rw [Deaf_own,hinv.d0]; exact hd
   ·rw [Deaf_other t (g':=0) (by omega) _ ae1]; exact hinv.dn
   ·intro _; rfl
  | @w1 nx d s s1 s0 es h1 k1 h0 k0 he ihk=>
   intro hph HW;refine go hph HW fun _ gs C sl t q hM hinv=>?_
   have hst:st=Ph.st:=(hRs _ hph).elim id fun e=>by cases e
   have hw:WgS E.A.Wg E.tW C KK 0:=by have:=hinv.wg; rw [hst] at this; exact this
   obtain ⟨gs',h2,hz,h3⟩:=bl9 hE hT (fun g g' C h=>hbw _ g g' C h) hinv (sl:=sl) (h1 C hinv.bx hw) he k1;exact ⟨_,_,h2,ihk hph HW gs' C sl _ q (by rw [hz]; exact hM) h3⟩
  | @w2 nx d s s1 s0 es es0 h1 k1 h0 k0 he he0 ihk=>
   intro hph HW;refine go hph HW fun _ gs C sl t q hM hinv=>?_
   have hpos:=hinv.lb.pos;have hlt:=hinv.lb.lt;have hst:st=Ph.st:=(hRs _ hph).elim id fun e=>by cases e
   have hw:WgS E.A.Wg E.tW C KK 0:=by have:=hinv.wg; rw [hst] at this; exact this
   refine ⟨_,_,runT_crowd_go (P:=E.P) (sl:=sl) (i:=0) hinv.g0 (by exact h1 C hinv.bx hw),ihk (hR2 hph) HW _ _ sl _ q (by simpa using hM) (hinv.group hE 0 _ (ph':= .reg) rfl (by rw [hst]; exact aH2 hw _) ?_ ?_ (hinv.lb.step (.inl rfl) _ _ _ fun op hop=> .inl (ae1 op hop)) (hT.app0 _ _ _ _ hinv.tr (lf _) ae1 (ar3 he).1 fun op hop=>MemAct.low_mono (by rw [hinv.wr.size]; exact hinv.low) ((ar3 he).2 op hop)) ?_ ?_ k1)⟩
   ·rw [ll (by simp; omega)]
   ·rw [lh (by omega),lY,hinv.gn];exact congrArg some (bv8 hb _ _ _ _)
   ·rw [Deaf_own,hinv.d0]
   ·rw [Deaf_other t (g':=0) (by omega) _ ae1]; exact hinv.dn
  | @w3 nx d s s1 es hbk hf k he=>
   intro hph HW;refine go hph HW fun _ gs C sl t q hM hinv=>?_
   have hk:PS E nx .reg (deafBehind d #[]) { G s.1 s.2 with status:= .blocked }:= .blk (.w3 hbk hf k he);obtain ⟨gs',h2,hz,h3⟩:=bl9 hE hT (fun g g' C h=>hbw _ g g' C h) hinv (sl:=sl) (hbk C _ hinv.bx hinv.wg) (by simp) hk;exact ⟨_,_,h2,blocked rfl hph HW gs' C sl _ q (by rw [hz]; exact hM) h3⟩
  | blk k _=>intro hph HW; exact blocked rfl hph HW
end
end Hid
namespace Hid
open Go.RowKit Go.Conc
open Go.ConcN (sumTo upd sumTo_upd upd_ne upd_same)
def EvF (L:World) (e:Event):Prop:=match e.loc with
 | .cell a=>∃ c T fz,L.heap[a.block]?=some (.cells c T fz)/\a.off<c.size
 | .obj r=>∃ o,L.heap[r]?=some o/\(∀ c T fz,o≠.cells c T fz)/\e.write=false/\e.sync=o.isChan
 | .mark .noRoom=>True
 | _=>False
structure OutF [Junk] (ok:Loop->Prop) (C L C' L':World) (es:Array Event):Prop where
 os:C'.os=L'.os
 out:C'.output=L'.output
 size:C'.heap.size=L'.heap.size
 blk:∀ (b:Nat) (o:Obj),L'.heap[b]?=some o->∃ o':Obj,C'.heap[b]?=some o'/\ObR o' o
 nv:∀ (b:Nat) (a:Addr) (u:TypeId),L'.heap[b]?=some (.view a u)->a.block=b/\Junk.G<=b
 np:∀ (b:Nat) (c:Array Value) (u:TypeId),L'.heap[b]?≠some (.pending c u)
 lp:∀ (b:Nat) (r:Loop),L'.heap[b]?=some (.loop r)->ok r
 szl:L.heap.size<=L'.heap.size
 row:∀ (b:Nat) c T fz,L.heap[b]?=some (Obj.cells c T fz)->∃ c' fz',L'.heap[b]?=some (.cells c' T fz')/\c'.size=c.size
 tc:C'.tape=C.tape
 tl:L'.tape=L.tape
 dr:L.drawn<=L'.drawn/\C'.drawn=C.drawn+(L'.drawn-L.drawn)
 heq:∀ b:Nat,C.heap[b]?=L.heap[b]?->C'.heap[b]?=L'.heap[b]?
 old:∀ b:Nat,C.heap[b]?=U b L.heap[b]?->C'.heap[b]?=U b L'.heap[b]?
 hid:∀ (b:Nat) T fz,L.heap[b]?=some (.cells #[] T fz)->C'.heap[b]?=C.heap[b]?
 obj:∀ (b:Nat) o,L.heap[b]?=some o->(∀ c T fz,o≠.cells c T fz)->L'.heap[b]?=some o/\C'.heap[b]?=C.heap[b]?
 evs:∀ e∈es,EvF L' e
theorem OutF.of [LoopOK] [Junk] (hs:¬ LoopOK.set) {C L C' L':World}{es:Array Event}(h:Out C L C' L' #[] es):OutF LoopOK.ok C L C' L' es:=by
 refine ⟨h.wr.os,h.wr.out,h.wr.size,h.wr.blk,h.wr.nv,h.wr.np,h.wr.lp,h.stay.size,h.stay.row,h.tc,h.tl,h.dr,h.heq,h.old,h.hid,h.obj hs,fun e he=>?_⟩;obtain ⟨ns,e1,hns⟩:=h.evs;have hev:=hns e (by rw [e1] at he; simpa using he);obtain ⟨loc,wr,sy⟩:=e;cases loc with
 | cell ad=>exact hev
 | obj r=>
  obtain ⟨o,h1,h2,h3⟩:=hev;exact ⟨o,h1,h2,h3 hs⟩
 | mark m=>cases m<;>first | exact hev.elim | trivial
 | output=>exact hev.elim
 | goroutines=>exact hev.elim
variable [inst:LoopOK] [Junk]
def WW (E:Env) (B0:Nat) (T:Nat->Trace->Prop) (st:Ph->Int) (R:Ph->Prop) (nx dn:Nat) (b:Goroutine) (L:World) (Post:Value->World->Prop):Prop:=
 ∀ ph d a gs C sl t q,Inv E B0 T st nx dn b L ph d a gs C t q->R ph->Wins E.P Post (crowd gs C sl) t
structure RP (st:Ph->Int) (R:Ph->Prop):Prop where
 r1:R .opn->R .cls
 r2:R .cls->R .reg
 rs:∀ ph,R ph->st=Ph.st\/ph = .reg
section
variable {E:Env}{B0:Nat}{T:Nat->Trace->Prop}{st:Ph->Int}{R:Ph->Prop}{nx dn:Nat}{b:Goroutine}{L:World}{Post:Value->World->Prop}
theorem WW.of (hE:EOK E B0) (hT:TProp E.A T) (hR:RP st R) (hb:b.status = .running)
  (HW:∀ ph d a gs C sl t q,Inv E B0 T st nx dn b L ph d a gs C t q->R ph->∃ m' ops,runT E.P (crowd gs C sl) E.A.n=(.next m',ops)/\Wins E.P Post m' (t++ops)):WW E B0 T st R nx dn b L Post:=
 fun ph d a gs C sl t q h hr=>E1 hE hT hb hR.r1 hR.r2 hR.rs (sumTo gs.size q) h.ps hr HW gs C sl t q (lf _) h
theorem ax8 {ph:Ph}{d:Nat}{a b':Goroutine}{gs:Array Goroutine}{C C':World}{sl:Option (Nat×Nat)}{t:Trace}{q:Nat->Nat}{es:Array Event}(h:Inv E B0 T st nx dn b L ph d a gs C t q) (hs:stepG E.P false b C = .go b' C' es) :
  ∃ gs',runT E.P (crowd gs C sl) E.A.n=(.next (crowd gs' C' sl),MemOp.ofEvents E.A.n b.frame.fn b.frame.place es)/\gs'.size=gs.size/\gs'[0]?=some (woken E.P b b' C' a)/\gs'[E.A.n]?=some b'/\LB E.P (t++MemOp.ofEvents E.A.n b.frame.fn b.frame.place es) gs' E.A.n q/\
   Deaf (t++MemOp.ofEvents E.A.n b.frame.fn b.frame.place es) 0=d/\Deaf (t++MemOp.ofEvents E.A.n b.frame.fn b.frame.place es) E.A.n=deafBehind dn es:=by
 have hpos:=h.lb.pos;have hlt:=h.lb.lt;have hi0:(E.A.n==0)=false:=by simp; omega
 refine ⟨_,runT_crowd_go (P:=E.P) (sl:=sl) (i:=E.A.n) h.gn (by rw [hi0]; exact hs),by simp,?_,?_,h.lb.step (.inr rfl) _ _ _ fun op hop=> .inr (ae1 op hop),?_,?_⟩
 ·rw [lh (by omega),lY,h.g0];rfl
 ·rw [ll (by simpa using hlt)]
 ·rw [Deaf_other t (g':=E.A.n) (by omega) _ ae1]; exact h.d0
 ·rw [Deaf_own,h.dn]
def Evn (A:Area) (Low:Nat) (e:Event):Prop:=A.okn (.ofEvent e)/\(MemAct.ofEvent e).low Low
theorem bn6 {A:Area}{g Low:Nat}{fn:FuncId}{pos:String}{es:Array Event}(he:∀ e∈es,Evn A Low e):(∀ op∈MemOp.ofEvents g fn pos es,A.okn op.act)/\∀ op∈MemOp.ofEvents g fn pos es,op.act.low Low:=
 ⟨fun op hop=>by obtain ⟨e,h,rfl⟩:=lI hop; exact (he e h).1,fun op hop=>by obtain ⟨e,h,rfl⟩:=lI hop; exact (he e h).2⟩
theorem WW.still (hE:EOK E B0) (hT:TProp E.A T) (hR:RP st R) {s s1:St}{es:Array Event}{T':Nat->Trace->Prop}(h:∀ C ph,R ph->FB E.bx C->WR C L->WgS E.A.Wg E.tW C (st ph) 0->stepG E.P false (G s.1 s.2) C = .go (G s1.1 s1.2) C es)
  (htr:∀ B t fn pos,E.Low<=B->L.heap.size=B->T B t->Deaf t E.A.n=dn->T' B (t++MemOp.ofEvents E.A.n fn pos es)) (k:WW E B0 T' st R nx (deafBehind dn es) (G s1.1 s1.2) L Post):WW E B0 T st R nx dn (G s.1 s.2) L Post:=by
 refine .of hE hT hR rfl fun ph d a gs C sl t q hinv hr=>?_
 obtain ⟨gs',h1,hz,h2,h3,h4,h5,h6⟩:=ax8 (sl:=sl) hinv (h C ph hr hinv.bx hinv.wr hinv.wg);refine ⟨_,_,h1,k ph d _ gs' C sl _ q ⟨h2,h3,h4,hinv.wr,hinv.old,hinv.tape,hinv.low,hinv.shun,hinv.bx,hinv.ch,hinv.chL,hinv.wg,hinv.hidb,hinv.hidw,?_,h5,h6,hinv.ps.woken hinv.ch _ _,hinv.cn⟩ hr⟩;exact htr _ _ _ _ (by rw [hinv.wr.size]; exact hinv.low) hinv.wr.size.symm hinv.tr hinv.dn
theorem aV0 (hE:EOK E B0) {es:Array Event}(he:∀ e∈es,Evn E.A L.heap.size e):∀ B t fn pos,E.Low<=B->L.heap.size=B->TI E.A B t->Deaf t E.A.n=dn->TI E.A B (t++MemOp.ofEvents E.A.n fn pos es):=
 fun B t fn pos hB hL h _=>h.appn hE.ap (lf _) ae1 (bn6 he).1 fun op hop=>hL▸(bn6 he).2 op hop
def QAll (E:Env) (L:World):List (FuncId×List Did)->Prop
 | []=>True
 | (f,l)::r=>(∀ C,FB E.bx C->WR C L->WgL E.A.Wg E.tW C->Fits l C/\wOf l C=C)/\(∀ e∈seen E.P f (esOf l).toArray,Evn E.A L.heap.size e/\e.loc≠.mark .disable/\e.loc≠.mark .enable)/\QAll E L r
theorem WW.run (hE:EOK E B0) (hR:RP st R):∀ (n:Nat) {s s':St}{ans:List (List An)}{ls:List (FuncId×List Did)},runG E.P false n s ans=some (s',ls)->QAll E L ls->WW E B0 (TI E.A) st R nx dn (G s'.1 s'.2) L Post->WW E B0 (TI E.A) st R nx dn (G s.1 s.2) L Post:=by
 intro n;induction n with
 | zero=>intro s s' ans ls h hq k; cases h; exact k
 | succ n ih=>
  intro s s' ans ls h hq k;obtain ⟨s1,an,l,ans',r,h1,h2,h3⟩:=aI0 h;rcases h3 with ⟨rfl,rfl⟩ | rfl
  ·refine WW.still (T':=TI E.A) hE (al1 hE.ap) hR (es:=#[]) (fun C _ _ _ _ _=>ab4 h1 (w:=C) trivial) (aV0 hE (by simp)) (ih h2 hq k)
  ·have hd:deafBehind dn (seen E.P s.1.fn (esOf l).toArray)=dn:=deafBehind_still (fun e he=>(hq.2.1 e he).2) _;refine WW.still (T':=TI E.A) hE (al1 hE.ap) hR (es:=seen E.P s.1.fn (esOf l).toArray) (fun C ph _ hb hw hg=>?_) (aV0 hE fun e he=>(hq.2.1 e he).1) (by rw [hd]; exact ih h2 hq.2.2 k);obtain ⟨hf,hw'⟩:=hq.1 C hb hw ⟨_,_,hg⟩;rw [ab4 h1 hf,hw']
theorem Inv.out (hE:EOK E B0) {ok:Loop->Prop}(hok:∀ r,ok r->LoopOK.ok r) {ph:Ph}{d:Nat}{a a' b':Goroutine}{gs gs':Array Goroutine}{C C' L':World}{t:Trace}{q:Nat->Nat}{es:Array Event}{fn:FuncId}{pos:String}(h:Inv E B0 (TI E.A) st nx dn b L ph d a gs C t q)
  (ho:OutF ok C (L.at C.drawn) C' L' es) (h0:gs'[0]?=some a') (hn:gs'[E.A.n]?=some b') (hl:LB E.P (t++MemOp.ofEvents E.A.n fn pos es) gs' E.A.n q) (hd:Deaf (t++MemOp.ofEvents E.A.n fn pos es) 0=d) (hdn:Deaf (t++MemOp.ofEvents E.A.n fn pos es) E.A.n=deafBehind dn es)
  (hps:PS E nx ph d a'):Inv E B0 (TI E.A) st nx dn b' L' ph d a' gs' C' (t++MemOp.ofEvents E.A.n fn pos es) q:=by
 have hsl:L.heap.size<=L'.heap.size:=ho.szl;have hb:∀ (b:Nat) T fz,L.heap[b]?=some (.cells #[] T fz)->∃ fz',L'.heap[b]?=some (.cells #[] T fz'):=fun b T fz hb=>by
  obtain ⟨c',fz',h1,h2⟩:=ho.row b _ _ _ hb;obtain rfl:c' = #[]:=uv.1 (by simpa using h2)
  exact ⟨fz',h1⟩
 have hch:L'.heap[E.A.Ch]?=some (.chan 0 #[] false 0 0 false)/\C'.heap[E.A.Ch]?=C.heap[E.A.Ch]?:=ho.obj _ _ h.chL fun _ _ _ hc=>by cases hc
 have ev:∀ e∈es,Evn E.A L'.heap.size e/\e.loc≠.mark .disable/\e.loc≠.mark .enable:=fun e he=>by
  have hev:=ho.evs e he;obtain ⟨loc,wr,sy⟩:=e;have lt:∀ {b:Nat}{o:Obj},L'.heap[b]?=some o->b<L'.heap.size:=fun h=>(lg.1 h).1
  cases loc with
  | cell ad=>
   obtain ⟨c,U,fz,k1,k2⟩:=hev;refine ⟨⟨⟨fun x hx=> .inl ?_,?_⟩,?_⟩,by simp,by simp⟩
   ·rw [ofEvent_cell0] at hx;simp only [MemAct.touch?,Option.some.injEq] at hx;subst hx;refine ⟨?_,fun hs=>?_⟩
    ·rintro (⟨a2,e2,hc⟩ | e2)
     ·cases e2;rcases hc with hc | hc
      ·obtain ⟨o,ho2⟩:∃ o,E.bx ad.block=some o:=hE.bx' _ hc;obtain ⟨U2,fz2,k3⟩:=h.hidb _ _ ho2;obtain ⟨fz3,k4⟩:=hb _ _ _ k3;rw [k1] at k4;cases k4;simp at k2
      ·obtain ⟨U2,fz2,k3⟩:=h.hidw;obtain ⟨fz3,k4⟩:=hb _ _ _ k3;rw [<-hc,k1] at k4;cases k4;simp at k2
     ·cases e2
    ·obtain ⟨a2,U2,fz2,e2,k3⟩:=h.shun _ hs;cases e2;obtain ⟨fz3,k4⟩:=hb _ _ _ k3;rw [k1] at k4;cases k4;simp at k2
   ·rw [ofEvent_cell0]; simp
   ·rw [ofEvent_cell0]; exact lt k1
  | obj r=>
   obtain ⟨o,k1,k2,k4,k5⟩:=hev;simp only at k4 k5
   subst k4;have e2:MemAct.ofEvent ⟨.obj r,false,sy⟩ = .access ⟨.obj r,false,sy⟩:=by cases sy<;>rfl
   refine ⟨⟨⟨fun x hx=>?_,by rw [e2]; simp⟩,by rw [e2]; exact lt k1⟩,by simp,by simp⟩;rw [e2] at hx;simp only [MemAct.touch?,Option.some.injEq] at hx;subst hx;by_cases hr:r=E.A.Ch
   ·subst hr;rw [hch.1] at k1;cases k1;right;right;right;exact ⟨rfl,by rw [k5]; rfl⟩
   ·left;refine ⟨?_,fun hs=>?_⟩
    ·rintro (⟨a2,e3,_⟩ | e3)
     ·cases e3
     ·cases e3; exact hr rfl
    ·obtain ⟨a2,U2,fz2,e3,_⟩:=h.shun _ hs;cases e3
  | mark m=>
   cases m<;>first | exact hev.elim | skip
   exact ⟨⟨⟨fun x hx=>(by cases hx),by simp [MemAct.ofEvent]⟩,trivial⟩,by simp,by simp⟩
  | output=>exact hev.elim
  | goroutines=>exact hev.elim
 have hdd:deafBehind dn es=dn:=deafBehind_still (fun e he=>(ev e he).2) _;refine ⟨h0,hn,hl,⟨ho.os,ho.out,ho.size,ho.blk,ho.nv,ho.np,fun b r hx=>hok r (ho.lp b r hx)⟩,fun b hb=>ho.old b (h.old b hb),by rw [ho.tc,ho.tl]; exact h.tape,xc h.low hsl,fun l hs=>?_,fun b o hx=>?_,?_,hch.1,?_,fun b o hx=>?_,?_,?_,hd,hdn.trans hdd,hps,h.cn⟩
 ·obtain ⟨a2,U,fz,e,hx⟩:=h.shun l hs;obtain ⟨fz',hx'⟩:=hb _ _ _ hx;exact ⟨a2,U,fz',e,hx'⟩
 ·obtain ⟨U,fz,hx'⟩:=h.hidb b o hx;rw [ho.hid b U fz hx'];exact h.bx b o hx
 ·obtain ⟨s,r,hc⟩:=h.ch;exact ⟨s,r,hch.2.trans hc⟩
 ·obtain ⟨U,fz,hx'⟩:=h.hidw;unfold WgS;rw [ho.hid _ U fz hx'];exact h.wg
 ·obtain ⟨U,fz,hx'⟩:=h.hidb b o hx;obtain ⟨fz',k⟩:=hb _ _ _ hx';exact ⟨U,fz',k⟩
 ·obtain ⟨U,fz,hx'⟩:=h.hidw;obtain ⟨fz',k⟩:=hb _ _ _ hx';exact ⟨U,fz',k⟩
 ·rw [ho.size];exact h.tr.appn hE.ap (by rw [h.wr.size]; exact hsl) ae1 (bn6 fun e he=>(ev e he).1).1 (bn6 fun e he=>(ev e he).1).2
end
end Hid
namespace Hid
open Go.RowKit Go.Conc
open Go.ConcN (sumTo upd sumTo_upd upd_ne upd_same)
structure JB where
 v:LoopOK
variable [inst:LoopOK] [Junk]
section
variable {E:Env}{B0:Nat}{T:Nat->Trace->Prop}{st:Ph->Int}{R:Ph->Prop}{nx dn:Nat}{b:Goroutine}{L:World}{Post:Value->World->Prop}
theorem WW.job (hE:EOK E B0) (hR:RP st R) {p:Program}(J:JB) (hP:@Pair J.v p E.P) (hJs:¬ J.v.set) (hok:∀ r,J.v.ok r<->inst.ok r) (hG:GB p B0) (hfn:∀ f,J.v.fn f->E.P.funcs[f]?=p.funcs[f]?)
  {f:FuncId}{Q:Value->World->Prop}{c:Frame}{csT:List Frame}{y:Frame}{csP zs:List Frame}(hcs:csT≠[]) (hzs:c::csT=zs++[dmF p]) (hz:∀ z∈zs,z.defers=[]/\(z.mode = .run\/z.mode = .returning)) {g:Goroutine}{L:World}(ht:Tree p (AtRet p f Q) g L) :
  ∀ (x:Frame) (xs:List Frame),g=G x (xs++c::csT)->@FrOK J.v p E.P x->(∀ z∈xs,@FrOK J.v p E.P z)->
   (∀ v L',Tree p (AtRet p f Q) (G (c.finish v) csT) L'->Later p g L (G (c.finish v) csT) L'->WW E B0 (TI E.A) st R nx dn (G (y.finish v) csP) L' Post)->WW E B0 (TI E.A) st R nx dn (G x (xs++y::csP)) L Post:=by
 induction ht with
 | stop hs=>
  intro x xs hg;obtain ⟨fr,v,e,_⟩:=hs;rw [hg] at e;simp only [G,Goroutine.mk.injEq,and_true,true_and] at e;have:=congrArg List.length e.2
  simp at this;exact absurd (un.1 (by omega)) hcs
 | @step g L nxt hst htr ih=>
  intro x xs hg hx hxs K;subst hg;refine .of hE (al1 hE.ap) hR rfl fun ph d a gs C sl t q hinv hr=>?_
  obtain ⟨es,he⟩:=hst C.drawn;have htr':=htr C.drawn;have ih':=ih C.drawn;have hstp:=@aH9 J.v _ p E.P true false x xs c csT (y::csP) C (L.at C.drawn) hP hx hxs (by
   have h:=hinv.wr;exact @WR.mk J.v _ C (L.at C.drawn) (h.os) (h.out) (h.size) (h.blk) (h.nv) (h.np) (fun b r hx=>(hok r).2 (h.lp b r hx))) (hinv.wr.gl hG hinv.old) (fun g2 L2 es2 _ i _=>by
   show C.tape _=L.tape _;rw [hinv.tape];rfl)
  rw [he] at hstp;generalize hr0:stepG E.P false (G x (xs++y::csP)) C=r at hstp;generalize hn:nxt C.drawn=n at *
  obtain ⟨g1,L1⟩:=n;simp only at hstp htr' ih' he
  have chs:∀ {C' L':World}{es:Array Event},OutF (@LoopOK.ok J.v) C (L.at C.drawn) C' L' es->ChS E.A.Ch C' ph.cl:=fun ho=>by
   obtain ⟨s,r,hc⟩:=hinv.ch;exact ⟨s,r,(ho.obj _ _ hinv.chL fun _ _ _ hc=>by cases hc).2.trans hc⟩
  cases hstp with
  | @go x' xs' C' _ _ hx' hxs' ho=>
   have hof:=@OutF.of J.v _ hJs _ _ _ _ _ ho;obtain ⟨gs',h1,hz1,h2,h3,h4,h5,h6⟩:=ax8 (sl:=sl) hinv hr0;exact ⟨_,_,h1,ih' x' xs' rfl hx' hxs' (fun v L' ht2 hl=>K v L' ht2 (.step he hl)) ph d _ gs' C' sl _ q (hinv.out hE (fun r h=>(hok r).1 h) hof h2 h3 h4 h5 h6 (hinv.ps.woken (chs hof) _ _)) hr⟩
  | ar9 hne hJ=>exact absurd (hfn _ hJ) hne
  | @ret v C' _ _ hxs0 hm ho=>
   subst hxs0;have hof:=@OutF.of J.v _ hJs _ _ _ _ _ ho;have hk:x.kind = .normal:=@FrOK.kind J.v p E.P x hx;have e3:doReturn E.P false x (y::csP) none v C' = .go (G (y.finish v) csP) C':=by simp only [doReturn,hk]; rfl
   rw [e3,ac9] at hr0;obtain ⟨gs',h1,hz1,h2,h3,h4,h5,h6⟩:=ax8 (sl:=sl) hinv hr0;exact ⟨_,_,h1,K v _ htr' (.step he (.refl _ _)) ph d _ gs' C' sl _ q (hinv.out hE (fun r h=>(hok r).1 h) hof h2 h3 h4 h5 h6 (hinv.ps.woken (chs hof) _ _)) hr⟩
  | bad hb=>
   cases hb with
   | @panic x2 ch _ _ hm hd=>
    exfalso;rw [hzs,<-xz] at htr';refine aL2 (P:=E.P) htr' (.fr hm hd fun z hz'=>?_);rcases xZ.1 hz' with h | h
    ·exact ⟨@FrOK.defers J.v p E.P z (hxs z h),@FrOK.mode J.v p E.P z (hxs z h)⟩
    ·exact hz z h
theorem E2 (hE:EOK E B0) (hT:TProp E.A T) {s:St}{z:Value}(hst:st .opn=st .cls) {R R':Ph->Prop}(hRc:R' .cls) (hR0:R .opn):∀ (M:Nat) {nx:Nat}{ph:Ph}{d:Nat}{a:Goroutine},PS E nx ph d a->a.status = .running->ph = .opn->
  (nx<E.n3->WW E B0 T st R (nx+1) dn (G (s.1.finish (.tuple #[E.item nx,.bool true])) s.2) L Post)->(nx=E.n3->WW E B0 T st R' nx dn { parked (G s.1 s.2) #[rcase E.A.Ch z] (.recv true) with status:= .running } L Post)->
  ∀ gs C sl t q,sumTo gs.size q<=M->Inv E B0 T st nx dn (parked (G s.1 s.2) #[rcase E.A.Ch z] (.recv true)) L ph d a gs C t q->Wins E.P Post (crowd gs C sl) t:=by
 intro M;induction M using Nat.strongRecOn with
 | _ M ih=>
  intro nx ph d a hps;have hbw:∀ (g g':Goroutine) (C:World),ChS E.A.Ch C false->woken E.P g g' C (parked (G s.1 s.2) #[rcase E.A.Ch z] (.recv true))=parked (G s.1 s.2) #[rcase E.A.Ch z] (.recv true):=fun g g' C ⟨s',r',hc⟩=>woken_recv_open g g' hc
  have go:∀ {nx:Nat}{ph:Ph}{d:Nat}{a:Goroutine},a.status = .running->ph = .opn->
    (nx<E.n3->WW E B0 T st R (nx+1) dn (G (s.1.finish (.tuple #[E.item nx,.bool true])) s.2) L Post)->(nx=E.n3->WW E B0 T st R' nx dn { parked (G s.1 s.2) #[rcase E.A.Ch z] (.recv true) with status:= .running } L Post)->
    (∀ gs C sl t q,sumTo gs.size q<=M->Inv E B0 T st nx dn (parked (G s.1 s.2) #[rcase E.A.Ch z] (.recv true)) L ph d a gs C t q->∃ m' ops,runT E.P (crowd gs C sl) 0=(.next m',ops)/\Wins E.P Post m' (t++ops))->
    ∀ gs C sl t q,sumTo gs.size q<=M->Inv E B0 T st nx dn (parked (G s.1 s.2) #[rcase E.A.Ch z] (.recv true)) L ph d a gs C t q->Wins E.P Post (crowd gs C sl) t:=fun {nx ph d a} ha hph K1 K0 hpar gs C sl t q hM hinv=>by
   subst hph;exact trio (ph:= .opn) hE hT (.inl ha) (.inr ⟨_,_,rfl⟩) (fun g g' C h=>hbw g g' C h) (fun a' gs' C' sl' t' q' hr hlt hinv'=>ih _ hlt hinv'.ps (hr ha) rfl K1 K0 gs' C' sl' t' q' (lf _) hinv') (fun hb=>by cases hb) (fun _=>hpar) gs C sl t q hM hinv
  induction hps with
  | @quiet nx ph d s0 s1 es h he k ihk=>
   intro ha hph K1 K0;subst hph;refine go ha rfl K1 K0 fun gs C sl t q hM hinv=>?_
   obtain ⟨gs',h1,hz,h2⟩:=bl9 (ph:= .opn) hE hT (fun g g' C h=>hbw g g' C h) hinv (sl:=sl) (h C hinv.bx ⟨_,_,hinv.wg⟩) he k;exact ⟨_,_,h1,ihk rfl rfl K1 K0 gs' C sl _ q (by rw [hz]; exact hM) h2⟩
  | @send nx s0 h hn k _=>
   intro ha hph K1 K0;refine go ha rfl K1 K0 fun gs C sl t q hM hinv=>?_
   obtain ⟨s',r',hc⟩:=hinv.ch;have hpos:=hinv.lb.pos;have hlt:=hinv.lb.lt;have hp:=(ao5 hinv.lb (i:=0) (k:=E.A.n) (c:=E.A.Ch) (send:=false) (.inl ⟨rfl,rfl⟩) hinv.gn).2 [0] (by rw [offersAt_parked_recv,ln rfl]);have hw:=crowd_send_meets (P:=E.P) (sl:=sl) (i:=0) hinv.g0 (by exact h C hinv.bx) hc (by omega) hinv.gn hp;have hB:E.A.Ch<C.heap.size:=by rw [hinv.wr.size]; exact lN hE.cl hinv.low
   refine ⟨_,_,hw,K1 hn .opn 0 (G (s0.1.finish undef) s0.2) _ _ sl _ q ?_ hR0⟩;rw [show ∀ x:Trace,MemOp.ofEvents 0 (G s0.1 s0.2).frame.fn (G s0.1 s0.2).frame.place #[]++x=x from fun x=>by simp [ofEvents_none]];refine hinv.chan hE.ap hE.bx hE.cw hE.cb hE.c0 (ph':= .opn) rfl rfl ?_ ?_ (hinv.lb.set _ _ (by intro op hop; simp at hop; rcases hop with rfl | rfl | rfl | rfl<;>simp)).2.1 (hT.mute _ _ _ hinv.tr ?_ ?_ ?_) ?_ ?_ k (fun hh=>absurd rfl hh)
   ·rw [ll (by simp; omega)];rfl
   ·rw [lh (by omega),ll (by omega)];rfl
   ·intro op hop; simp at hop; rcases hop with rfl | rfl | rfl | rfl<;>rfl
   ·intro op hop; simp at hop; rcases hop with rfl | rfl | rfl | rfl<;>simp
   ·intro op hop; simp at hop; rcases hop with rfl | rfl | rfl | rfl<;>exact hB
   ·rw [show ∀ a b c d:MemOp,(#[a,b,c,d]:Trace)=[a,b,c,d].toArray from fun _ _ _ _=>rfl,Deaf_append,hinv.d0]; rfl
   ·rw [show ∀ a b c d:MemOp,(#[a,b,c,d]:Trace)=[a,b,c,d].toArray from fun _ _ _ _=>rfl,Deaf_append,hinv.dn]; rfl
  | parked hn k _=>intro ha; cases ha
  | @close s0 s1 es h hm he hd k _=>
   intro ha hph K1 K0;refine go ha rfl K1 K0 fun gs C sl t q hM hinv=>?_
   obtain ⟨s',r',hc⟩:=hinv.ch;have hpos:=hinv.lb.pos;have hlt:=hinv.lb.lt;have hlC:E.A.Ch<C.heap.size:=(lg.1 hc).1;refine ⟨_,_,runT_crowd_go (P:=E.P) (sl:=sl) (i:=0) hinv.g0 (by exact h C s' r' hinv.bx hc),K0 rfl .cls 0 _ _ _ sl _ q (hinv.chan hE.ap hE.bx hE.cw hE.cb hE.c0 (ph':= .cls) rfl hst.symm ?_ ?_ (hinv.lb.step (.inl rfl) _ _ _ fun op hop=> .inl (ae1 op hop)) (hT.app0 _ _ _ _ hinv.tr (lf _) ae1 (ar3 he).1 fun op hop=>MemAct.low_mono (by rw [hinv.wr.size]; exact hinv.low) ((ar3 he).2 op hop)) ?_ ?_ k ?_) hRc⟩
   ·rw [ll (by simp; omega)]
   ·rw [lh (by omega),lY,hinv.gn];refine congrArg some ?_;unfold woken;rw [ln (by rw [hm]; rfl)];exact again_recv_closed (ba6 C E.A.Ch _ _ |>.trans (by rw [ln ⟨rfl,hlC⟩]; rfl))
   ·rw [Deaf_own,hinv.d0]; exact hd
   ·rw [Deaf_other t (g':=0) (by omega) _ ae1]; exact hinv.dn
   ·intro _; rfl
  | w1=>intro _ hph; cases hph
  | w2=>intro _ hph; cases hph
  | w3=>intro _ hph; cases hph
  | blk=>intro _ hph; cases hph
def R1:Ph->Prop:=fun _=>True
def R2:Ph->Prop:=fun ph=>ph≠.opn
theorem rp1:RP Ph.st R1:=⟨fun _=>trivial,fun _=>trivial,fun _ _=> .inl rfl⟩
theorem rp2:RP Ph.st R2:=⟨fun h=>absurd rfl h,fun _=>by simp [R2],fun _ _=> .inl rfl⟩
theorem WW.recv2 (hE:EOK E B0) (hT:TProp E.A T) {b:Goroutine}{s:St}{z:Value}(hb:b.status = .running) (h:∀ C,FB E.bx C->WR C L->stepG E.P false b C = .comm (G s.1 s.2) #[rcase E.A.Ch z] true (.recv true) C #[])
  (K0:nx=E.n3->WW E B0 T Ph.st R2 nx dn (G (s.1.finish (.tuple #[z,.bool false])) s.2) L Post):WW E B0 T Ph.st R2 nx dn b L Post:=by
 refine .of hE hT rp2 hb fun ph d a gs C sl t q hinv hr=>?_
 have hpos:=hinv.lb.pos;have hlt:=hinv.lb.lt;have hi0:(E.A.n==0)=false:=by simp; omega
 obtain ⟨s',r',hc⟩:=hinv.ch;have hcl:ph.cl=true:=by cases ph<;>first | rfl | exact absurd rfl hr
 rw [hcl] at hc;have hno:offersAt a E.A.Ch true=[]:=by
  have:=hinv.ps
  cases this<;>first | exact absurd rfl hr | rfl
 have hp:=(ao5 hinv.lb (i:=E.A.n) (k:=0) (c:=E.A.Ch) (send:=true) (.inr ⟨rfl,rfl⟩) hinv.g0).1 hno;have hw:=crowd_recv_closed (P:=E.P) (sl:=sl) (i:=E.A.n) hinv.gn (by rw [hi0]; exact h C hinv.bx hinv.wr) hc hp;refine ⟨_,_,hw,?_⟩;rw [show ∀ x:Trace,MemOp.ofEvents E.A.n b.frame.fn b.frame.place #[]++x=x from fun x=>by simp [ofEvents_none]];have hB:E.A.Ch<C.heap.size:=by rw [hinv.wr.size]; exact lN hE.cl hinv.low
 refine K0 (hinv.cn hr) ph d a _ C sl _ q (hinv.keep ?_ ?_ (hinv.lb.set a _ (by intro op hop; simp at hop; subst hop; exact .inr rfl)).2.2.2 (hT.mute _ _ _ hinv.tr ?_ ?_ ?_) ?_ ?_ hinv.ps) hr
 ·rw [lh (by omega)]; exact hinv.g0
 ·rw [ll hlt]; rfl
 ·intro op hop; simp at hop; subst hop; rfl
 ·intro op hop; simp at hop; subst hop; simp
 ·intro op hop; simp at hop; subst hop; exact hB
 ·rw [Deaf_push,hinv.d0]; rfl
 ·rw [Deaf_push,hinv.dn]; rfl
theorem WW.recv (hE:EOK E B0) (hT:TProp E.A T) {s:St}{z:Value}(h:∀ C,FB E.bx C->WR C L->stepG E.P false (G s.1 s.2) C = .comm (G s.1 s.2) #[rcase E.A.Ch z] true (.recv true) C #[])
  (K1:nx<E.n3->WW E B0 T Ph.st R1 (nx+1) dn (G (s.1.finish (.tuple #[E.item nx,.bool true])) s.2) L Post)
  (K0:nx=E.n3->WW E B0 T Ph.st R2 nx dn (G (s.1.finish (.tuple #[z,.bool false])) s.2) L Post):WW E B0 T Ph.st R1 nx dn (G s.1 s.2) L Post:=by
 refine .of hE hT rp1 rfl fun ph d a gs C sl t q hinv hr=>?_
 have hpos:=hinv.lb.pos;have hlt:=hinv.lb.lt;have hi0:(E.A.n==0)=false:=by simp; omega
 obtain ⟨s',r',hc⟩:=hinv.ch;have hB:E.A.Ch<C.heap.size:=by rw [hinv.wr.size]; exact lN hE.cl hinv.low
 have hst:=h C hinv.bx hinv.wr;have hnil:∀ x:Trace,MemOp.ofEvents E.A.n (G s.1 s.2).frame.fn (G s.1 s.2).frame.place #[]++x=x:=fun x=>by simp [ofEvents_none]
 by_cases hph:ph = .opn
 ·subst hph;have park:(a.status = .running)->∃ m' ops,runT E.P (crowd gs C sl) E.A.n=(.next m',ops)/\Wins E.P Post m' (t++ops):=fun ha=>by
   have hp:=(ao5 hinv.lb (i:=E.A.n) (k:=0) (c:=E.A.Ch) (send:=true) (.inr ⟨rfl,rfl⟩) hinv.g0).1 (offersAt_of_not_blocked (by rw [ha]; simp) _ _);have hw:=crowd_waits (P:=E.P) (sl:=sl) (i:=E.A.n) hinv.gn (by rw [hi0]; exact hst) (fun cc hcc=>by
    simp at hcc;subst hcc;exact ways_recv_none hc hp)
   refine ⟨_,_,hw,?_⟩;rw [aX4];refine E2 hE hT (s:=s) (z:=z) rfl (R:=R1) (R':=R2) (by simp [R2]) trivial (sumTo (gs.setIfInBounds E.A.n (parked (G s.1 s.2) #[rcase E.A.Ch z] (.recv true))).size q) hinv.ps ha rfl K1 (fun e=>?_) _ C sl t q (lf _) (hinv.keep ?_ ?_ ?_ hinv.tr hinv.d0 hinv.dn hinv.ps)
   ·exact WW.recv2 hE hT rfl (s:=s) (z:=z) (fun C hb hw=>(stepG_tries false _ C).trans (h C hb hw)) K0
   ·rw [lh (by omega)]; exact hinv.g0
   ·rw [ll hlt]
   ·have:=(hinv.lb.set a (parked (G s.1 s.2) #[rcase E.A.Ch z] (.recv true)) (u:=#[]) (by simp)).2.2.2
    simpa using this
  have hps:=hinv.ps;cases hps with
  | @parked nx s0 hn k=>
   have hp:=(ao5 hinv.lb (i:=E.A.n) (k:=0) (c:=E.A.Ch) (send:=true) (.inr ⟨rfl,rfl⟩) hinv.g0).2 [0] (by rw [offersAt_parked_send,ln rfl]);have hw:=crowd_recv_meets (P:=E.P) (sl:=sl) (i:=E.A.n) hinv.gn (by rw [hi0]; exact hst) hc (by omega) hinv.g0 hp;refine ⟨_,_,hw,K1 hn .opn 0 (G (s0.1.finish undef) s0.2) _ _ sl _ q ?_ trivial⟩;rw [hnil];refine hinv.chan hE.ap hE.bx hE.cw hE.cb hE.c0 (ph':= .opn) rfl rfl ?_ ?_ (hinv.lb.set _ _ (by intro op hop; simp at hop; rcases hop with rfl | rfl | rfl | rfl<;>simp)).1 (hT.mute _ _ _ hinv.tr ?_ ?_ ?_) ?_ ?_ k (fun hh=>absurd rfl hh)
   ·rw [lh (by omega),ll (by omega)];rfl
   ·rw [ll (by simp; omega)];rfl
   ·intro op hop; simp at hop; rcases hop with rfl | rfl | rfl | rfl<;>rfl
   ·intro op hop; simp at hop; rcases hop with rfl | rfl | rfl | rfl<;>simp
   ·intro op hop; simp at hop; rcases hop with rfl | rfl | rfl | rfl<;>exact hB
   ·rw [show ∀ a b c d:MemOp,(#[a,b,c,d]:Trace)=[a,b,c,d].toArray from fun _ _ _ _=>rfl,Deaf_append,hinv.d0]; rfl
   ·rw [show ∀ a b c d:MemOp,(#[a,b,c,d]:Trace)=[a,b,c,d].toArray from fun _ _ _ _=>rfl,Deaf_append,hinv.dn]; rfl
  | quiet=>exact park rfl
  | send=>exact park rfl
  | close=>exact park rfl
 ·have hcl:ph.cl=true:=by cases ph<;>first | rfl | exact absurd rfl hph
  rw [hcl] at hc;have hno:offersAt a E.A.Ch true=[]:=by
   have:=hinv.ps
   cases this<;>first | exact absurd rfl hph | rfl
  have hp:=(ao5 hinv.lb (i:=E.A.n) (k:=0) (c:=E.A.Ch) (send:=true) (.inr ⟨rfl,rfl⟩) hinv.g0).1 hno;have hw:=crowd_recv_closed (P:=E.P) (sl:=sl) (i:=E.A.n) hinv.gn (by rw [hi0]; exact hst) hc hp;refine ⟨_,_,hw,?_⟩;rw [hnil];refine K0 (hinv.cn hph) ph d a _ C sl _ q (hinv.keep ?_ ?_ (hinv.lb.set a _ (by intro op hop; simp at hop; subst hop; exact .inr rfl)).2.2.2 (hT.mute _ _ _ hinv.tr ?_ ?_ ?_) ?_ ?_ hinv.ps) hph
  ·rw [lh (by omega)]; exact hinv.g0
  ·rw [ll hlt]; rfl
  ·intro op hop; simp at hop; subst hop; rfl
  ·intro op hop; simp at hop; subst hop; simp
  ·intro op hop; simp at hop; subst hop; exact hB
  ·rw [Deaf_push,hinv.d0]; rfl
  ·rw [Deaf_push,hinv.dn]; rfl
end
end Hid
namespace Hid
open Go.RowKit Go.Conc
open Go.ConcN (sumTo upd sumTo_upd upd_ne upd_same)
variable [inst:LoopOK] [Junk]
section
variable {E:Env}{B0:Nat}{nx dn:Nat}{L:World}{Post:Value->World->Prop}
def TJx (A:Area) (B:Nat) (t:Trace):Prop:=∃ r,TJ A B r t
theorem ah6 {A:Area}(hA:Apart A):TProp A (TJx A):=⟨fun _ _ _ _ ⟨r,h⟩ hB hg hu hl=>⟨r,h.app0 hA hB hg hu hl⟩,fun _ _ _ ⟨r,h⟩ hn hr hl=>⟨r,h.mute hn hr hl⟩⟩
theorem ay3 {A:Area}(hA:Apart A) {B:Nat}{t:Trace}(h:TJx A B t) (hW:A.Wg<B) {fn:FuncId}{pos:String}{es:Array Event}(hd:Deaf t A.n=dn)
  (he:∀ e∈es,e.loc = .mark .disable\/e.loc = .mark .enable\/∃ a wr,e=⟨.cell a,wr,true⟩/\a.block=A.Wg) (hq:∀ j e,es[j]?=some e->(∃ a wr,e=⟨.cell a,wr,true⟩)->0<deafBehind dn (es.extract 0 j)):TJx A B (t++MemOp.ofEvents A.n fn pos es):=by
 obtain ⟨r,h⟩:=h;have mk:∀ {e:Event}{m:Mark},e.loc = .mark m->MemAct.ofEvent e = .mark m:=fun {e m} h=>by
  obtain ⟨loc,wr,sy⟩:=e;simp only at h
  subst h;rfl
 refine ⟨r,h.appn hA ae1 (fun op hop=>?_) (fun op hop=>?_) fun i hi=>?_⟩
 ·obtain ⟨e,hm,rfl⟩:=lI hop;rcases he e hm with h1 | h1 | ⟨a,wr,rfl,h2⟩
  ·simp only [mk h1]; exact ⟨fun b hb=>(by cases hb),by simp⟩
  ·simp only [mk h1]; exact ⟨fun b hb=>(by cases hb),by simp⟩
  ·have e2:MemAct.ofEvent ⟨.cell a,wr,true⟩ = .access ⟨.cell a,wr,true⟩:=by cases wr<;>rfl
   simp only [e2];refine ⟨fun b hb=>?_,by simp⟩;simp only [MemAct.touch?,Option.some.injEq] at hb;subst hb;exact ⟨a,rfl,h2,rfl⟩
 ·obtain ⟨e,hm,rfl⟩:=lI hop;rcases he e hm with h1 | h1 | ⟨a,wr,rfl,h2⟩
  ·simp only [mk h1]; trivial
  ·simp only [mk h1]; trivial
  ·have e2:MemAct.ofEvent ⟨.cell a,wr,true⟩ = .access ⟨.cell a,wr,true⟩:=by cases wr<;>rfl
   simp only [e2];show a.block<B;omega
 ·rintro ⟨x,hx,hxm,hk⟩;obtain ⟨op,hop,hopx⟩:=touch_of hx;have hop2:=hop;rw [ofEvents_eq] at hop2;rw [xl hi,lY] at hop2;obtain ⟨e,hje,rfl⟩:=xg.1 hop2;rcases he e (Array.mem_of_getElem? hje) with h1 | h1 | ⟨a,wr,rfl,h2⟩
  ·simp only [mk h1] at hopx; cases hopx
  ·simp only [mk h1] at hopx; cases hopx
  ·have e2:MemAct.ofEvent ⟨.cell a,wr,true⟩ = .access ⟨.cell a,wr,true⟩:=by cases wr<;>rfl
   simp only [e2] at hopx;simp only [MemAct.touch?,Option.some.injEq] at hopx;subst hopx;rcases hk with hk | ⟨g,hg,hdf⟩
   ·exact hk rfl
   ·have hgn:g=A.n:=by
     simp [Trace.g?,hop] at hg;exact hg.symm
    subst hgn;have hj:i-t.size<=es.size:=by
     have:=(lg.1 hje).1
     omega
    have hin:=deaf_inside t A.n fn pos es (i-t.size) hj;rw [show t.size+(i-t.size)=i by omega,hdf,hd] at hin;have:=hq _ _ hje ⟨a,wr,rfl⟩
    omega
structure XS (E:Env) (B0:Nat) (L:World) (st sm:Int) (d:Nat) (a:Goroutine) (gs:Array Goroutine) (C:World) (t:Trace) (q:Nat->Nat):Prop where
 g0:gs[0]?=some a
 lv:Leavers E.P t gs q
 wr:WR C L
 old:∀ b:Nat,b<B0->C.heap[b]?=U b L.heap[b]?
 tape:C.tape=L.tape
 low:E.Low<=L.heap.size
 shun:∀ l,E.A.Shun l->∃ a T fz,l = .cell a/\L.heap[a.block]?=some (.cells #[] T fz)
 bx:FB E.bx C
 wg:WgS E.A.Wg E.tW C st sm
 hidw:∃ T fz,L.heap[E.A.Wg]?=some (.cells #[] T fz)
 tr:TJx E.A C.heap.size t
 d0:Deaf t 0=d
def T0 (A:Area) (B d:Nat) (t:Trace):Prop:=TJx A B t/\Deaf t 0=d
theorem az4 {A:Area}{B d:Nat}:be1 (T0 A B d):=fun t g fn pos es hg hm ⟨⟨r,h⟩,hd⟩=>by
 refine ⟨⟨r,h.mute (fun op hop=>?_) (fun op hop=>?_) fun op hop=>?_⟩,(Deaf_other t hg _ ae1).trans hd⟩
 ·obtain ⟨e,he,rfl⟩:=lI hop; exact touch_mute (hm e he)
 ·obtain ⟨e,he,rfl⟩:=lI hop;have:=hm e he
  obtain ⟨loc,wr,sy⟩:=e;cases loc with
  | mark m=>cases m<;>simp_all [Event.mute,MemAct.ofEvent]
  | _=>simp [Event.mute] at this
 ·obtain ⟨e,he,rfl⟩:=lI hop; exact low_mute (hm e he) _
theorem XS.go (hE:EOK E B0) {st sm st' sm':Int}{d:Nat}{s:St}{a':Goroutine}{gs:Array Goroutine}{C:World}{sl:Option (Nat×Nat)}{t:Trace}{q:Nat->Nat}{es:Array Event}(h:XS E B0 L st sm d (G s.1 s.2) gs C t q) (F:World->World)
  (hF:(∀ w,F w=w)/\st'=st/\sm'=sm\/∃ i v,(∀ w,F w=w.setCell ⟨E.A.Wg,i,none⟩ v)/\∀ w,WgS E.A.Wg E.tW w st sm->WgS E.A.Wg E.tW (w.setCell ⟨E.A.Wg,i,none⟩ v) st' sm')
  (hs:∀ w,FB E.bx w->WgS E.A.Wg E.tW w st sm->stepG E.P true (G s.1 s.2) w = .go a' (F w) es) (he:∀ e∈es,Ev0 E.A E.Low e)
  (hk:∀ gs C sl t q,XS E B0 L st' sm' (deafBehind d es) a' gs C t q->Wins E.P Post (crowd gs C sl) t):Wins E.P Post (crowd gs C sl) t:=by
 have hlow:E.Low<=C.heap.size:=by rw [h.wr.size]; exact h.low
 refine aO1 (T:=T0 E.A C.heap.size d) (T':=T0 E.A C.heap.size (deafBehind d es)) az4 h.g0 rfl h.lv ⟨h.tr,h.d0⟩ fun e=>⟨a',F (C.at e),es,hs _ h.bx h.wg,fun t fn pos ⟨⟨r,ht⟩,hd⟩=>⟨⟨r,ht.app0 hE.ap (lf _) ae1 (ar3 he).1 fun op hop=>MemAct.low_mono hlow ((ar3 he).2 op hop)⟩,by rw [Deaf_own,hd]⟩,fun gs' sl' t' q' g0 gz hl ht=>?_⟩
 rcases hF with ⟨hw,rfl,rfl⟩ | ⟨i,v,hw,hst⟩
 ·rw [hw];exact hk _ _ _ _ q' ⟨g0,hl,⟨h.wr.os,h.wr.out,h.wr.size,h.wr.blk,h.wr.nv,h.wr.np,h.wr.lp⟩,h.old,h.tape,h.low,h.shun,h.bx,h.wg,h.hidw,ht.1,ht.2⟩
 ·rw [hw];have ne:∀ b,b≠E.A.Wg->((C.at e).setCell ⟨E.A.Wg,i,none⟩ v).heap[b]?=C.heap[b]?:=fun b hb=>by rw [heap_set,lr hb]; rfl
  have hsz:((C.at e).setCell ⟨E.A.Wg,i,none⟩ v).heap.size=C.heap.size:=by simp [World.setCell,World.at]
  have hw':=hst (C.at e) h.wg;refine hk _ _ _ _ q' ⟨g0,hl,⟨h.wr.os,h.wr.out,hsz.trans h.wr.size,fun b o ho=>?_,h.wr.nv,h.wr.np,h.wr.lp⟩,fun b hb=>?_,h.tape,h.low,h.shun,fun b o hb=>?_,hw',h.hidw,by rw [hsz]; exact ht.1,ht.2⟩
  ·by_cases hc:b=E.A.Wg
   ·subst hc;obtain ⟨T0,fz,hL⟩:=h.hidw;obtain ⟨o',k1,k2⟩:=h.wr.blk _ _ ho;have hC:=h.wg;unfold WgS at hC;rw [hL] at ho;cases ho;rw [hC] at k1;cases k1;rcases k2 with k2 | ⟨T1,c1,k2,k3⟩ | ⟨_,_,_,_,_,_,_,k2,_⟩ | ⟨⟨_,_,k2⟩,_⟩;rotate_left 3
    ·cases k2
    ·cases k2
    ·cases k2;cases k3;exact ⟨_,hw',.inr (.inl ⟨_,_,rfl,rfl⟩)⟩
    ·cases k2
   ·rw [ne b hc];exact h.wr.blk b o ho
  ·rw [ne b (by have:=hE.w0; omega)];exact h.old b hb
  ·rw [ne b (fun hc=>by subst hc; rw [hE.wb] at hb; cases hb)];exact h.bx b o hb
theorem XS.c (hE:EOK E B0) (hPX:∀ f d s,E.PX f d s->∀ gs C sl t q,XS E B0 L 0 0 d (G s.1 s.2) gs C t q->Wins E.P Post (crowd gs C sl) t):∀ {nx:Nat}{ph:Ph}{d:Nat}{a:Goroutine},PS E nx ph d a->ph = .cls->
  ∀ gs C sl t q,XS E B0 L 0 0 d a gs C t q->Wins E.P Post (crowd gs C sl) t:=by
 intro nx ph d a hps;induction hps with
 | @quiet nx ph d s s1 es h he k ih=>
  intro hph gs C sl t q hx;exact hx.go hE id (.inl ⟨fun _=>rfl,rfl,rfl⟩) (fun w hb hw=>h w hb ⟨_,_,hw⟩) he (ih hph)
 | @w1 nx d s s1 s0 es h1 k1 h0 k0 he _=>
  intro hph gs C sl t q hx;exact hx.go hE id (.inl ⟨fun _=>rfl,rfl,rfl⟩) (fun w hb hw=>h0 w hb hw) he (hPX _ _ s0 k0)
 | @w2 nx d s s1 s0 es es0 h1 k1 h0 k0 he he0 _=>
  intro hph gs C sl t q hx;exact hx.go hE id (.inl ⟨fun _=>rfl,rfl,rfl⟩) (fun w hb hw=>h0 w hb hw) he0 (hPX _ _ s0 k0)
 | send=>intro hph; cases hph
 | parked=>intro hph; cases hph
 | close=>intro hph; cases hph
 | w3=>intro hph; cases hph
 | blk=>intro hph; cases hph
theorem XS.f (hE:EOK E B0) (hPX:∀ f d s,E.PX f d s->∀ gs C sl t q,XS E B0 L 0 0 d (G s.1 s.2) gs C t q->Wins E.P Post (crowd gs C sl) t):∀ {nx:Nat}{ph:Ph}{d:Nat}{a:Goroutine},PS E nx ph d a->ph = .reg->a.status = .running->
  ∀ gs C sl t q,XS E B0 L 0 1 d a gs C t q->Wins E.P Post (crowd gs C sl) t:=by
 intro nx ph d a hps;induction hps with
 | @quiet nx ph d s s1 es h he k ih=>
  intro hph _ gs C sl t q hx;exact hx.go hE id (.inl ⟨fun _=>rfl,rfl,rfl⟩) (fun w hb hw=>h w hb ⟨_,_,hw⟩) he (ih hph rfl)
 | @w3 nx d s s1 es hb hf k he=>
  intro hph _ gs C sl t q hx;exact hx.go hE (fun w=>w.setCell ⟨E.A.Wg,1,none⟩ (.int .u32 0)) (.inr ⟨1,_,fun _=>rfl,fun w hw=>bj4 hw 0⟩) (fun w hb' hw=>hf w hb' hw) he (hPX _ _ s1 k)
 | w1=>intro hph; cases hph
 | w2=>intro hph; cases hph
 | send=>intro hph; cases hph
 | parked=>intro hph; cases hph
 | close=>intro hph; cases hph
 | blk=>intro _ hr; cases hr
theorem Inv.leaves {T:Nat->Trace->Prop}{st:Ph->Int}{b:Goroutine}{ph:Ph}{d:Nat}{a a' b':Goroutine}{gs gs':Array Goroutine}{C C':World}{t t':Trace}{q:Nat->Nat}(h:Inv E B0 T st nx dn b L ph d a gs C t q) {n' dn':Nat}{st' sm':Int}(hE:EOK E B0)
  (hq:QuitsD E.P n' dn' b') (i:Nat) (v:Value) (hC:C'=C.setCell ⟨E.A.Wg,i,none⟩ v) (hw:WgS E.A.Wg E.tW C' st' sm') (h0:gs'[0]?=some a') (hn:gs'[E.A.n]?=some b') (hl:LB E.P t' gs' E.A.n q) (htr:TJx E.A C.heap.size t') (hd:Deaf t' 0=d) (hdn:Deaf t' E.A.n=dn') :
  XS E B0 L st' sm' d a' gs' C' t' (upd q E.A.n n'):=by
 subst hC;have ne:∀ b,b≠E.A.Wg->(C.setCell ⟨E.A.Wg,i,none⟩ v).heap[b]?=C.heap[b]?:=fun b hb=>by rw [heap_set,lr hb]
 have hsz:(C.setCell ⟨E.A.Wg,i,none⟩ v).heap.size=C.heap.size:=by simp [World.setCell]
 refine ⟨h0,⟨fun j g hj hg=>?_,hl.above⟩,⟨h.wr.os,h.wr.out,hsz.trans h.wr.size,fun b o ho=>?_,h.wr.nv,h.wr.np,h.wr.lp⟩,fun b hb=>?_,h.tape,h.low,h.shun,fun b o hb=>?_,hw,h.hidw,by rw [hsz]; exact htr,hd⟩
 ·by_cases hjn:j=E.A.n
  ·subst hjn;rw [hn] at hg;cases hg;rw [upd_same,hdn];exact hq
  ·rw [upd_ne q _ hjn];exact hl.old j g hj hjn hg
 ·by_cases hc:b=E.A.Wg
  ·subst hc;obtain ⟨T0,fz,hL⟩:=h.hidw;obtain ⟨o',k1,k2⟩:=h.wr.blk _ _ ho;have hC:=h.wg;unfold WgS at hC;rw [hL] at ho;cases ho;rw [hC] at k1;cases k1;rcases k2 with k2 | ⟨T1,c1,k2,k3⟩ | ⟨_,_,_,_,_,_,_,k2,_⟩ | ⟨⟨_,_,k2⟩,_⟩;rotate_left 3
   ·cases k2
   ·cases k2
   ·cases k2;cases k3;exact ⟨_,hw,.inr (.inl ⟨_,_,rfl,rfl⟩)⟩
   ·cases k2
  ·rw [ne b hc];exact h.wr.blk b o ho
 ·rw [ne b (by have:=hE.w0; omega)];exact h.old b hb
 ·rw [ne b (fun hc=>by subst hc; rw [hE.wb] at hb; cases hb)];exact h.bx b o hb
end
end Hid
namespace Hid
open Go.RowKit Go.Conc
open Go.ConcN (sumTo upd sumTo_upd upd_ne upd_same)
variable [inst:LoopOK] [Junk]
section
variable {E:Env}{B0:Nat}{T:Nat->Trace->Prop}{st:Ph->Int}{R:Ph->Prop}{nx dn:Nat}{L:World}{Post:Value->World->Prop}
def R3:Ph->Prop:=fun ph=>ph = .reg
theorem rp3 (c:Int):RP (fun _=>c) R3:=⟨fun h=>(by cases h),fun h=>(by cases h),fun _ h=>Or.inr h⟩
def QNil (E:Env):List (FuncId×List Did)->Prop
 | []=>True
 | (f,l)::r=>(∀ C,WgL E.A.Wg E.tW C->Fits l C/\wOf l C=C)/\seen E.P f (esOf l).toArray = #[]/\QNil E r
theorem WW.a63 (hE:EOK E B0) (hT:TProp E.A T) (hR:RP st R):∀ (n:Nat) {s s':St}{ans:List (List An)}{ls:List (FuncId×List Did)},runG E.P false n s ans=some (s',ls)->QNil E ls->WW E B0 T st R nx dn (G s'.1 s'.2) L Post->WW E B0 T st R nx dn (G s.1 s.2) L Post:=by
 intro n;induction n with
 | zero=>intro s s' ans ls h hq k; cases h; exact k
 | succ n ih=>
  intro s s' ans ls h hq k;obtain ⟨s1,an,l,ans',r,h1,h2,h3⟩:=aI0 h;have nil:∀ B t fn pos,E.Low<=B->L.heap.size=B->T B t->Deaf t E.A.n=dn->T B (t++MemOp.ofEvents E.A.n fn pos #[]):=fun B t fn pos _ _ h _=>by rw [aX4]; exact h
  rcases h3 with ⟨rfl,rfl⟩ | rfl
  ·exact WW.still (T':=T) hE hT hR (es:=#[]) (fun C _ _ _ _ _=>ab4 h1 (w:=C) trivial) nil (ih h2 hq k)
  ·refine WW.still (T':=T) hE hT hR (es:=#[]) (fun C ph _ hb hw hg=>?_) nil (ih h2 hq.2.2 k);obtain ⟨hf,hw'⟩:=hq.1 C ⟨_,_,hg⟩;rw [ab4 h1 hf,hw',hq.2.1]
def rdE (Wg i:Nat):Event:=⟨.cell ⟨Wg,i,none⟩,false,true⟩
def wrE (Wg i:Nat):Event:=⟨.cell ⟨Wg,i,none⟩,true,true⟩
def mkE (m:Mark):Event:=⟨.mark m,false,true⟩
theorem WW.r0 (hE:EOK E B0) (hR:RP st R) {s s1:St}(h:∀ C ph,R ph->FB E.bx C->WR C L->WgS E.A.Wg E.tW C (st ph) 0->stepG E.P false (G s.1 s.2) C = .go (G s1.1 s1.2) C #[mkE (.releaseMerge (st0 E.A.Wg))])
  (k:WW E B0 (TJx E.A) st R nx 0 (G s1.1 s1.2) L Post):WW E B0 (TI E.A) st R nx 0 (G s.1 s.2) L Post:=by
 refine WW.still (T':=TJx E.A) hE (al1 hE.ap) hR h (fun B t fn pos hB _ ht hd=>⟨t.size,?_⟩) k;have:=ht.release (lN hE.wl hB) hd fn pos
 rw [ofEvents_eq];simpa [mkE,MemAct.ofEvent] using this
theorem WW.k1 (hE:EOK E B0) (hR:RP st R) {s s1:St}(h:∀ C ph,R ph->FB E.bx C->WR C L->WgS E.A.Wg E.tW C (st ph) 0->stepG E.P false (G s.1 s.2) C = .go (G s1.1 s1.2) C #[mkE .disable])
  (k:WW E B0 (TJx E.A) st R nx (dn+1) (G s1.1 s1.2) L Post):WW E B0 (TJx E.A) st R nx dn (G s.1 s.2) L Post:=
 WW.still (T':=TJx E.A) hE (ah6 hE.ap) hR h (fun B t fn pos hB _ ht hd=>ay3 hE.ap ht (lN hE.wl hB) hd (fun e he=>by simp at he; subst he; exact .inl rfl) (fun j e hj he=>by
  obtain ⟨a,wr,rfl⟩:=he;have:=Array.mem_of_getElem? hj
  simp [mkE] at this)) k
theorem WW.d2 (hE:EOK E B0) (hR:RP st R) {s s1:St}(h:∀ C ph,R ph->FB E.bx C->WR C L->WgS E.A.Wg E.tW C (st ph) 0->stepG E.P false (G s.1 s.2) C = .go (G s1.1 s1.2) C #[rdE E.A.Wg 0]) (hdn:0<dn)
  (k:WW E B0 (TJx E.A) st R nx dn (G s1.1 s1.2) L Post):WW E B0 (TJx E.A) st R nx dn (G s.1 s.2) L Post:=
 WW.still (T':=TJx E.A) hE (ah6 hE.ap) hR h (fun B t fn pos hB _ ht hd=>ay3 hE.ap ht (lN hE.wl hB) hd (fun e he=>by simp at he; subst he; exact .inr (.inr ⟨_,_,rfl,rfl⟩)) (fun j e hj _=>by
  have hlt:=(lg.1 hj).1;simp at hlt;subst hlt;exact hdn)) k
theorem bP3 {Wg:Nat}(h:0<dn) {a b:Event}(ha:a=rdE Wg 0):∀ j e,(#[a,b]:Array Event)[j]?=some e->(∃ x wr,e=⟨.cell x,wr,true⟩)->0<deafBehind dn ((#[a,b]:Array Event).extract 0 j):=by
 intro j e hj _;have hlt:=(lg.1 hj).1;simp at hlt;subst ha;match j,hlt with
 | 0,_=>exact h
 | 1,_=>exact h
theorem WW.d1 (hE:EOK E B0) (hPX:∀ f d s,E.PX f d s->∀ gs C sl t q,XS E B0 L 0 0 d (G s.1 s.2) gs C t q->Wins E.P Post (crowd gs C sl) t) {s sa sb:St}{n:Nat}(hdn:0<dn)
  (ha:∀ C,FB E.bx C->WgS E.A.Wg E.tW C KK 0->stepG E.P false (G s.1 s.2) C = .go (G sa.1 sa.2) (C.setCell ⟨E.A.Wg,0,none⟩ (.int .u64 0)) #[rdE E.A.Wg 0,wrE E.A.Wg 0]) (hq:QuitsD E.P n dn (G sa.1 sa.2))
  (hb:∀ C,FB E.bx C->WgS E.A.Wg E.tW C (KK+1) 0->stepG E.P false (G s.1 s.2) C = .go (G sb.1 sb.2) (C.setCell ⟨E.A.Wg,0,none⟩ (.int .u64 1)) #[rdE E.A.Wg 0,wrE E.A.Wg 0])
  (k:WW E B0 (TJx E.A) (fun _=>1) R3 nx dn (G sb.1 sb.2) L Post):WW E B0 (TJx E.A) Ph.st R2 nx dn (G s.1 s.2) L Post:=by
 refine .of hE (ah6 hE.ap) rp2 rfl fun ph d a gs C sl t q hinv hr=>?_
 have hev:∀ e∈(#[rdE E.A.Wg 0,wrE E.A.Wg 0]:Array Event),e.loc = .mark .disable\/e.loc = .mark .enable\/∃ a wr,e=⟨.cell a,wr,true⟩/\a.block=E.A.Wg:=by
  intro e he;simp at he;rcases he with rfl | rfl
  ·exact .inr (.inr ⟨_,_,rfl,rfl⟩)
  ·exact .inr (.inr ⟨_,_,rfl,rfl⟩)
 have htr:∀ fn pos,TJx E.A C.heap.size (t++MemOp.ofEvents E.A.n fn pos #[rdE E.A.Wg 0,wrE E.A.Wg 0]):=fun fn pos=>ay3 hE.ap hinv.tr (by rw [hinv.wr.size]; exact lN hE.wl hinv.low) hinv.dn hev (bP3 hdn rfl)
 have hchs:∀ v,ChS E.A.Ch (C.setCell ⟨E.A.Wg,0,none⟩ v) ph.cl:=fun v=>by
  obtain ⟨s',r',hc⟩:=hinv.ch;exact ⟨s',r',by rw [heap_set,lr hE.cw]; exact hc⟩
 cases ph with
 | opn=>exact absurd rfl hr
 | cls=>
  obtain ⟨gs',h1,hz,h2,h3,h4,h5,h6⟩:=ax8 (sl:=sl) hinv (ha C hinv.bx hinv.wg);exact ⟨_,_,h1,XS.c hE hPX (hinv.ps.woken (hchs _) _ _) rfl gs' _ sl _ _ (hinv.leaves hE hq 0 _ rfl (aH2 hinv.wg 0) h2 h3 h4 (htr _ _) h5 h6)⟩
 | reg=>
  obtain ⟨gs',h1,hz,h2,h3,h4,h5,h6⟩:=ax8 (sl:=sl) hinv (hb C hinv.bx hinv.wg);exact ⟨_,_,h1,k .reg d _ gs' _ sl _ q (hinv.group hE 0 _ (ph':= .reg) rfl (aH2 hinv.wg 1) h2 h3 h4 (htr _ _) h5 h6 (hinv.ps.woken (hchs _) _ _)) rfl⟩
theorem WW.d3 (hE:EOK E B0) {c:Int}{s s1:St}(hdn:0<dn) (h:∀ C,FB E.bx C->WgS E.A.Wg E.tW C c 0->stepG E.P false (G s.1 s.2) C = .go (G s1.1 s1.2) (C.setCell ⟨E.A.Wg,0,none⟩ (.int .u64 0)) #[wrE E.A.Wg 0])
  (k:WW E B0 (TJx E.A) (fun _=>0) R3 nx dn (G s1.1 s1.2) L Post):WW E B0 (TJx E.A) (fun _=>c) R3 nx dn (G s.1 s.2) L Post:=by
 refine .of hE (ah6 hE.ap) (rp3 c) rfl fun ph d a gs C sl t q hinv hr=>?_
 obtain rfl:ph = .reg:=hr
 obtain ⟨gs',h1,hz,h2,h3,h4,h5,h6⟩:=ax8 (sl:=sl) hinv (h C hinv.bx hinv.wg);refine ⟨_,_,h1,k .reg d _ gs' _ sl _ q (hinv.group hE 0 _ (ph':= .reg) rfl (aH2 hinv.wg 0) h2 h3 h4 (ay3 hE.ap hinv.tr (by rw [hinv.wr.size]; exact lN hE.wl hinv.low) hinv.dn (fun e he=>?_) (fun j e hj _=>?_)) h5 h6 (hinv.ps.woken ?_ _ _)) rfl⟩
 ·simp at he;subst he;exact .inr (.inr ⟨_,_,rfl,rfl⟩)
 ·have hlt:=(lg.1 hj).1;simp at hlt;subst hlt;exact hdn
 ·obtain ⟨s',r',hc⟩:=hinv.ch;exact ⟨s',r',by rw [heap_set,lr hE.cw]; exact hc⟩
theorem WW.d4 (hE:EOK E B0) (hPX:∀ f d s,E.PX f d s->∀ gs C sl t q,XS E B0 L 0 0 d (G s.1 s.2) gs C t q->Wins E.P Post (crowd gs C sl) t) {s s1:St}{n:Nat}(hdn:0<dn) (hm:mayWake E.P (G s.1 s.2)=true)
  (h:∀ C,FB E.bx C->WgS E.A.Wg E.tW C 0 0->stepG E.P false (G s.1 s.2) C = .go (G s1.1 s1.2) (C.setCell ⟨E.A.Wg,1,none⟩ (.int .u32 1)) #[mkE .disable,rdE E.A.Wg 1,wrE E.A.Wg 1,mkE .enable]) (hq:QuitsD E.P n dn (G s1.1 s1.2)) :
  WW E B0 (TJx E.A) (fun _=>0) R3 nx dn (G s.1 s.2) L Post:=by
 refine .of hE (ah6 hE.ap) (rp3 0) rfl fun ph d a gs C sl t q hinv hr=>?_
 obtain rfl:ph = .reg:=hr
 obtain ⟨gs',h1,hz,h2,h3,h4,h5,h6⟩:=ax8 (sl:=sl) hinv (h C hinv.bx hinv.wg);have hdb:deafBehind dn #[mkE .disable,rdE E.A.Wg 1,wrE E.A.Wg 1,mkE .enable]=dn:=rfl;have hchs:ChS E.A.Ch (C.setCell ⟨E.A.Wg,1,none⟩ (.int .u32 1)) Ph.reg.cl:=by
  obtain ⟨s',r',hc⟩:=hinv.ch;exact ⟨s',r',by rw [heap_set,lr hE.cw]; exact hc⟩
 have hrun:(woken E.P (G s.1 s.2) (G s1.1 s1.2) (C.setCell ⟨E.A.Wg,1,none⟩ (.int .u32 1)) a).status = .running:=by
  have hps:=hinv.ps;cases hps with
  | quiet=>rw [woken_run rfl]; rfl
  | w3=>rw [woken_run rfl]; rfl
  | blk k=>
   unfold woken;rw [ln (by rw [hm]; rfl)];rfl
 refine ⟨_,_,h1,XS.f hE hPX (hinv.ps.woken hchs _ _) rfl hrun gs' _ sl _ _ (hinv.leaves hE (by rw [hdb]; exact hq) 1 _ rfl (bj4 hinv.wg 1) h2 h3 h4 (ay3 hE.ap hinv.tr (by rw [hinv.wr.size]; exact lN hE.wl hinv.low) hinv.dn (fun e he=>?_) (fun j e hj hx=>?_)) h5 h6)⟩
 ·simp at he;rcases he with rfl | rfl | rfl | rfl
  ·exact .inl rfl
  ·exact .inr (.inr ⟨_,_,rfl,rfl⟩)
  ·exact .inr (.inr ⟨_,_,rfl,rfl⟩)
  ·exact .inr (.inl rfl)
 ·have hlt:=(lg.1 hj).1;simp at hlt;match j,hlt with
  | 0,_=>exact hdn
  | 1,_=>exact xI dn
  | 2,_=>exact xI dn
  | 3,_=>exact xI dn
end
end Hid
namespace Hid
open Go Go.Proofs Go.RowKit Go.Conc
noncomputable def bV8 (p:Program) (f:FuncId):Code:=((p.funcs[f]?).bind (·.body)).getD .skip
def sL:Code->Code
 | .seq a _=>a
 | c=>c
def sR:Code->Code
 | .seq _ b=>b
 | c=>c
def bB:Code->Code
 | .block _ b=>b
 | .loop b=>b
 | c=>c
def rO:Code->Array Oper
 | .region _ o _=>o
 | _=>#[]
noncomputable def c49:Code:=bV8 Try.prog 49
noncomputable def cA1:Code:=sR c49
noncomputable def cA2:Code:=sR cA1
noncomputable def cA3:Code:=sR cA2
noncomputable def cA4:Code:=sR cA3
noncomputable def cA6:Code:=sR cA4
noncomputable def cA8:Code:=sR cA6
noncomputable def lp1:Code:=bB (bB (sR (sL cA4)))
noncomputable def lp2:Code:=bB (bB (sR (sL cA6)))
structure Ar where
 b0:Option Addr
 n0:Nat
 c0:Nat
 i1:Int
 i2:Int
 b3:Option Addr
 n3:Nat
 c3:Nat
 i4:Int
 m:Nat
 w:Nat->Value
 rest:List Value
theorem lt9 {n:Nat}(h:n<=8):n=0\/n=1\/n=2\/n=3\/n=4\/n=5\/n=6\/n=7\/n=8:=by omega
namespace Ar
variable (a:Ar)
def v0:Value:= .slice a.b0 a.n0 a.c0
def v3:Value:= .slice a.b3 a.n3 a.c3
def V:Value:= .slice (some ⟨a.m+5,0,none⟩) a.n3 a.n3
def pt (i:Nat):Value:= .pointer (some ⟨a.m+i,0,none⟩)
noncomputable def tm0:Array Value:=⟨a.v0:: .int .i64 a.i1:: .int .i64 a.i2::a.v3:: .int .i64 a.i4:: .int .i64 1::a.w 6::a.w 7::a.w 8::a.w 9::a.w 10::a.w 11::a.w 12::a.w 13::a.w 14::a.w 15::a.w 16::a.w 17::a.w 18::a.w 19::a.w 20::a.w 21::a.w 22::a.w 23::a.w 24::a.w 25::a.w 26::a.w 27::a.w 28::a.w 29::a.w 30::a.w 31::a.w 32::a.w 33::a.w 34::a.w 35::a.w 36::a.w 37::a.rest⟩
noncomputable def tmP (x16 x22 x23 x24 x25 x26 x27 x28 x29 x30 x31 x32 x33 x34 x35 x36 x37:Value):Array Value:=⟨a.v0:: .int .i64 a.i1:: .int .i64 a.i2::a.v3:: .int .i64 a.i4:: .int .i64 1::a.pt 0::a.pt 1::a.pt 2::a.pt 3::a.pt 4::a.w 11:: .slice none 0 0::a.pt 6::a.pt 8::a.pt 9::x16::a.v3:: .int .i64 a.n3::a.V:: .chan (some (a.m+7)):: .int .i64 1::x22::x23::x24::x25::x26::x27::x28::x29::x30::x31::x32::x33::x34::x35::x36::x37::a.rest⟩
noncomputable def fr (tm:Array Value) (k:List Item):Frame:={ fn:=49,tmps:=tm,todo:=k,defers:=[],mode:= .run,kind:= .normal }
noncomputable def F0:Frame:=fr a.tm0 [.code c49]
noncomputable def FA:Frame:=fr (a.tmP (a.w 16) (.int .i64 0) (.bool true) (a.w 24) (a.w 25) (a.w 26) (a.w 27) (a.w 28) (a.w 29) (a.w 30) (a.w 31) (a.w 32) (a.w 33) (a.w 34) (a.w 35) (a.w 36) (a.w 37)) [.inRegion (rO (sL (bB (sL (sR (sR lp1)))))) [0],.code (sR (bB (sL (sR (sR lp1))))),.inBlock 1,.code (sR (sR (sR lp1))),.inLoop lp1,.inBlock 0,.code cA6]
noncomputable def ansA:List (List An):=[[.r a.m],[.r (a.m+1)],[.r (a.m+2)],[.r (a.m+3)],[.r (a.m+4)],[.v a.v3],[.r (a.m+5)],[.r (a.m+6)],[.r (a.m+7)],[.r (a.m+8)],[.r (a.m+9)]]
noncomputable def nul:Value:= .slice none 0 0
noncomputable def b55:List (FuncId×List Did):=[(49,[.nw (.cells #[a.v0] 22 (0,0)) a.m]),(49,[.nw (.cells #[.int .i64 a.i1] 3 (0,0)) (a.m+1)]),(49,[.nw (.cells #[.int .i64 a.i2] 3 (0,0)) (a.m+2)]),(49,[.nw (.cells #[a.v3] 46 (0,0)) (a.m+3)]),(49,[.nw (.cells #[.int .i64 a.i4] 3 (0,0)) (a.m+4)]),
 (49,[.rd .plain ⟨a.m+3,0,none⟩ a.v3]),(49,[.nw (.cells (Array.replicate a.n3 nul) 92 (0,0)) (a.m+5)]),(49,[.nw (.cells #[nul] 90 (0,0)) (a.m+6)]),(49,[.wr .plain ⟨a.m+6,0,none⟩ a.V]),(49,[.nw (.chan 0 #[] false 0 0 false) (a.m+7)]),(49,[.nw (.cells #[.chan none] 117 (0,0)) (a.m+8)]),(49,[.wr .plain ⟨a.m+8,0,none⟩ (.chan (some (a.m+7)))]),
 (49,[.nw (.cells #[.int .u64 0,.int .u32 0] 127 (0,0)) (a.m+9)])]
noncomputable def T0:Frame:=fr a.tm0 [.code as4]
noncomputable def tmT (x26 x29 x30 x31 x33 x34 x35:Value):Array Value:=⟨a.v0:: .int .i64 a.i1:: .int .i64 a.i2::a.v3:: .int .i64 a.i4:: .int .i64 1::a.pt 0::a.pt 1::a.pt 2::a.pt 3::a.pt 4::a.w 11:: .slice none 0 0::a.pt 6::a.pt 8::a.pt 9::a.w 16:: .int .i64 a.n0:: .int .i64 a.n3::a.V:: .chan (some (a.m+7)):: .bool true:: .bool (decide (a.i1<0)):: .bool (decide (a.i2<0)):: .bool (decide (a.i4<0)):: .bool true::x26::a.w 27::a.w 28::x29::x30::x31::a.w 32::x33::x34::x35::a.w 36::a.w 37::a.rest⟩
noncomputable def TB (k:Int) (x26 x30 x31 x33 x34 x35:Value):Frame:=fr (a.tmT x26 (.int .i64 k) x30 x31 x33 x34 x35) [.code bv3,.inLoop bv3,.inBlock 2,.code bY1]
noncomputable def ansT:List (List An):=[[.r a.m],[.r (a.m+1)],[.r (a.m+2)],[.r (a.m+3)],[.r (a.m+4)],[.r (a.m+5)],[.r (a.m+6)],[.r (a.m+7)],[.r (a.m+8)],[.r (a.m+9)]]
noncomputable def b54:List (FuncId×List Did):=[(49,[.nw (.cells #[] 22 (0,0)) a.m]),(49,[.nw (.cells #[] 3 (0,0)) (a.m+1)]),(49,[.nw (.cells #[] 3 (0,0)) (a.m+2)]),(49,[.nw (.cells #[] 46 (0,0)) (a.m+3)]),(49,[.nw (.cells #[] 3 (0,0)) (a.m+4)]),
 (49,[.nw (.cells (Array.replicate a.n3 nul) 92 (0,0)) (a.m+5)]),(49,[.nw (.cells #[] 90 (0,0)) (a.m+6)]),(49,[.nw (.chan 0 #[] false 0 0 false) (a.m+7)]),(49,[.nw (.cells #[] 117 (0,0)) (a.m+8)]),(49,[.nw (.cells #[] 127 (0,0)) (a.m+9)])]
end Ar
open Ar
open Ar
theorem cb1 (a:Ar) (h:a.n3<=8) (cs:List Frame):runG Try.prog true 46 (a.F0,cs) a.ansA=some ((a.FA,cs),a.b55):=by
 obtain ⟨b0,n0,c0,i1,i2,b3,n3,c3,i4,m,w,rest⟩:=a;simp only at h
 rcases lt9 h with rfl | rfl | rfl | rfl | rfl | rfl | rfl | rfl | rfl<;>kernel_rfl
theorem cb0 (a:Ar) (h:a.n3<=8) (cs:List Frame):runR twp true 46 (a.T0,cs) a.ansT=some ((a.TB 0 (a.w 26) (a.w 30) (a.w 31) (a.w 33) (a.w 34) (a.w 35),cs),a.b54):=by
 obtain ⟨b0,n0,c0,i1,i2,b3,n3,c3,i4,m,w,rest⟩:=a;simp only at h
 rcases lt9 h with rfl | rfl | rfl | rfl | rfl | rfl | rfl | rfl | rfl<;>kernel_rfl
end Hid
end Go.Proofs.Ytbkgncikjhibiaa
