import Derived.Test.YtbkgncikjhibiaaGreatM9
set_option maxRecDepth 100000
set_option linter.unusedSimpArgs false
set_option linter.unusedVariables false
set_option linter.unusedSectionVars false
open Go.ConcN (sumTo upd sumTo_upd upd_ne upd_same)
/- Part 10 of the texts that the law's proof leans on. -/
namespace Go.Proofs.YtbkgncikjhibiaaGreat
namespace Hid
open Go.RowKit Go.Conc
structure LB (P:Program) (t:Trace) (gs:Array Goroutine) (n:Nat) (q:Nat->Nat):Prop where
 old:∀ i g,0<i->i≠n->gs[i]?=some g->QuitsD P (q i) (Deaf t i) g
 above:∀ j,gs.size<=j->Deaf t j=0
 lt:n<gs.size
 pos:0<n
section
variable {P:Program}{t t':Trace}{gs gs':Array Goroutine}{n:Nat}{q:Nat->Nat}
theorem LB.upd (h:LB P t gs n q) (hs:gs'.size=gs.size) (hg:∀ i g,0<i->i≠n->gs'[i]?=some g->gs[i]?=some g) (hd:∀ i,i≠0->i≠n->Deaf t' i=Deaf t i):LB P t' gs' n q:=by
 have:=h.lt
 have:=h.pos
 exact ⟨fun i g hi hn hx=>by rw [hd i (by omega) hn]; exact h.old i g hi hn (hg i g hi hn hx),fun j hj=>by rw [hd j (by omega) (by omega)]; exact h.above j (by omega),by omega,h.pos⟩
theorem LB.step (h:LB P t gs n q) {k:Nat}(hk:k=0\/k=n) (g g':Goroutine) (w:World) {u:Trace}(hu:∀ op∈u,op.g=0\/op.g=n):LB P (t++u) ((gs.map (woken P g g' w)).setIfInBounds k g') n q:=by
 have h1:=h.lt;have h2:=h.pos;refine h.upd (by simp) (fun i x hi hn hx=>?_) fun i hi hn=>?_
 ·rw [li (by omega),lZ] at hx;obtain ⟨y,hy,rfl⟩:=xk.1 hx;rw [woken_quitsD (h.old i y hi hn hy)];exact hy
 ·obtain ⟨l⟩:=u;rw [Deaf_append];have:∀ (l:List MemOp) (d:Nat),(∀ op∈l,op.g=0\/op.g=n)->l.foldl (deafStep i) d=d:=by
   intro l;induction l with
   | nil=>intro d _; rfl
   | cons y l ih=>
    intro d hl;rw [uQ,ih _ fun op hop=>hl op (by simp [hop])];have hy:=hl y (by simp);have:y.g≠i:=by rcases hy with e | e<;>rw [e]<;>omega
    unfold deafStep;split<;>simp [this]
  exact this l _ fun op hop=>hu op (by simpa using hop)
theorem LB.set (h:LB P t gs n q) (x y:Goroutine) {u:Trace}(hu:∀ op∈u,op.g=0\/op.g=n):LB P (t++u) ((gs.setIfInBounds 0 x).setIfInBounds n y) n q/\LB P (t++u) ((gs.setIfInBounds n y).setIfInBounds 0 x) n q/\LB P (t++u) (gs.setIfInBounds 0 x) n q/\LB P (t++u) (gs.setIfInBounds n y) n q:=by
 have h1:=h.lt;have h2:=h.pos;have hd:∀ i,i≠0->i≠n->Deaf (t++u) i=Deaf t i:=fun i hi hn=>by
  obtain ⟨l⟩:=u;rw [Deaf_append];have:∀ (l:List MemOp) (d:Nat),(∀ op∈l,op.g=0\/op.g=n)->l.foldl (deafStep i) d=d:=by
   intro l;induction l with
   | nil=>intro d _; rfl
   | cons y l ih=>
    intro d hl;rw [uQ,ih _ fun op hop=>hl op (by simp [hop])];have hy:=hl y (by simp);have:y.g≠i:=by rcases hy with e | e<;>rw [e]<;>omega
    unfold deafStep;split<;>simp [this]
  exact this l _ fun op hop=>hu op (by simpa using hop)
 refine ⟨h.upd (by simp) (fun i x hi hn hx=>?_) hd,h.upd (by simp) (fun i x hi hn hx=>?_) hd,h.upd (by simp) (fun i x hi hn hx=>?_) hd,h.upd (by simp) (fun i x hi hn hx=>?_) hd⟩
 ·rw [li (by omega),li (by omega)] at hx; exact hx
 ·rw [li (by omega),li (by omega)] at hx; exact hx
 ·rw [li (by omega)] at hx; exact hx
 ·rw [li (by omega)] at hx; exact hx
end
def FB (bx:Nat->Option Obj) (w:World):Prop:=∀ b o,bx b=some o->w.heap[b]?=some o
def WgS (Wg:Nat) (tW:TypeId) (w:World) (st sm:Int):Prop:=w.heap[Wg]?=some (.cells #[.int .u64 st,.int .u32 sm] tW (0,0))
def ChS (Ch:Nat) (w:World) (cl:Bool):Prop:=∃ s r,w.heap[Ch]?=some (.chan 0 #[] cl s r false)
def KK:Int:=4294967296
inductive Ph
 | opn
 | cls
 | reg
 deriving DecidableEq
def Ev0 (A:Area) (Low:Nat) (e:Event):Prop:=A.ok0 (.ofEvent e)/\(MemAct.ofEvent e).low Low
def WgL (Wg:Nat) (tW:TypeId) (w:World):Prop:=∃ s m,WgS Wg tW w s m
structure Env where
 P:Program
 A:Area
 bx:Nat->Option Obj
 tW:TypeId
 n3:Nat
 Low:Nat
 item:Nat->Value
 PX:Bool->Nat->St->Prop
inductive PS (E:Env):Nat->Ph->Nat->Goroutine->Prop
 | quiet {nx:Nat}{ph:Ph}{d:Nat}{s s1:St}{es:Array Event}(h:∀ w,FB E.bx w->WgL E.A.Wg E.tW w->stepG E.P true (G s.1 s.2) w = .go (G s1.1 s1.2) w es) (he:∀ e∈es,Ev0 E.A E.Low e) (k:PS E nx ph (deafBehind d es) (G s1.1 s1.2)):PS E nx ph d (G s.1 s.2)
 | send {nx:Nat}{s:St}(h:∀ w,FB E.bx w->stepG E.P true (G s.1 s.2) w = .comm (G s.1 s.2) #[scase E.A.Ch (E.item nx) (.tuple #[])] true .send w #[]) (hn:nx<E.n3) (k:PS E (nx+1) .opn 0 (G (s.1.finish undef) s.2)):PS E nx .opn 0 (G s.1 s.2)
 | parked {nx:Nat}{s:St}(hn:nx<E.n3) (k:PS E (nx+1) .opn 0 (G (s.1.finish undef) s.2)):PS E nx .opn 0 (parked (G s.1 s.2) #[scase E.A.Ch (E.item nx) (.tuple #[])] .send)
 | close {s s1:St}{es:Array Event}(h:∀ w s' r',FB E.bx w->w.heap[E.A.Ch]?=some (.chan 0 #[] false s' r' false)->stepG E.P true (G s.1 s.2) w = .go (G s1.1 s1.2) { w with heap:=w.heap.setIfInBounds E.A.Ch (.chan 0 #[] true s' r' false) } es)
   (hm:mayWake E.P (G s.1 s.2)=true) (he:∀ e∈es,Ev0 E.A E.Low e) (hd:deafBehind 0 es=0) (k:PS E E.n3 .cls 0 (G s1.1 s1.2)):PS E E.n3 .opn 0 (G s.1 s.2)
 | w1 {nx d:Nat}{s s1 s0:St}{es:Array Event}(h1:∀ w,FB E.bx w->WgS E.A.Wg E.tW w KK 0->stepG E.P true (G s.1 s.2) w = .go (G s1.1 s1.2) w es) (k1:PS E nx .cls (deafBehind d es) (G s1.1 s1.2))
   (h0:∀ w,FB E.bx w->WgS E.A.Wg E.tW w 0 0->stepG E.P true (G s.1 s.2) w = .go (G s0.1 s0.2) w es) (k0:E.PX true (deafBehind d es) s0) (he:∀ e∈es,Ev0 E.A E.Low e):PS E nx .cls d (G s.1 s.2)
 | w2 {nx d:Nat}{s s1 s0:St}{es es0:Array Event}(h1:∀ w,FB E.bx w->WgS E.A.Wg E.tW w KK 0->stepG E.P true (G s.1 s.2) w = .go (G s1.1 s1.2) (w.setCell ⟨E.A.Wg,0,none⟩ (.int .u64 (KK+1))) es) (k1:PS E nx .reg (deafBehind d es) (G s1.1 s1.2))
   (h0:∀ w,FB E.bx w->WgS E.A.Wg E.tW w 0 0->stepG E.P true (G s.1 s.2) w = .go (G s0.1 s0.2) w es0) (k0:E.PX true (deafBehind d es0) s0) (he:∀ e∈es,Ev0 E.A E.Low e) (he0:∀ e∈es0,Ev0 E.A E.Low e):PS E nx .cls d (G s.1 s.2)
 | w3 {nx d:Nat}{s s1:St}{es:Array Event}(hb:∀ w st,FB E.bx w->WgS E.A.Wg E.tW w st 0->stepG E.P true (G s.1 s.2) w = .go { G s.1 s.2 with status:= .blocked } w #[])
   (hf:∀ w,FB E.bx w->WgS E.A.Wg E.tW w 0 1->stepG E.P true (G s.1 s.2) w = .go (G s1.1 s1.2) (w.setCell ⟨E.A.Wg,1,none⟩ (.int .u32 0)) es) (k:E.PX false (deafBehind d es) s1) (he:∀ e∈es,Ev0 E.A E.Low e):PS E nx .reg d (G s.1 s.2)
 | blk {nx d:Nat}{s:St}(k:PS E nx .reg d (G s.1 s.2)):PS E nx .reg d { G s.1 s.2 with status:= .blocked }
def Ph.cl:Ph->Bool
 | .opn=>false
 | _=>true
def Ph.st:Ph->Int
 | .reg=>KK+1
 | _=>KK
structure TProp (A:Area) (T:Nat->Trace->Prop):Prop where
 app0:∀ B B' t u,T B t->B<=B'->(∀ op∈u,op.g=0)->(∀ op∈u,A.ok0 op.act)->(∀ op∈u,op.act.low B')->T B' (t++u)
 mute:∀ B t u,T B t->(∀ op∈u,op.act.touch?=none)->(∀ op∈u,op.act≠.mark (.release (st0 A.Wg)))->(∀ op∈u,op.act.low B)->T B (t++u)
theorem ak9 {A:Area}(hA:Apart A):TProp A (TI A):=⟨fun _ _ _ _ h hB hg hu hl=>h.app0 hA hB hg hu hl,fun _ _ _ h hn hr hl=>h.mute hn hr hl⟩
structure Inv [LoopOK] [Junk] (E:Env) (B0:Nat) (T:Nat->Trace->Prop) (st:Ph->Int) (nx:Nat) (dn:Nat) (b:Goroutine) (L:World) (ph:Ph) (d:Nat) (a:Goroutine) (gs:Array Goroutine) (C:World) (t:Trace) (q:Nat->Nat):Prop where
 g0:gs[0]?=some a
 gn:gs[E.A.n]?=some b
 lb:LB E.P t gs E.A.n q
 wr:WR C L
 old:∀ b:Nat,b<B0->C.heap[b]?=U b L.heap[b]?
 tape:C.tape=L.tape
 low:E.Low<=L.heap.size
 shun:∀ l,E.A.Shun l->∃ a T fz,l = .cell a/\L.heap[a.block]?=some (.cells #[] T fz)
 bx:FB E.bx C
 ch:ChS E.A.Ch C ph.cl
 chL:L.heap[E.A.Ch]?=some (.chan 0 #[] false 0 0 false)
 wg:WgS E.A.Wg E.tW C (st ph) 0
 hidb:∀ b o,E.bx b=some o->∃ T fz,L.heap[b]?=some (.cells #[] T fz)
 hidw:∃ T fz,L.heap[E.A.Wg]?=some (.cells #[] T fz)
 tr:T C.heap.size t
 d0:Deaf t 0=d
 dn:Deaf t E.A.n=dn
 ps:PS E nx ph d a
 cn:ph≠.opn->nx=E.n3
end Hid
namespace Hid
open Go.RowKit Go.Conc
variable [LoopOK] [Junk]
section
variable {E:Env}{B0:Nat}{T:Nat->Trace->Prop}{st:Ph->Int}{nx dn:Nat}{b:Goroutine}{L:World}{Post:Value->World->Prop}
theorem ae0 {g:Nat}{fn:FuncId}{pos:String}{es:Array Event}:∀ op∈MemOp.ofEvents g fn pos es,op.g=g:=fun op hop=>by obtain ⟨e,_,rfl⟩:=lI hop; rfl
theorem ar7 {A:Area}{Low:Nat}{fn:FuncId}{pos:String}{es:Array Event}(he:∀ e∈es,Ev0 A Low e):(∀ op∈MemOp.ofEvents 0 fn pos es,A.ok0 op.act)/\∀ op∈MemOp.ofEvents 0 fn pos es,op.act.low Low:=
 ⟨fun op hop=>by obtain ⟨e,h,rfl⟩:=lI hop; exact (he e h).1,fun op hop=>by obtain ⟨e,h,rfl⟩:=lI hop; exact (he e h).2⟩
theorem FB.at {bx:Nat->Option Obj}{w:World}(h:FB bx w) (d:Nat):FB bx (w.at d):=h
theorem Inv.at {ph:Ph}{d:Nat}{a:Goroutine}{gs:Array Goroutine}{C:World}{t:Trace}{q:Nat->Nat}(h:Inv E B0 T st nx dn b L ph d a gs C t q) (e:Nat):Inv E B0 T st nx dn b (L.at e) ph d a gs (C.at e) t q:=
 ⟨h.g0,h.gn,h.lb,⟨h.wr.os,h.wr.out,h.wr.size,h.wr.blk,h.wr.nv,h.wr.np,h.wr.lp⟩,h.old,h.tape,h.low,h.shun,h.bx,h.ch,h.chL,h.wg,h.hidb,h.hidw,h.tr,h.d0,h.dn,h.ps,h.cn⟩
theorem Inv.atC {ph:Ph}{d:Nat}{a:Goroutine}{gs:Array Goroutine}{C:World}{t:Trace}{q:Nat->Nat}(h:Inv E B0 T st nx dn b L ph d a gs C t q) (e:Nat):Inv E B0 T st nx dn b L ph d a gs (C.at e) t q:=
 ⟨h.g0,h.gn,h.lb,⟨h.wr.os,h.wr.out,h.wr.size,h.wr.blk,h.wr.nv,h.wr.np,h.wr.lp⟩,h.old,h.tape,h.low,h.shun,h.bx,h.ch,h.chL,h.wg,h.hidb,h.hidw,h.tr,h.d0,h.dn,h.ps,h.cn⟩
theorem be4 (w:World) (r:Nat) (o:Obj) (b:Nat):({ w with heap:=w.heap.setIfInBounds r o }:World).heap[b]?=if b=r/\b<w.heap.size then some o else w.heap[b]?:=by
 show (w.heap.setIfInBounds r o)[b]?=_;by_cases h:b=r
 ·subst h;by_cases hl:b<w.heap.size
  ·rw [lm ⟨rfl,hl⟩,ll hl]
  ·rw [lr (fun hh=>hl hh.2),xU (by simp; omega),xU (by omega)]
 ·rw [lr (fun hh=>h hh.1),li (fun e=>h e.symm)]
theorem Inv.chan {ph ph':Ph}{d d':Nat}{a a' b':Goroutine}{gs gs':Array Goroutine}{C:World}{t t':Trace}{q:Nat->Nat}{nx' dn':Nat}(h:Inv E B0 T st nx dn b L ph d a gs C t q) (hA:Apart E.A) (hB:∀ b o,E.bx b=some o->E.A.Bx b) (hCW:E.A.Ch≠E.A.Wg) (hCB:E.bx E.A.Ch=none) (hC0:B0<=E.A.Ch)
  {cl:Bool}{s r:Nat}(hcl:cl=ph'.cl) (hst:st ph'=st ph) (h0:gs'[0]?=some a') (hn:gs'[E.A.n]?=some b') (hl:LB E.P t' gs' E.A.n q) (htr:T C.heap.size t') (hd:Deaf t' 0=d') (hdn:Deaf t' E.A.n=dn') (hps:PS E nx' ph' d' a') (hcn:ph'≠.opn->nx'=E.n3) :
  Inv E B0 T st nx' dn' b' L ph' d' a' gs' { C with heap:=C.heap.setIfInBounds E.A.Ch (.chan 0 #[] cl s r false) } t' q:=by
 have hsz:=h.wr.size;obtain ⟨s0,r0,hch⟩:=h.ch;have hlt:E.A.Ch<C.heap.size:=(lh.1 hch).1;have e1:=be4 C E.A.Ch (.chan 0 #[] cl s r false);have ne:∀ b,b≠E.A.Ch->({ C with heap:=C.heap.setIfInBounds E.A.Ch (.chan 0 #[] cl s r false) }:World).heap[b]?=C.heap[b]?:=fun b hb=>by rw [e1,lr (fun hh=>hb hh.1)]
 refine ⟨h0,hn,hl,⟨h.wr.os,h.wr.out,by simp [hsz],fun b o ho=>?_,h.wr.nv,h.wr.np,h.wr.lp⟩,fun b hb=>?_,h.tape,h.low,h.shun,fun b o hb=>?_,⟨s,r,?_⟩,h.chL,?_,h.hidb,h.hidw,by simpa using htr,hd,hdn,hps,hcn⟩
 ·by_cases hc:b=E.A.Ch
  ·subst hc;refine ⟨_,by rw [e1,lm ⟨rfl,hlt⟩],.inr (.inr ?_)⟩;rw [h.chL] at ho;exact .inl ⟨0,cl,s,r,false,0,0,rfl,(sj ho).symm⟩
  ·rw [ne b hc];exact h.wr.blk b o ho
 ·rw [ne b (by omega)];exact h.old b hb
 ·rw [ne b (fun hc=>by subst hc; rw [hCB] at hb; cases hb)];exact h.bx b o hb
 ·rw [e1,lm ⟨rfl,hlt⟩,hcl]
 ·unfold WgS;rw [ne _ (xE hCW),hst];exact h.wg
structure EOK (E:Env) (B0:Nat):Prop where
 ap:Apart E.A
 bx:∀ b o,E.bx b=some o->E.A.Bx b
 bx':∀ b,E.A.Bx b->∃ o,E.bx b=some o
 cw:E.A.Ch≠E.A.Wg
 cb:E.bx E.A.Ch=none
 wb:E.bx E.A.Wg=none
 c0:B0<=E.A.Ch
 w0:B0<=E.A.Wg
 cl:E.A.Ch<E.Low
 wl:E.A.Wg<E.Low
theorem PS.status {ph:Ph}{d:Nat}{a:Goroutine}(h:PS E nx ph d a):a.status = .running\/a.status = .blocked:=by
 cases h<;>first | exact .inl rfl | exact .inr rfl
theorem PS.woken {ph:Ph}{d:Nat}{a:Goroutine}(h:PS E nx ph d a) {w:World}(hc:ChS E.A.Ch w ph.cl) (g g':Goroutine):PS E nx ph d (woken E.P g g' w a):=by
 have run:∀ s:St,Go.Conc.woken E.P g g' w (G s.1 s.2)=G s.1 s.2:=fun s=>woken_run rfl
 cases h with
 | quiet h he k=>rw [run]; exact .quiet h he k
 | send h hn k=>rw [run]; exact .send h hn k
 | close h hm he hd k=>rw [run]; exact .close h hm he hd k
 | w1 h1 k1 h0 k0 he=>rw [run]; exact .w1 h1 k1 h0 k0 he
 | w2 h1 k1 h0 k0 he he0=>rw [run]; exact .w2 h1 k1 h0 k0 he he0
 | w3 hb hf k he=>rw [run]; exact .w3 hb hf k he
 | parked hn k=>
  obtain ⟨s,r,hc⟩:=hc;rw [woken_send_open g g' hc];exact .parked hn k
 | @blk _ _ s k=>
  unfold Go.Conc.woken;split
  ·exact k
  ·exact .blk k
theorem Inv.keep {ph:Ph}{d d':Nat}{a a' b':Goroutine}{gs gs':Array Goroutine}{C:World}{t t':Trace}{q q':Nat->Nat}{dn':Nat}(h:Inv E B0 T st nx dn b L ph d a gs C t q)
  (h0:gs'[0]?=some a') (hn:gs'[E.A.n]?=some b') (hl:LB E.P t' gs' E.A.n q') (htr:T C.heap.size t') (hd:Deaf t' 0=d') (hdn:Deaf t' E.A.n=dn') (hps:PS E nx ph d' a'):Inv E B0 T st nx dn' b' L ph d' a' gs' C t' q':=
 ⟨h0,hn,hl,h.wr,h.old,h.tape,h.low,h.shun,h.bx,h.ch,h.chL,h.wg,h.hidb,h.hidw,htr,hd,hdn,hps,h.cn⟩
theorem Inv.group {ph ph':Ph}{d d':Nat}{a a' b':Goroutine}{gs gs':Array Goroutine}{C:World}{t t':Trace}{q:Nat->Nat}{dn':Nat}{T':Nat->Trace->Prop}{st':Ph->Int}(h:Inv E B0 T st nx dn b L ph d a gs C t q) (hE:EOK E B0) (i:Nat) (v:Value)
  (hcl:ph'.cl=ph.cl) (hw:WgS E.A.Wg E.tW (C.setCell ⟨E.A.Wg,i,none⟩ v) (st' ph') 0) (h0:gs'[0]?=some a') (hn:gs'[E.A.n]?=some b') (hl:LB E.P t' gs' E.A.n q) (htr:T' C.heap.size t') (hd:Deaf t' 0=d') (hdn:Deaf t' E.A.n=dn') (hps:PS E nx ph' d' a') :
  Inv E B0 T' st' nx dn' b' L ph' d' a' gs' (C.setCell ⟨E.A.Wg,i,none⟩ v) t' q:=by
 have ne:∀ b,b≠E.A.Wg->(C.setCell ⟨E.A.Wg,i,none⟩ v).heap[b]?=C.heap[b]?:=fun b hb=>by rw [heap_set,lr hb]
 have hsz:(C.setCell ⟨E.A.Wg,i,none⟩ v).heap.size=C.heap.size:=by simp [World.setCell]
 refine ⟨h0,hn,hl,⟨h.wr.os,h.wr.out,hsz.trans h.wr.size,fun b o ho=>?_,h.wr.nv,h.wr.np,h.wr.lp⟩,fun b hb=>?_,h.tape,h.low,h.shun,fun b o hb=>?_,?_,h.chL,hw,h.hidb,h.hidw,by rw [hsz]; exact htr,hd,hdn,hps,fun hn=>h.cn fun e=>hn ?_⟩
 ·by_cases hc:b=E.A.Wg
  ·subst hc;obtain ⟨T0,fz,hL⟩:=h.hidw;obtain ⟨o',k1,k2⟩:=h.wr.blk _ _ ho;have hC:=h.wg;unfold WgS at hC;rw [hL] at ho;cases ho;rw [hC] at k1;cases k1;rcases k2 with k2 | ⟨T1,c1,k2,k3⟩ | ⟨_,_,_,_,_,_,_,k2,_⟩ | ⟨⟨_,_,k2⟩,_⟩;rotate_left 3
   ·cases k2
   ·cases k2
   ·cases k2;cases k3;exact ⟨_,hw,.inr (.inl ⟨_,_,rfl,rfl⟩)⟩
   ·cases k2
  ·rw [ne b hc];exact h.wr.blk b o ho
 ·rw [ne b (by have:=hE.w0; omega)];exact h.old b hb
 ·rw [ne b (fun hc=>by subst hc; rw [hE.wb] at hb; cases hb)];exact h.bx b o hb
 ·obtain ⟨s,r,hc⟩:=h.ch;exact ⟨s,r,by rw [ne _ hE.cw,hcl]; exact hc⟩
 ·subst e;cases ph'<;>first | rfl | cases hcl
theorem aJ0 {Wg:Nat}{tW:TypeId}{w:World}{s m:Int}(h:WgS Wg tW w s m) (v:Int):WgS Wg tW (w.setCell ⟨Wg,0,none⟩ (.int .u64 v)) v m:=by
 unfold WgS at *
 rw [heap_set,lm rfl,h];rfl
theorem bn5 {Wg:Nat}{tW:TypeId}{w:World}{s m:Int}(h:WgS Wg tW w s m) (v:Int):WgS Wg tW (w.setCell ⟨Wg,1,none⟩ (.int .u32 v)) s v:=by
 unfold WgS at *
 rw [heap_set,lm rfl,h];rfl
theorem ao6 {P:Program}{t:Trace}{gs:Array Goroutine}{n:Nat}{q:Nat->Nat}(h:LB P t gs n q) {i k c:Nat}{send:Bool}(hi:(i=0/\k=n)\/(i=n/\k=0)) {x:Goroutine}(hx:gs[k]?=some x) :
  (offersAt x c send=[]->partners (gs.setIfInBounds i ph) c send=[])/\(∀ l,offersAt x c send=l->partners (gs.setIfInBounds i ph) c send=l.map fun m=>(k,m)):=by
 have hpos:=h.pos;have other:∀ (j:Nat) (g:Goroutine),j≠k->(gs.setIfInBounds i ph)[j]?=some g->offersAt g c send=[]:=fun j g hj hg=>by
  rcases getElem?_stand gs i j g hg with ⟨_,rfl⟩ | ⟨hji,hg'⟩
  ·exact offersAt_ph _ _
  ·refine offersAt_of_not_blocked (fun e=>?_) _ _;have:=(h.old j g (by omega) (by omega) hg').status
   rw [e] at this;rcases this with x | x<;>cases x
 have hk:(gs.setIfInBounds i ph)[k]?=some x:=by
  rw [li (by omega)];exact hx
 refine ⟨fun ho=>partners_nil fun j g hg=>?_,fun l hl=>?_⟩
 ·by_cases hj:j=k
  ·subst hj;rw [hk] at hg;cases hg;exact ho
  ·exact other j g hj hg
 ·rw [partners_one hk fun j g hj hg=>other j g hj hg,hl]
theorem a06 (g:Nat) (fn:FuncId) (pos:String) (t:Trace):t++MemOp.ofEvents g fn pos #[]=t:=by simp [ofEvents_none]
theorem Inv.cn5 (hE:EOK E B0) (hT:TProp E.A T) {ph:Ph}{d:Nat}{a b':Goroutine}{gs:Array Goroutine}{C:World}{t:Trace}{q:Nat->Nat}(h:Inv E B0 T st nx dn b L ph d a gs C t q) {i:Nat}{g:Goroutine}(h0:0<i) (hn:i≠E.A.n) (hi:gs[i]?=some g) (hg:g.status = .running)
  (hb':∀ g' w',w'.heap=C.heap->woken E.P g g' w' b=b'):∃ g' es k,q i=k+1/\stepG E.P false g C = .go g' C es/\
   Inv E B0 T st nx dn b' L ph d (woken E.P g g' C a) ((gs.map (woken E.P g g' C)).setIfInBounds i g') C (t++MemOp.ofEvents i g.frame.fn g.frame.place es) (upd q i k):=by
 have hq:=h.lb.old i g h0 hn hi;have hlt:i<gs.size:=(lh.1 hi).1;cases hqi:q i with
 | zero=>rw [hqi] at hq; rw [hq.1] at hg; cases hg
 | succ k=>
  rw [hqi] at hq;rcases hq with ⟨hf,_⟩ | ⟨_,g',es,hm,hstp,hq'⟩
  ·rw [hf] at hg; cases hg
  refine ⟨g',es,k,rfl,hstp C,?_⟩;have hpos:=h.lb.pos;have hlt':=h.lb.lt;refine h.keep ?_ ?_ ⟨fun j x hj hjn hx=>?_,fun j hj=>?_,by simp; exact hlt',hpos⟩ (hT.mute _ _ _ h.tr (fun op hop=>?_) (fun op hop=>?_) fun op hop=>?_) ?_ ?_ (h.ps.woken h.ch _ _)
  ·rw [li (by omega),lZ,h.g0];rfl
  ·rw [li hn,lZ,h.gn];exact congrArg some (hb' g' C rfl)
  ·by_cases hji:i=j
   ·subst hji;rw [ll (by simpa using hlt)] at hx;obtain rfl:=sj hx
    rw [upd_same,Deaf_own];exact hq'
   ·rw [li hji,lZ] at hx;obtain ⟨y,hy,rfl⟩:=xk.1 hx;have hqj:=h.lb.old j y hj hjn hy;rw [woken_quitsD hqj,upd_ne q k (xE hji),Deaf_other t hji _ ae0];exact hqj
  ·rw [Deaf_other t (g':=i) (by simp at hj; omega) _ ae0];exact h.lb.above j (by simpa using hj)
  ·obtain ⟨e,he,rfl⟩:=lI hop; exact touch_mute (hm e he)
  ·obtain ⟨e,he,rfl⟩:=lI hop;have:=hm e he
   obtain ⟨loc,wr,sy⟩:=e;cases loc with
   | mark m=>cases m<;>simp_all [Event.mute,MemAct.ofEvent]
   | _=>simp [Event.mute] at this
  ·obtain ⟨e,he,rfl⟩:=lI hop; exact low_mute (hm e he) _
  ·rw [Deaf_other t (g':=i) (by omega) _ ae0]; exact h.d0
  ·rw [Deaf_other t (g':=i) hn _ ae0]; exact h.dn
end
end Hid
namespace Hid
open Go.RowKit Go.Conc
variable [LoopOK] [Junk]
section
variable {E:Env}{B0:Nat}{T:Nat->Trace->Prop}{st:Ph->Int}{dn:Nat}{b:Goroutine}{L:World}{Post:Value->World->Prop}
theorem trio (hE:EOK E B0) (hT:TProp E.A T) {nx:Nat}{ph:Ph}{d:Nat}{a:Goroutine}(hab:a.status = .running\/b.status = .running) (hbs:b.status = .running\/∃ cs sh,b=parked b cs sh)
  (hbw:∀ g g' C,ChS E.A.Ch C ph.cl->woken E.P g g' C b=b) {M:Nat}
  (hleaver:∀ a' gs' C' sl' t' q',(a.status = .running->a'.status = .running)->sumTo gs'.size q'<M->Inv E B0 T st nx dn b L ph d a' gs' C' t' q'->Wins E.P Post (crowd gs' C' sl') t')
  (hwork:b.status = .running->∀ gs C sl t q,Inv E B0 T st nx dn b L ph d a gs C t q->∃ m' ops,runT E.P (crowd gs C sl) E.A.n=(.next m',ops)/\Wins E.P Post m' (t++ops))
  (hpar:a.status = .running->∀ gs C sl t q,sumTo gs.size q<=M->Inv E B0 T st nx dn b L ph d a gs C t q->∃ m' ops,runT E.P (crowd gs C sl) 0=(.next m',ops)/\Wins E.P Post m' (t++ops))
  (gs:Array Goroutine) (C:World) (sl:Option (Nat×Nat)) (t:Trace) (q:Nat->Nat) (hM:sumTo gs.size q<=M) (h:Inv E B0 T st nx dn b L ph d a gs C t q):Wins E.P Post (crowd gs C sl) t:=by
 have hpos:=h.lb.pos;have hlt:=h.lb.lt;have hb':b.status = .running\/b.status = .blocked:=hbs.imp id fun ⟨cs,sh,e⟩=>by rw [e]; rfl
 have haw:∀ g∈gs,awake g:=by
  intro g hg;obtain ⟨i,hi,rfl⟩:=uf.1 hg;have e:=lD hi;rcases xy i with rfl | hp
  ·rw [h.g0] at e;cases e;exact awake_of (h.ps.status.imp id .inl)
  ·by_cases hn:i=E.A.n
   ·subst hn;rw [h.gn] at e;obtain rfl:=sj e
    exact awake_of (hb'.imp id .inl)
   ·exact awake_of ((h.lb.old i _ hp hn e).status.elim .inl fun x=> .inr (.inr x))
 obtain ⟨i,g,dd,sl',hi,hg,hst⟩:=crowd_pick (P:=E.P) (w:=C) (sl:=sl) haw (by
  rcases hab with ha | hb
  ·exact ⟨0,a,h.g0,ha⟩
  ·exact ⟨E.A.n,b,h.gn,hb⟩)
 rcases xy i with rfl | hp
 ·obtain rfl:g=a:=by rw [h.g0] at hi; exact (sj hi).symm
  obtain ⟨m',ops,h1,h2⟩:=hpar hg gs (C.at dd) sl' t q hM (h.atC dd);exact .step (hst.trans h1) h2
 ·by_cases hn:i=E.A.n
  ·subst hn;obtain rfl:g=b:=by rw [h.gn] at hi; exact (sj hi).symm
   obtain ⟨m',ops,h1,h2⟩:=hwork hg gs (C.at dd) sl' t q (h.atC dd);exact .step (hst.trans h1) h2
  ·obtain ⟨g',es,k,hq,hgo,hinv⟩:=(h.atC dd).cn5 hE hT hp hn hi hg (b':=b) (fun g' w' hw=>hbw g g' w' (by
    obtain ⟨s,r,hc⟩:=h.ch;exact ⟨s,r,by rw [hw]; exact hc⟩))
   have hi0:(i==0)=false:=by simp; omega
   have hrunT:=runT_crowd_go (P:=E.P) (sl:=sl') (i:=i) hi (by rw [hi0]; exact hgo);have hlti:i<gs.size:=(lh.1 hi).1;refine .step (hst.trans hrunT) (hleaver _ _ _ _ _ _ (fun ha=>?_) ?_ hinv)
   ·rw [woken_run ha]; exact ha
   ·have hsz:((gs.map (woken E.P g g' (C.at dd))).setIfInBounds i g').size=gs.size:=by simp
    rw [hsz];have hsum:sumTo gs.size (upd q i k)+(k+1)=sumTo gs.size q+k:=by
     have:=sumTo_upd q k id hlti
     simpa [hq] using this
    omega
theorem bA1 (hb:b.status = .running) (P:Program) (g g':Goroutine) (C:World):woken P g g' C b=b:=woken_run hb
theorem bq1 (hE:EOK E B0) (hT:TProp E.A T) {nx:Nat}{ph:Ph}{d:Nat}{s:St}{es:Array Event}(hbw:∀ g g' C,ChS E.A.Ch C ph.cl->woken E.P g g' C b=b) {gs:Array Goroutine}{C:World}{sl:Option (Nat×Nat)}{t:Trace}{q:Nat->Nat}(h:Inv E B0 T st nx dn b L ph d (G s.1 s.2) gs C t q)
  {a':Goroutine}(hs:stepG E.P true (G s.1 s.2) C = .go a' C es) (he:∀ e∈es,Ev0 E.A E.Low e) (k:PS E nx ph (deafBehind d es) a') :
  ∃ gs',runT E.P (crowd gs C sl) 0=(.next (crowd gs' C sl),MemOp.ofEvents 0 s.1.fn s.1.place es)/\gs'.size=gs.size/\Inv E B0 T st nx dn b L ph (deafBehind d es) a' gs' C (t++MemOp.ofEvents 0 s.1.fn s.1.place es) q:=by
 have hpos:=h.lb.pos;have hlt:=h.lb.lt;refine ⟨_,runT_crowd_go (P:=E.P) (sl:=sl) (i:=0) h.g0 (by exact hs),by simp,h.keep ?_ ?_ (h.lb.step (.inl rfl) _ _ _ fun op hop=> .inl (ae0 op hop)) (hT.app0 _ _ _ _ h.tr (lf _) ae0 (ar7 he).1 fun op hop=>MemAct.low_mono (by rw [h.wr.size]; exact h.low) ((ar7 he).2 op hop)) ?_ ?_ k⟩
 ·rw [ll (by simp; omega)]
 ·rw [li (by omega),lZ,h.gn];exact congrArg some (hbw _ _ _ h.ch)
 ·rw [Deaf_own,h.d0]
 ·rw [Deaf_other t (g':=0) (by omega) _ ae0]; exact h.dn
theorem E1 (hE:EOK E B0) (hT:TProp E.A T) (hb:b.status = .running) {R:Ph->Prop}(hR1:R .opn->R .cls) (hR2:R .cls->R .reg) (hRs:∀ ph,R ph->st=Ph.st\/ph = .reg):∀ (M:Nat) {nx:Nat}{ph:Ph}{d:Nat}{a:Goroutine},PS E nx ph d a->R ph->
  (∀ ph d a gs C sl t q,Inv E B0 T st nx dn b L ph d a gs C t q->R ph->∃ m' ops,runT E.P (crowd gs C sl) E.A.n=(.next m',ops)/\Wins E.P Post m' (t++ops))->
  ∀ gs C sl t q,sumTo gs.size q<=M->Inv E B0 T st nx dn b L ph d a gs C t q->Wins E.P Post (crowd gs C sl) t:=by
 intro M;induction M using Nat.strongRecOn with
 | _ M ih=>
  intro nx ph d a hps;have hbw:∀ (cl:Bool) (g g':Goroutine) (C:World),ChS E.A.Ch C cl->woken E.P g g' C b=b:=fun _ g g' C _=>bA1 hb _ g g' C
  have go:∀ {nx:Nat}{ph:Ph}{d:Nat}{a:Goroutine},R ph->(∀ ph d a gs C sl t q,Inv E B0 T st nx dn b L ph d a gs C t q->R ph->∃ m' ops,runT E.P (crowd gs C sl) E.A.n=(.next m',ops)/\Wins E.P Post m' (t++ops))->
    (a.status = .running->∀ gs C sl t q,sumTo gs.size q<=M->Inv E B0 T st nx dn b L ph d a gs C t q->∃ m' ops,runT E.P (crowd gs C sl) 0=(.next m',ops)/\Wins E.P Post m' (t++ops))->
    ∀ gs C sl t q,sumTo gs.size q<=M->Inv E B0 T st nx dn b L ph d a gs C t q->Wins E.P Post (crowd gs C sl) t:=fun hph HW hpar gs C sl t q hM hinv=>
   trio hE hT (.inr hb) (.inl hb) (fun g g' C h=>hbw _ g g' C h) (fun a' gs' C' sl' t' q' _ hlt hinv'=>ih _ hlt hinv'.ps hph HW gs' C' sl' t' q' (lf _) hinv') (fun _ gs C sl t q hi=>HW _ _ _ gs C sl t q hi hph) hpar gs C sl t q hM hinv
  have blocked:∀ {nx:Nat}{ph:Ph}{d:Nat}{a:Goroutine},a.status = .blocked->R ph->(∀ ph d a gs C sl t q,Inv E B0 T st nx dn b L ph d a gs C t q->R ph->∃ m' ops,runT E.P (crowd gs C sl) E.A.n=(.next m',ops)/\Wins E.P Post m' (t++ops))->
    ∀ gs C sl t q,sumTo gs.size q<=M->Inv E B0 T st nx dn b L ph d a gs C t q->Wins E.P Post (crowd gs C sl) t:=fun ha hph HW=>go hph HW fun hr=>by rw [ha] at hr; cases hr
  induction hps with
  | @quiet nx ph d s s1 es h he k ihk=>
   intro hph HW;refine go hph HW fun _ gs C sl t q hM hinv=>?_
   obtain ⟨gs',h1,hz,h2⟩:=bq1 hE hT (fun g g' C h=>hbw _ g g' C h) hinv (sl:=sl) (h C hinv.bx ⟨_,_,hinv.wg⟩) he k;exact ⟨_,_,h1,ihk hph HW gs' C sl _ q (by rw [hz]; exact hM) h2⟩
  | @send nx s h hn k _=>
   intro hph HW;refine go hph HW fun _ gs C sl t q hM hinv=>?_
   obtain ⟨s',r',hc⟩:=hinv.ch;have hpos:=hinv.lb.pos;have hlt:=hinv.lb.lt;have hp:=(ao6 hinv.lb (i:=0) (k:=E.A.n) (c:=E.A.Ch) (send:=false) (.inl ⟨rfl,rfl⟩) hinv.gn).1 (offersAt_of_not_blocked (by rw [hb]; simp) _ _);have hw:=crowd_waits (P:=E.P) (sl:=sl) (i:=0) hinv.g0 (by exact h C hinv.bx) (fun cc hcc=>by
    simp at hcc;subst hcc;exact ways_send_none hc (lC _) hp)
   refine ⟨_,_,hw,?_⟩;rw [a06];refine blocked (a:=parked (G s.1 s.2) #[scase E.A.Ch (E.item nx) (.tuple #[])] .send) rfl hph HW _ C sl t q (by simpa using hM) (hinv.keep ?_ ?_ ?_ hinv.tr hinv.d0 hinv.dn (.parked hn k))
   ·rw [ll (by omega)]
   ·rw [li (by omega)]; exact hinv.gn
   ·have:=(hinv.lb.set (parked (G s.1 s.2) #[scase E.A.Ch (E.item nx) (.tuple #[])] .send) b (u:=#[]) (by simp)).2.2.1
    simpa using this
  | parked hn k _=>intro hph HW; exact blocked rfl hph HW
  | @close s s1 es h hm he hd k ihk=>
   intro hph HW;refine go hph HW fun _ gs C sl t q hM hinv=>?_
   obtain ⟨s',r',hc⟩:=hinv.ch;have hpos:=hinv.lb.pos;have hlt:=hinv.lb.lt;have hst:st=Ph.st:=(hRs _ hph).elim id fun e=>by cases e
   refine ⟨_,_,runT_crowd_go (P:=E.P) (sl:=sl) (i:=0) hinv.g0 (by exact h C s' r' hinv.bx hc),ihk (hR1 hph) HW _ _ sl _ q (by simpa using hM) (hinv.chan hE.ap hE.bx hE.cw hE.cb hE.c0 (ph':= .cls) rfl (by rw [hst]; rfl) ?_ ?_ (hinv.lb.step (.inl rfl) _ _ _ fun op hop=> .inl (ae0 op hop)) (hT.app0 _ _ _ _ hinv.tr (lf _) ae0 (ar7 he).1 fun op hop=>MemAct.low_mono (by rw [hinv.wr.size]; exact hinv.low) ((ar7 he).2 op hop)) ?_ ?_ k ?_)⟩
   ·rw [ll (by simp; omega)]
   ·rw [li (by omega),lZ,hinv.gn];exact congrArg some (bA1 hb _ _ _ _)
   ·rw [Deaf_own,hinv.d0]; exact hd
   ·rw [Deaf_other t (g':=0) (by omega) _ ae0]; exact hinv.dn
   ·intro _; rfl
  | @w1 nx d s s1 s0 es h1 k1 h0 k0 he ihk=>
   intro hph HW;refine go hph HW fun _ gs C sl t q hM hinv=>?_
   have hst:st=Ph.st:=(hRs _ hph).elim id fun e=>by cases e
   have hw:WgS E.A.Wg E.tW C KK 0:=by have:=hinv.wg; rw [hst] at this; exact this
   obtain ⟨gs',h2,hz,h3⟩:=bq1 hE hT (fun g g' C h=>hbw _ g g' C h) hinv (sl:=sl) (h1 C hinv.bx hw) he k1;exact ⟨_,_,h2,ihk hph HW gs' C sl _ q (by rw [hz]; exact hM) h3⟩
  | @w2 nx d s s1 s0 es es0 h1 k1 h0 k0 he he0 ihk=>
   intro hph HW;refine go hph HW fun _ gs C sl t q hM hinv=>?_
   have hpos:=hinv.lb.pos;have hlt:=hinv.lb.lt;have hst:st=Ph.st:=(hRs _ hph).elim id fun e=>by cases e
   have hw:WgS E.A.Wg E.tW C KK 0:=by have:=hinv.wg; rw [hst] at this; exact this
   refine ⟨_,_,runT_crowd_go (P:=E.P) (sl:=sl) (i:=0) hinv.g0 (by exact h1 C hinv.bx hw),ihk (hR2 hph) HW _ _ sl _ q (by simpa using hM) (hinv.group hE 0 _ (ph':= .reg) rfl (by rw [hst]; exact aJ0 hw _) ?_ ?_ (hinv.lb.step (.inl rfl) _ _ _ fun op hop=> .inl (ae0 op hop)) (hT.app0 _ _ _ _ hinv.tr (lf _) ae0 (ar7 he).1 fun op hop=>MemAct.low_mono (by rw [hinv.wr.size]; exact hinv.low) ((ar7 he).2 op hop)) ?_ ?_ k1)⟩
   ·rw [ll (by simp; omega)]
   ·rw [li (by omega),lZ,hinv.gn];exact congrArg some (bA1 hb _ _ _ _)
   ·rw [Deaf_own,hinv.d0]
   ·rw [Deaf_other t (g':=0) (by omega) _ ae0]; exact hinv.dn
  | @w3 nx d s s1 es hbk hf k he=>
   intro hph HW;refine go hph HW fun _ gs C sl t q hM hinv=>?_
   have hk:PS E nx .reg (deafBehind d #[]) { G s.1 s.2 with status:= .blocked }:= .blk (.w3 hbk hf k he);obtain ⟨gs',h2,hz,h3⟩:=bq1 hE hT (fun g g' C h=>hbw _ g g' C h) hinv (sl:=sl) (hbk C _ hinv.bx hinv.wg) (by simp) hk;exact ⟨_,_,h2,blocked rfl hph HW gs' C sl _ q (by rw [hz]; exact hM) h3⟩
  | blk k _=>intro hph HW; exact blocked rfl hph HW
end
end Hid
namespace Hid
open Go.RowKit Go.Conc
def EvF (L:World) (e:Event):Prop:=match e.loc with
 | .cell a=>∃ c T fz,L.heap[a.block]?=some (.cells c T fz)/\a.off<c.size
 | .obj r=>∃ o,L.heap[r]?=some o/\(∀ c T fz,o≠.cells c T fz)/\e.write=false/\e.sync=o.isChan
 | .mark .noRoom=>True
 | _=>False
structure OutF [Junk] (ok:Loop->Prop) (C L C' L':World) (es:Array Event):Prop where
 os:C'.os=L'.os
 out:C'.output=L'.output
 size:C'.heap.size=L'.heap.size
 blk:∀ (b:Nat) (o:Obj),L'.heap[b]?=some o->∃ o':Obj,C'.heap[b]?=some o'/\ObR o' o
 nv:∀ (b:Nat) (a:Addr) (u:TypeId),L'.heap[b]?=some (.view a u)->a.block=b/\Junk.G<=b
 np:∀ (b:Nat) (c:Array Value) (u:TypeId),L'.heap[b]?≠some (.pending c u)
 lp:∀ (b:Nat) (r:Loop),L'.heap[b]?=some (.loop r)->ok r
 szl:L.heap.size<=L'.heap.size
 row:∀ (b:Nat) c T fz,L.heap[b]?=some (Obj.cells c T fz)->∃ c' fz',L'.heap[b]?=some (.cells c' T fz')/\c'.size=c.size
 tc:C'.tape=C.tape
 tl:L'.tape=L.tape
 dr:L.drawn<=L'.drawn/\C'.drawn=C.drawn+(L'.drawn-L.drawn)
 heq:∀ b:Nat,C.heap[b]?=L.heap[b]?->C'.heap[b]?=L'.heap[b]?
 old:∀ b:Nat,C.heap[b]?=U b L.heap[b]?->C'.heap[b]?=U b L'.heap[b]?
 hid:∀ (b:Nat) T fz,L.heap[b]?=some (.cells #[] T fz)->C'.heap[b]?=C.heap[b]?
 obj:∀ (b:Nat) o,L.heap[b]?=some o->(∀ c T fz,o≠.cells c T fz)->L'.heap[b]?=some o/\C'.heap[b]?=C.heap[b]?
 evs:∀ e∈es,EvF L' e
theorem OutF.of [LoopOK] [Junk] (hs:¬ LoopOK.set) {C L C' L':World}{es:Array Event}(h:Out C L C' L' #[] es):OutF LoopOK.ok C L C' L' es:=by
 refine ⟨h.wr.os,h.wr.out,h.wr.size,h.wr.blk,h.wr.nv,h.wr.np,h.wr.lp,h.stay.size,h.stay.row,h.tc,h.tl,h.dr,h.heq,h.old,h.hid,h.obj hs,fun e he=>?_⟩;obtain ⟨ns,e1,hns⟩:=h.evs;have hev:=hns e (by rw [e1] at he; simpa using he);obtain ⟨loc,wr,sy⟩:=e;cases loc with
 | cell ad=>exact hev
 | obj r=>
  obtain ⟨o,h1,h2,h3⟩:=hev;exact ⟨o,h1,h2,h3 hs⟩
 | mark m=>cases m<;>first | exact hev.elim | trivial
 | output=>exact hev.elim
 | goroutines=>exact hev.elim
variable [inst:LoopOK] [Junk]
def WW (E:Env) (B0:Nat) (T:Nat->Trace->Prop) (st:Ph->Int) (R:Ph->Prop) (nx dn:Nat) (b:Goroutine) (L:World) (Post:Value->World->Prop):Prop:=
 ∀ ph d a gs C sl t q,Inv E B0 T st nx dn b L ph d a gs C t q->R ph->Wins E.P Post (crowd gs C sl) t
structure RP (st:Ph->Int) (R:Ph->Prop):Prop where
 r1:R .opn->R .cls
 r2:R .cls->R .reg
 rs:∀ ph,R ph->st=Ph.st\/ph = .reg
section
variable {E:Env}{B0:Nat}{T:Nat->Trace->Prop}{st:Ph->Int}{R:Ph->Prop}{nx dn:Nat}{b:Goroutine}{L:World}{Post:Value->World->Prop}
theorem WW.of (hE:EOK E B0) (hT:TProp E.A T) (hR:RP st R) (hb:b.status = .running)
  (HW:∀ ph d a gs C sl t q,Inv E B0 T st nx dn b L ph d a gs C t q->R ph->∃ m' ops,runT E.P (crowd gs C sl) E.A.n=(.next m',ops)/\Wins E.P Post m' (t++ops)):WW E B0 T st R nx dn b L Post:=
 fun ph d a gs C sl t q h hr=>E1 hE hT hb hR.r1 hR.r2 hR.rs (sumTo gs.size q) h.ps hr HW gs C sl t q (lf _) h
theorem ay9 {ph:Ph}{d:Nat}{a b':Goroutine}{gs:Array Goroutine}{C C':World}{sl:Option (Nat×Nat)}{t:Trace}{q:Nat->Nat}{es:Array Event}(h:Inv E B0 T st nx dn b L ph d a gs C t q) (hs:stepG E.P false b C = .go b' C' es) :
  ∃ gs',runT E.P (crowd gs C sl) E.A.n=(.next (crowd gs' C' sl),MemOp.ofEvents E.A.n b.frame.fn b.frame.place es)/\gs'.size=gs.size/\gs'[0]?=some (woken E.P b b' C' a)/\gs'[E.A.n]?=some b'/\LB E.P (t++MemOp.ofEvents E.A.n b.frame.fn b.frame.place es) gs' E.A.n q/\
   Deaf (t++MemOp.ofEvents E.A.n b.frame.fn b.frame.place es) 0=d/\Deaf (t++MemOp.ofEvents E.A.n b.frame.fn b.frame.place es) E.A.n=deafBehind dn es:=by
 have hpos:=h.lb.pos;have hlt:=h.lb.lt;have hi0:(E.A.n==0)=false:=by simp; omega
 refine ⟨_,runT_crowd_go (P:=E.P) (sl:=sl) (i:=E.A.n) h.gn (by rw [hi0]; exact hs),by simp,?_,?_,h.lb.step (.inr rfl) _ _ _ fun op hop=> .inr (ae0 op hop),?_,?_⟩
 ·rw [li (by omega),lZ,h.g0];rfl
 ·rw [ll (by simpa using hlt)]
 ·rw [Deaf_other t (g':=E.A.n) (by omega) _ ae0]; exact h.d0
 ·rw [Deaf_own,h.dn]
def Evn (A:Area) (Low:Nat) (e:Event):Prop:=A.okn (.ofEvent e)/\(MemAct.ofEvent e).low Low
theorem br8 {A:Area}{g Low:Nat}{fn:FuncId}{pos:String}{es:Array Event}(he:∀ e∈es,Evn A Low e):(∀ op∈MemOp.ofEvents g fn pos es,A.okn op.act)/\∀ op∈MemOp.ofEvents g fn pos es,op.act.low Low:=
 ⟨fun op hop=>by obtain ⟨e,h,rfl⟩:=lI hop; exact (he e h).1,fun op hop=>by obtain ⟨e,h,rfl⟩:=lI hop; exact (he e h).2⟩
theorem WW.still (hE:EOK E B0) (hT:TProp E.A T) (hR:RP st R) {s s1:St}{es:Array Event}{T':Nat->Trace->Prop}(h:∀ C ph,R ph->FB E.bx C->WR C L->WgS E.A.Wg E.tW C (st ph) 0->stepG E.P false (G s.1 s.2) C = .go (G s1.1 s1.2) C es)
  (htr:∀ B t fn pos,E.Low<=B->L.heap.size=B->T B t->Deaf t E.A.n=dn->T' B (t++MemOp.ofEvents E.A.n fn pos es)) (k:WW E B0 T' st R nx (deafBehind dn es) (G s1.1 s1.2) L Post):WW E B0 T st R nx dn (G s.1 s.2) L Post:=by
 refine .of hE hT hR rfl fun ph d a gs C sl t q hinv hr=>?_
 obtain ⟨gs',h1,hz,h2,h3,h4,h5,h6⟩:=ay9 (sl:=sl) hinv (h C ph hr hinv.bx hinv.wr hinv.wg);refine ⟨_,_,h1,k ph d _ gs' C sl _ q ⟨h2,h3,h4,hinv.wr,hinv.old,hinv.tape,hinv.low,hinv.shun,hinv.bx,hinv.ch,hinv.chL,hinv.wg,hinv.hidb,hinv.hidw,?_,h5,h6,hinv.ps.woken hinv.ch _ _,hinv.cn⟩ hr⟩;exact htr _ _ _ _ (by rw [hinv.wr.size]; exact hinv.low) hinv.wr.size.symm hinv.tr hinv.dn
theorem aY4 (hE:EOK E B0) {es:Array Event}(he:∀ e∈es,Evn E.A L.heap.size e):∀ B t fn pos,E.Low<=B->L.heap.size=B->TI E.A B t->Deaf t E.A.n=dn->TI E.A B (t++MemOp.ofEvents E.A.n fn pos es):=
 fun B t fn pos hB hL h _=>h.appn hE.ap (lf _) ae0 (br8 he).1 fun op hop=>hL▸(br8 he).2 op hop
def QAll (E:Env) (L:World):List (FuncId×List Did)->Prop
 | []=>True
 | (f,l)::r=>(∀ C,FB E.bx C->WR C L->WgL E.A.Wg E.tW C->Fits l C/\wOf l C=C)/\(∀ e∈seen E.P f (esOf l).toArray,Evn E.A L.heap.size e/\e.loc≠.mark .disable/\e.loc≠.mark .enable)/\QAll E L r
theorem WW.run (hE:EOK E B0) (hR:RP st R):∀ (n:Nat) {s s':St}{ans:List (List An)}{ls:List (FuncId×List Did)},runG E.P false n s ans=some (s',ls)->QAll E L ls->WW E B0 (TI E.A) st R nx dn (G s'.1 s'.2) L Post->WW E B0 (TI E.A) st R nx dn (G s.1 s.2) L Post:=by
 intro n;induction n with
 | zero=>intro s s' ans ls h hq k; cases h; exact k
 | succ n ih=>
  intro s s' ans ls h hq k;obtain ⟨s1,an,l,ans',r,h1,h2,h3⟩:=aJ9 h;rcases h3 with ⟨rfl,rfl⟩ | rfl
  ·refine WW.still (T':=TI E.A) hE (ak9 hE.ap) hR (es:=#[]) (fun C _ _ _ _ _=>ab4 h1 (w:=C) trivial) (aY4 hE (by simp)) (ih h2 hq k)
  ·have hd:deafBehind dn (seen E.P s.1.fn (esOf l).toArray)=dn:=deafBehind_still (fun e he=>(hq.2.1 e he).2) _;refine WW.still (T':=TI E.A) hE (ak9 hE.ap) hR (es:=seen E.P s.1.fn (esOf l).toArray) (fun C ph _ hb hw hg=>?_) (aY4 hE fun e he=>(hq.2.1 e he).1) (by rw [hd]; exact ih h2 hq.2.2 k);obtain ⟨hf,hw'⟩:=hq.1 C hb hw ⟨_,_,hg⟩;rw [ab4 h1 hf,hw']
theorem Inv.out (hE:EOK E B0) {ok:Loop->Prop}(hok:∀ r,ok r->LoopOK.ok r) {ph:Ph}{d:Nat}{a a' b':Goroutine}{gs gs':Array Goroutine}{C C' L':World}{t:Trace}{q:Nat->Nat}{es:Array Event}{fn:FuncId}{pos:String}(h:Inv E B0 (TI E.A) st nx dn b L ph d a gs C t q)
  (ho:OutF ok C (L.at C.drawn) C' L' es) (h0:gs'[0]?=some a') (hn:gs'[E.A.n]?=some b') (hl:LB E.P (t++MemOp.ofEvents E.A.n fn pos es) gs' E.A.n q) (hd:Deaf (t++MemOp.ofEvents E.A.n fn pos es) 0=d) (hdn:Deaf (t++MemOp.ofEvents E.A.n fn pos es) E.A.n=deafBehind dn es)
  (hps:PS E nx ph d a'):Inv E B0 (TI E.A) st nx dn b' L' ph d a' gs' C' (t++MemOp.ofEvents E.A.n fn pos es) q:=by
 have hsl:L.heap.size<=L'.heap.size:=ho.szl;have hb:∀ (b:Nat) T fz,L.heap[b]?=some (.cells #[] T fz)->∃ fz',L'.heap[b]?=some (.cells #[] T fz'):=fun b T fz hb=>by
  obtain ⟨c',fz',h1,h2⟩:=ho.row b _ _ _ hb;obtain rfl:c' = #[]:=xW.1 (by simpa using h2)
  exact ⟨fz',h1⟩
 have hch:L'.heap[E.A.Ch]?=some (.chan 0 #[] false 0 0 false)/\C'.heap[E.A.Ch]?=C.heap[E.A.Ch]?:=ho.obj _ _ h.chL fun _ _ _ hc=>by cases hc
 have ev:∀ e∈es,Evn E.A L'.heap.size e/\e.loc≠.mark .disable/\e.loc≠.mark .enable:=fun e he=>by
  have hev:=ho.evs e he;obtain ⟨loc,wr,sy⟩:=e;have lt:∀ {b:Nat}{o:Obj},L'.heap[b]?=some o->b<L'.heap.size:=fun h=>(lh.1 h).1
  cases loc with
  | cell ad=>
   obtain ⟨c,U,fz,k1,k2⟩:=hev;refine ⟨⟨⟨fun x hx=> .inl ?_,?_⟩,?_⟩,by simp,by simp⟩
   ·rw [ofEvent_cell0] at hx;simp only [MemAct.touch?,sk] at hx;subst hx;refine ⟨?_,fun hs=>?_⟩
    ·rintro (⟨a2,e2,hc⟩ | e2)
     ·cases e2;rcases hc with hc | hc
      ·obtain ⟨o,ho2⟩:∃ o,E.bx ad.block=some o:=hE.bx' _ hc;obtain ⟨U2,fz2,k3⟩:=h.hidb _ _ ho2;obtain ⟨fz3,k4⟩:=hb _ _ _ k3;rw [k1] at k4;cases k4;simp at k2
      ·obtain ⟨U2,fz2,k3⟩:=h.hidw;obtain ⟨fz3,k4⟩:=hb _ _ _ k3;rw [<-hc,k1] at k4;cases k4;simp at k2
     ·cases e2
    ·obtain ⟨a2,U2,fz2,e2,k3⟩:=h.shun _ hs;cases e2;obtain ⟨fz3,k4⟩:=hb _ _ _ k3;rw [k1] at k4;cases k4;simp at k2
   ·rw [ofEvent_cell0]; simp
   ·rw [ofEvent_cell0]; exact lt k1
  | obj r=>
   obtain ⟨o,k1,k2,k4,k5⟩:=hev;simp only at k4 k5
   subst k4;have e2:MemAct.ofEvent ⟨.obj r,false,sy⟩ = .access ⟨.obj r,false,sy⟩:=by cases sy<;>rfl
   refine ⟨⟨⟨fun x hx=>?_,by rw [e2]; simp⟩,by rw [e2]; exact lt k1⟩,by simp,by simp⟩;rw [e2] at hx;simp only [MemAct.touch?,sk] at hx;subst hx;by_cases hr:r=E.A.Ch
   ·subst hr;rw [hch.1] at k1;cases k1;right;right;right;exact ⟨rfl,by rw [k5]; rfl⟩
   ·left;refine ⟨?_,fun hs=>?_⟩
    ·rintro (⟨a2,e3,_⟩ | e3)
     ·cases e3
     ·cases e3; exact hr rfl
    ·obtain ⟨a2,U2,fz2,e3,_⟩:=h.shun _ hs;cases e3
  | mark m=>
   cases m<;>first | exact hev.elim | skip
   exact ⟨⟨⟨fun x hx=>(by cases hx),by simp [MemAct.ofEvent]⟩,trivial⟩,by simp,by simp⟩
  | output=>exact hev.elim
  | goroutines=>exact hev.elim
 have hdd:deafBehind dn es=dn:=deafBehind_still (fun e he=>(ev e he).2) _;refine ⟨h0,hn,hl,⟨ho.os,ho.out,ho.size,ho.blk,ho.nv,ho.np,fun b r hx=>hok r (ho.lp b r hx)⟩,fun b hb=>ho.old b (h.old b hb),by rw [ho.tc,ho.tl]; exact h.tape,lW h.low hsl,fun l hs=>?_,fun b o hx=>?_,?_,hch.1,?_,fun b o hx=>?_,?_,?_,hd,hdn.trans hdd,hps,h.cn⟩
 ·obtain ⟨a2,U,fz,e,hx⟩:=h.shun l hs;obtain ⟨fz',hx'⟩:=hb _ _ _ hx;exact ⟨a2,U,fz',e,hx'⟩
 ·obtain ⟨U,fz,hx'⟩:=h.hidb b o hx;rw [ho.hid b U fz hx'];exact h.bx b o hx
 ·obtain ⟨s,r,hc⟩:=h.ch;exact ⟨s,r,hch.2.trans hc⟩
 ·obtain ⟨U,fz,hx'⟩:=h.hidw;unfold WgS;rw [ho.hid _ U fz hx'];exact h.wg
 ·obtain ⟨U,fz,hx'⟩:=h.hidb b o hx;obtain ⟨fz',k⟩:=hb _ _ _ hx';exact ⟨U,fz',k⟩
 ·obtain ⟨U,fz,hx'⟩:=h.hidw;obtain ⟨fz',k⟩:=hb _ _ _ hx';exact ⟨U,fz',k⟩
 ·rw [ho.size];exact h.tr.appn hE.ap (by rw [h.wr.size]; exact hsl) ae0 (br8 fun e he=>(ev e he).1).1 (br8 fun e he=>(ev e he).1).2
end
end Hid
namespace Hid
open Go.RowKit Go.Conc
structure JB where
 v:LoopOK
variable [inst:LoopOK] [Junk]
section
variable {E:Env}{B0:Nat}{T:Nat->Trace->Prop}{st:Ph->Int}{R:Ph->Prop}{nx dn:Nat}{b:Goroutine}{L:World}{Post:Value->World->Prop}
theorem WW.job (hE:EOK E B0) (hR:RP st R) {p:Program}(J:JB) (hP:@Pair J.v p E.P) (hJs:¬ J.v.set) (hok:∀ r,J.v.ok r<->inst.ok r) (hG:GB p B0) (hfn:∀ f,J.v.fn f->E.P.funcs[f]?=p.funcs[f]?)
  {f:FuncId}{Q:Value->World->Prop}{c:Frame}{csT:List Frame}{y:Frame}{csP zs:List Frame}(hcs:csT≠[]) (hzs:c::csT=zs++[dmF p]) (hz:∀ z∈zs,z.defers=[]/\(z.mode = .run\/z.mode = .returning)) {g:Goroutine}{L:World}(ht:Tree p (AtRet p f Q) g L) :
  ∀ (x:Frame) (xs:List Frame),g=G x (xs++c::csT)->@FrOK J.v p E.P x->(∀ z∈xs,@FrOK J.v p E.P z)->
   (∀ v L',Tree p (AtRet p f Q) (G (c.finish v) csT) L'->Later p g L (G (c.finish v) csT) L'->WW E B0 (TI E.A) st R nx dn (G (y.finish v) csP) L' Post)->WW E B0 (TI E.A) st R nx dn (G x (xs++y::csP)) L Post:=by
 induction ht with
 | stop hs=>
  intro x xs hg;obtain ⟨fr,v,e,_⟩:=hs;rw [hg] at e;simp only [G,Goroutine.mk.injEq,and_true,true_and] at e;have:=congrArg List.length e.2
  simp at this;exact absurd (uv.1 (by omega)) hcs
 | @step g L nxt hst htr ih=>
  intro x xs hg hx hxs K;subst hg;refine .of hE (ak9 hE.ap) hR rfl fun ph d a gs C sl t q hinv hr=>?_
  obtain ⟨es,he⟩:=hst C.drawn;have htr':=htr C.drawn;have ih':=ih C.drawn;have hstp:=@aJ7 J.v _ p E.P true false x xs c csT (y::csP) C (L.at C.drawn) hP hx hxs (by
   have h:=hinv.wr;exact @WR.mk J.v _ C (L.at C.drawn) (h.os) (h.out) (h.size) (h.blk) (h.nv) (h.np) (fun b r hx=>(hok r).2 (h.lp b r hx))) (hinv.wr.gl hG hinv.old) (fun g2 L2 es2 _ i _=>by
   show C.tape _=L.tape _;rw [hinv.tape];rfl)
  rw [he] at hstp;generalize hr0:stepG E.P false (G x (xs++y::csP)) C=r at hstp;generalize hn:nxt C.drawn=n at *
  obtain ⟨g1,L1⟩:=n;simp only at hstp htr' ih' he
  have chs:∀ {C' L':World}{es:Array Event},OutF (@LoopOK.ok J.v) C (L.at C.drawn) C' L' es->ChS E.A.Ch C' ph.cl:=fun ho=>by
   obtain ⟨s,r,hc⟩:=hinv.ch;exact ⟨s,r,(ho.obj _ _ hinv.chL fun _ _ _ hc=>by cases hc).2.trans hc⟩
  cases hstp with
  | @go x' xs' C' _ _ hx' hxs' ho=>
   have hof:=@OutF.of J.v _ hJs _ _ _ _ _ ho;obtain ⟨gs',h1,hz1,h2,h3,h4,h5,h6⟩:=ay9 (sl:=sl) hinv hr0;exact ⟨_,_,h1,ih' x' xs' rfl hx' hxs' (fun v L' ht2 hl=>K v L' ht2 (.step he hl)) ph d _ gs' C' sl _ q (hinv.out hE (fun r h=>(hok r).1 h) hof h2 h3 h4 h5 h6 (hinv.ps.woken (chs hof) _ _)) hr⟩
  | as4 hne hJ=>exact absurd (hfn _ hJ) hne
  | @ret v C' _ _ hxs0 hm ho=>
   subst hxs0;have hof:=@OutF.of J.v _ hJs _ _ _ _ _ ho;have hk:x.kind = .normal:=@FrOK.kind J.v p E.P x hx;have e3:doReturn E.P false x (y::csP) none v C' = .go (G (y.finish v) csP) C':=by simp only [doReturn,hk]; rfl
   rw [e3,ac7] at hr0;obtain ⟨gs',h1,hz1,h2,h3,h4,h5,h6⟩:=ay9 (sl:=sl) hinv hr0;exact ⟨_,_,h1,K v _ htr' (.step he (.refl _ _)) ph d _ gs' C' sl _ q (hinv.out hE (fun r h=>(hok r).1 h) hof h2 h3 h4 h5 h6 (hinv.ps.woken (chs hof) _ _)) hr⟩
  | bad hb=>
   cases hb with
   | @panic x2 ch _ _ hm hd=>
    exfalso;rw [hzs,<-xH] at htr';refine aO2 (P:=E.P) htr' (.fr hm hd fun z hz'=>?_);rcases xZ.1 hz' with h | h
    ·exact ⟨@FrOK.defers J.v p E.P z (hxs z h),@FrOK.mode J.v p E.P z (hxs z h)⟩
    ·exact hz z h
theorem E2 (hE:EOK E B0) (hT:TProp E.A T) {s:St}{z:Value}(hst:st .opn=st .cls) {R R':Ph->Prop}(hRc:R' .cls) (hR0:R .opn):∀ (M:Nat) {nx:Nat}{ph:Ph}{d:Nat}{a:Goroutine},PS E nx ph d a->a.status = .running->ph = .opn->
  (nx<E.n3->WW E B0 T st R (nx+1) dn (G (s.1.finish (.tuple #[E.item nx,.bool true])) s.2) L Post)->(nx=E.n3->WW E B0 T st R' nx dn { parked (G s.1 s.2) #[rcase E.A.Ch z] (.recv true) with status:= .running } L Post)->
  ∀ gs C sl t q,sumTo gs.size q<=M->Inv E B0 T st nx dn (parked (G s.1 s.2) #[rcase E.A.Ch z] (.recv true)) L ph d a gs C t q->Wins E.P Post (crowd gs C sl) t:=by
 intro M;induction M using Nat.strongRecOn with
 | _ M ih=>
  intro nx ph d a hps;have hbw:∀ (g g':Goroutine) (C:World),ChS E.A.Ch C false->woken E.P g g' C (parked (G s.1 s.2) #[rcase E.A.Ch z] (.recv true))=parked (G s.1 s.2) #[rcase E.A.Ch z] (.recv true):=fun g g' C ⟨s',r',hc⟩=>woken_recv_open g g' hc
  have go:∀ {nx:Nat}{ph:Ph}{d:Nat}{a:Goroutine},a.status = .running->ph = .opn->
    (nx<E.n3->WW E B0 T st R (nx+1) dn (G (s.1.finish (.tuple #[E.item nx,.bool true])) s.2) L Post)->(nx=E.n3->WW E B0 T st R' nx dn { parked (G s.1 s.2) #[rcase E.A.Ch z] (.recv true) with status:= .running } L Post)->
    (∀ gs C sl t q,sumTo gs.size q<=M->Inv E B0 T st nx dn (parked (G s.1 s.2) #[rcase E.A.Ch z] (.recv true)) L ph d a gs C t q->∃ m' ops,runT E.P (crowd gs C sl) 0=(.next m',ops)/\Wins E.P Post m' (t++ops))->
    ∀ gs C sl t q,sumTo gs.size q<=M->Inv E B0 T st nx dn (parked (G s.1 s.2) #[rcase E.A.Ch z] (.recv true)) L ph d a gs C t q->Wins E.P Post (crowd gs C sl) t:=fun {nx ph d a} ha hph K1 K0 hpar gs C sl t q hM hinv=>by
   subst hph;exact trio (ph:= .opn) hE hT (.inl ha) (.inr ⟨_,_,rfl⟩) (fun g g' C h=>hbw g g' C h) (fun a' gs' C' sl' t' q' hr hlt hinv'=>ih _ hlt hinv'.ps (hr ha) rfl K1 K0 gs' C' sl' t' q' (lf _) hinv') (fun hb=>by cases hb) (fun _=>hpar) gs C sl t q hM hinv
  induction hps with
  | @quiet nx ph d s0 s1 es h he k ihk=>
   intro ha hph K1 K0;subst hph;refine go ha rfl K1 K0 fun gs C sl t q hM hinv=>?_
   obtain ⟨gs',h1,hz,h2⟩:=bq1 (ph:= .opn) hE hT (fun g g' C h=>hbw g g' C h) hinv (sl:=sl) (h C hinv.bx ⟨_,_,hinv.wg⟩) he k;exact ⟨_,_,h1,ihk rfl rfl K1 K0 gs' C sl _ q (by rw [hz]; exact hM) h2⟩
  | @send nx s0 h hn k _=>
   intro ha hph K1 K0;refine go ha rfl K1 K0 fun gs C sl t q hM hinv=>?_
   obtain ⟨s',r',hc⟩:=hinv.ch;have hpos:=hinv.lb.pos;have hlt:=hinv.lb.lt;have hp:=(ao6 hinv.lb (i:=0) (k:=E.A.n) (c:=E.A.Ch) (send:=false) (.inl ⟨rfl,rfl⟩) hinv.gn).2 [0] (by rw [offersAt_parked_recv,lm rfl]);have hw:=crowd_send_meets (P:=E.P) (sl:=sl) (i:=0) hinv.g0 (by exact h C hinv.bx) hc (by omega) hinv.gn hp;have hB:E.A.Ch<C.heap.size:=by rw [hinv.wr.size]; exact lP hE.cl hinv.low
   refine ⟨_,_,hw,K1 hn .opn 0 (G (s0.1.finish undef) s0.2) _ _ sl _ q ?_ hR0⟩;rw [show ∀ x:Trace,MemOp.ofEvents 0 (G s0.1 s0.2).frame.fn (G s0.1 s0.2).frame.place #[]++x=x from fun x=>by simp [ofEvents_none]];refine hinv.chan hE.ap hE.bx hE.cw hE.cb hE.c0 (ph':= .opn) rfl rfl ?_ ?_ (hinv.lb.set _ _ (by intro op hop; simp at hop; rcases hop with rfl | rfl | rfl | rfl<;>simp)).2.1 (hT.mute _ _ _ hinv.tr ?_ ?_ ?_) ?_ ?_ k (fun hh=>absurd rfl hh)
   ·rw [ll (by simp; omega)];rfl
   ·rw [li (by omega),ll (by omega)];rfl
   ·intro op hop; simp at hop; rcases hop with rfl | rfl | rfl | rfl<;>rfl
   ·intro op hop; simp at hop; rcases hop with rfl | rfl | rfl | rfl<;>simp
   ·intro op hop; simp at hop; rcases hop with rfl | rfl | rfl | rfl<;>exact hB
   ·rw [show ∀ a b c d:MemOp,(#[a,b,c,d]:Trace)=[a,b,c,d].toArray from fun _ _ _ _=>rfl,Deaf_append,hinv.d0]; rfl
   ·rw [show ∀ a b c d:MemOp,(#[a,b,c,d]:Trace)=[a,b,c,d].toArray from fun _ _ _ _=>rfl,Deaf_append,hinv.dn]; rfl
  | parked hn k _=>intro ha; cases ha
  | @close s0 s1 es h hm he hd k _=>
   intro ha hph K1 K0;refine go ha rfl K1 K0 fun gs C sl t q hM hinv=>?_
   obtain ⟨s',r',hc⟩:=hinv.ch;have hpos:=hinv.lb.pos;have hlt:=hinv.lb.lt;have hlC:E.A.Ch<C.heap.size:=(lh.1 hc).1;refine ⟨_,_,runT_crowd_go (P:=E.P) (sl:=sl) (i:=0) hinv.g0 (by exact h C s' r' hinv.bx hc),K0 rfl .cls 0 _ _ _ sl _ q (hinv.chan hE.ap hE.bx hE.cw hE.cb hE.c0 (ph':= .cls) rfl hst.symm ?_ ?_ (hinv.lb.step (.inl rfl) _ _ _ fun op hop=> .inl (ae0 op hop)) (hT.app0 _ _ _ _ hinv.tr (lf _) ae0 (ar7 he).1 fun op hop=>MemAct.low_mono (by rw [hinv.wr.size]; exact hinv.low) ((ar7 he).2 op hop)) ?_ ?_ k ?_) hRc⟩
   ·rw [ll (by simp; omega)]
   ·rw [li (by omega),lZ,hinv.gn];refine congrArg some ?_;unfold woken;rw [lm (by rw [hm]; rfl)];exact again_recv_closed (be4 C E.A.Ch _ _ |>.trans (by rw [lm ⟨rfl,hlC⟩]; rfl))
   ·rw [Deaf_own,hinv.d0]; exact hd
   ·rw [Deaf_other t (g':=0) (by omega) _ ae0]; exact hinv.dn
   ·intro _; rfl
  | w1=>intro _ hph; cases hph
  | w2=>intro _ hph; cases hph
  | w3=>intro _ hph; cases hph
  | blk=>intro _ hph; cases hph
def R1:Ph->Prop:=fun _=>True
def R2:Ph->Prop:=fun ph=>ph≠.opn
theorem rp1:RP Ph.st R1:=⟨fun _=>trivial,fun _=>trivial,fun _ _=> .inl rfl⟩
theorem rp2:RP Ph.st R2:=⟨fun h=>absurd rfl h,fun _=>by simp [R2],fun _ _=> .inl rfl⟩
theorem WW.recv2 (hE:EOK E B0) (hT:TProp E.A T) {b:Goroutine}{s:St}{z:Value}(hb:b.status = .running) (h:∀ C,FB E.bx C->WR C L->stepG E.P false b C = .comm (G s.1 s.2) #[rcase E.A.Ch z] true (.recv true) C #[])
  (K0:nx=E.n3->WW E B0 T Ph.st R2 nx dn (G (s.1.finish (.tuple #[z,.bool false])) s.2) L Post):WW E B0 T Ph.st R2 nx dn b L Post:=by
 refine .of hE hT rp2 hb fun ph d a gs C sl t q hinv hr=>?_
 have hpos:=hinv.lb.pos;have hlt:=hinv.lb.lt;have hi0:(E.A.n==0)=false:=by simp; omega
 obtain ⟨s',r',hc⟩:=hinv.ch;have hcl:ph.cl=true:=by cases ph<;>first | rfl | exact absurd rfl hr
 rw [hcl] at hc;have hno:offersAt a E.A.Ch true=[]:=by
  have:=hinv.ps
  cases this<;>first | exact absurd rfl hr | rfl
 have hp:=(ao6 hinv.lb (i:=E.A.n) (k:=0) (c:=E.A.Ch) (send:=true) (.inr ⟨rfl,rfl⟩) hinv.g0).1 hno;have hw:=crowd_recv_closed (P:=E.P) (sl:=sl) (i:=E.A.n) hinv.gn (by rw [hi0]; exact h C hinv.bx hinv.wr) hc hp;refine ⟨_,_,hw,?_⟩;rw [show ∀ x:Trace,MemOp.ofEvents E.A.n b.frame.fn b.frame.place #[]++x=x from fun x=>by simp [ofEvents_none]];have hB:E.A.Ch<C.heap.size:=by rw [hinv.wr.size]; exact lP hE.cl hinv.low
 refine K0 (hinv.cn hr) ph d a _ C sl _ q (hinv.keep ?_ ?_ (hinv.lb.set a _ (by intro op hop; simp at hop; subst hop; exact .inr rfl)).2.2.2 (hT.mute _ _ _ hinv.tr ?_ ?_ ?_) ?_ ?_ hinv.ps) hr
 ·rw [li (by omega)]; exact hinv.g0
 ·rw [ll hlt]; rfl
 ·intro op hop; simp at hop; subst hop; rfl
 ·intro op hop; simp at hop; subst hop; simp
 ·intro op hop; simp at hop; subst hop; exact hB
 ·rw [Deaf_push,hinv.d0]; rfl
 ·rw [Deaf_push,hinv.dn]; rfl
theorem WW.recv (hE:EOK E B0) (hT:TProp E.A T) {s:St}{z:Value}(h:∀ C,FB E.bx C->WR C L->stepG E.P false (G s.1 s.2) C = .comm (G s.1 s.2) #[rcase E.A.Ch z] true (.recv true) C #[])
  (K1:nx<E.n3->WW E B0 T Ph.st R1 (nx+1) dn (G (s.1.finish (.tuple #[E.item nx,.bool true])) s.2) L Post)
  (K0:nx=E.n3->WW E B0 T Ph.st R2 nx dn (G (s.1.finish (.tuple #[z,.bool false])) s.2) L Post):WW E B0 T Ph.st R1 nx dn (G s.1 s.2) L Post:=by
 refine .of hE hT rp1 rfl fun ph d a gs C sl t q hinv hr=>?_
 have hpos:=hinv.lb.pos;have hlt:=hinv.lb.lt;have hi0:(E.A.n==0)=false:=by simp; omega
 obtain ⟨s',r',hc⟩:=hinv.ch;have hB:E.A.Ch<C.heap.size:=by rw [hinv.wr.size]; exact lP hE.cl hinv.low
 have hst:=h C hinv.bx hinv.wr;have hnil:∀ x:Trace,MemOp.ofEvents E.A.n (G s.1 s.2).frame.fn (G s.1 s.2).frame.place #[]++x=x:=fun x=>by simp [ofEvents_none]
 by_cases hph:ph = .opn
 ·subst hph;have park:(a.status = .running)->∃ m' ops,runT E.P (crowd gs C sl) E.A.n=(.next m',ops)/\Wins E.P Post m' (t++ops):=fun ha=>by
   have hp:=(ao6 hinv.lb (i:=E.A.n) (k:=0) (c:=E.A.Ch) (send:=true) (.inr ⟨rfl,rfl⟩) hinv.g0).1 (offersAt_of_not_blocked (by rw [ha]; simp) _ _);have hw:=crowd_waits (P:=E.P) (sl:=sl) (i:=E.A.n) hinv.gn (by rw [hi0]; exact hst) (fun cc hcc=>by
    simp at hcc;subst hcc;exact ways_recv_none hc hp)
   refine ⟨_,_,hw,?_⟩;rw [a06];refine E2 hE hT (s:=s) (z:=z) rfl (R:=R1) (R':=R2) (by simp [R2]) trivial (sumTo (gs.setIfInBounds E.A.n (parked (G s.1 s.2) #[rcase E.A.Ch z] (.recv true))).size q) hinv.ps ha rfl K1 (fun e=>?_) _ C sl t q (lf _) (hinv.keep ?_ ?_ ?_ hinv.tr hinv.d0 hinv.dn hinv.ps)
   ·exact WW.recv2 hE hT rfl (s:=s) (z:=z) (fun C hb hw=>(stepG_tries false _ C).trans (h C hb hw)) K0
   ·rw [li (by omega)]; exact hinv.g0
   ·rw [ll hlt]
   ·have:=(hinv.lb.set a (parked (G s.1 s.2) #[rcase E.A.Ch z] (.recv true)) (u:=#[]) (by simp)).2.2.2
    simpa using this
  have hps:=hinv.ps;cases hps with
  | @parked nx s0 hn k=>
   have hp:=(ao6 hinv.lb (i:=E.A.n) (k:=0) (c:=E.A.Ch) (send:=true) (.inr ⟨rfl,rfl⟩) hinv.g0).2 [0] (by rw [offersAt_parked_send,lm rfl]);have hw:=crowd_recv_meets (P:=E.P) (sl:=sl) (i:=E.A.n) hinv.gn (by rw [hi0]; exact hst) hc (by omega) hinv.g0 hp;refine ⟨_,_,hw,K1 hn .opn 0 (G (s0.1.finish undef) s0.2) _ _ sl _ q ?_ trivial⟩;rw [hnil];refine hinv.chan hE.ap hE.bx hE.cw hE.cb hE.c0 (ph':= .opn) rfl rfl ?_ ?_ (hinv.lb.set _ _ (by intro op hop; simp at hop; rcases hop with rfl | rfl | rfl | rfl<;>simp)).1 (hT.mute _ _ _ hinv.tr ?_ ?_ ?_) ?_ ?_ k (fun hh=>absurd rfl hh)
   ·rw [li (by omega),ll (by omega)];rfl
   ·rw [ll (by simp; omega)];rfl
   ·intro op hop; simp at hop; rcases hop with rfl | rfl | rfl | rfl<;>rfl
   ·intro op hop; simp at hop; rcases hop with rfl | rfl | rfl | rfl<;>simp
   ·intro op hop; simp at hop; rcases hop with rfl | rfl | rfl | rfl<;>exact hB
   ·rw [show ∀ a b c d:MemOp,(#[a,b,c,d]:Trace)=[a,b,c,d].toArray from fun _ _ _ _=>rfl,Deaf_append,hinv.d0]; rfl
   ·rw [show ∀ a b c d:MemOp,(#[a,b,c,d]:Trace)=[a,b,c,d].toArray from fun _ _ _ _=>rfl,Deaf_append,hinv.dn]; rfl
  | quiet=>exact park rfl
  | send=>exact park rfl
  | close=>exact park rfl
 ·have hcl:ph.cl=true:=by cases ph<;>first | rfl | exact absurd rfl hph
  rw [hcl] at hc;have hno:offersAt a E.A.Ch true=[]:=by
   have:=hinv.ps
   cases this<;>first | exact absurd rfl hph | rfl
  have hp:=(ao6 hinv.lb (i:=E.A.n) (k:=0) (c:=E.A.Ch) (send:=true) (.inr ⟨rfl,rfl⟩) hinv.g0).1 hno;have hw:=crowd_recv_closed (P:=E.P) (sl:=sl) (i:=E.A.n) hinv.gn (by rw [hi0]; exact hst) hc hp;refine ⟨_,_,hw,?_⟩;rw [hnil];refine K0 (hinv.cn hph) ph d a _ C sl _ q (hinv.keep ?_ ?_ (hinv.lb.set a _ (by intro op hop; simp at hop; subst hop; exact .inr rfl)).2.2.2 (hT.mute _ _ _ hinv.tr ?_ ?_ ?_) ?_ ?_ hinv.ps) hph
  ·rw [li (by omega)]; exact hinv.g0
  ·rw [ll hlt]; rfl
  ·intro op hop; simp at hop; subst hop; rfl
  ·intro op hop; simp at hop; subst hop; simp
  ·intro op hop; simp at hop; subst hop; exact hB
  ·rw [Deaf_push,hinv.d0]; rfl
  ·rw [Deaf_push,hinv.dn]; rfl
end
end Hid
namespace Hid
open Go.RowKit Go.Conc
variable [inst:LoopOK] [Junk]
section
variable {E:Env}{B0:Nat}{nx dn:Nat}{L:World}{Post:Value->World->Prop}
def TJx (A:Area) (B:Nat) (t:Trace):Prop:=∃ r,TJ A B r t
theorem ah6 {A:Area}(hA:Apart A):TProp A (TJx A):=⟨fun _ _ _ _ ⟨r,h⟩ hB hg hu hl=>⟨r,h.app0 hA hB hg hu hl⟩,fun _ _ _ ⟨r,h⟩ hn hr hl=>⟨r,h.mute hn hr hl⟩⟩
theorem az4 {A:Area}(hA:Apart A) {B:Nat}{t:Trace}(h:TJx A B t) (hW:A.Wg<B) {fn:FuncId}{pos:String}{es:Array Event}(hd:Deaf t A.n=dn)
  (he:∀ e∈es,e.loc = .mark .disable\/e.loc = .mark .enable\/∃ a wr,e=⟨.cell a,wr,true⟩/\a.block=A.Wg) (hq:∀ j e,es[j]?=some e->(∃ a wr,e=⟨.cell a,wr,true⟩)->0<deafBehind dn (es.extract 0 j)):TJx A B (t++MemOp.ofEvents A.n fn pos es):=by
 obtain ⟨r,h⟩:=h;have mk:∀ {e:Event}{m:Mark},e.loc = .mark m->MemAct.ofEvent e = .mark m:=fun {e m} h=>by
  obtain ⟨loc,wr,sy⟩:=e;simp only at h
  subst h;rfl
 refine ⟨r,h.appn hA ae0 (fun op hop=>?_) (fun op hop=>?_) fun i hi=>?_⟩
 ·obtain ⟨e,hm,rfl⟩:=lI hop;rcases he e hm with h1 | h1 | ⟨a,wr,rfl,h2⟩
  ·simp only [mk h1]; exact ⟨fun b hb=>(by cases hb),by simp⟩
  ·simp only [mk h1]; exact ⟨fun b hb=>(by cases hb),by simp⟩
  ·have e2:MemAct.ofEvent ⟨.cell a,wr,true⟩ = .access ⟨.cell a,wr,true⟩:=by cases wr<;>rfl
   simp only [e2];refine ⟨fun b hb=>?_,by simp⟩;simp only [MemAct.touch?,sk] at hb;subst hb;exact ⟨a,rfl,h2,rfl⟩
 ·obtain ⟨e,hm,rfl⟩:=lI hop;rcases he e hm with h1 | h1 | ⟨a,wr,rfl,h2⟩
  ·simp only [mk h1]; trivial
  ·simp only [mk h1]; trivial
  ·have e2:MemAct.ofEvent ⟨.cell a,wr,true⟩ = .access ⟨.cell a,wr,true⟩:=by cases wr<;>rfl
   simp only [e2];show a.block<B;omega
 ·rintro ⟨x,hx,hxm,hk⟩;obtain ⟨op,hop,hopx⟩:=touch_of hx;have hop2:=hop;rw [ofEvents_eq] at hop2;rw [xq hi,lZ] at hop2;obtain ⟨e,hje,rfl⟩:=xk.1 hop2;rcases he e (Array.mem_of_getElem? hje) with h1 | h1 | ⟨a,wr,rfl,h2⟩
  ·simp only [mk h1] at hopx; cases hopx
  ·simp only [mk h1] at hopx; cases hopx
  ·have e2:MemAct.ofEvent ⟨.cell a,wr,true⟩ = .access ⟨.cell a,wr,true⟩:=by cases wr<;>rfl
   simp only [e2] at hopx;simp only [MemAct.touch?,sk] at hopx;subst hopx;rcases hk with hk | ⟨g,hg,hdf⟩
   ·exact hk rfl
   ·have hgn:g=A.n:=by
     simp [Trace.g?,hop] at hg;exact hg.symm
    subst hgn;have hj:i-t.size<=es.size:=by
     have:=(lh.1 hje).1
     omega
    have hin:=deaf_inside t A.n fn pos es (i-t.size) hj;rw [show t.size+(i-t.size)=i by omega,hdf,hd] at hin;have:=hq _ _ hje ⟨a,wr,rfl⟩
    omega
structure XS (E:Env) (B0:Nat) (L:World) (st sm:Int) (d:Nat) (a:Goroutine) (gs:Array Goroutine) (C:World) (t:Trace) (q:Nat->Nat):Prop where
 g0:gs[0]?=some a
 lv:Leavers E.P t gs q
 wr:WR C L
 old:∀ b:Nat,b<B0->C.heap[b]?=U b L.heap[b]?
 tape:C.tape=L.tape
 low:E.Low<=L.heap.size
 shun:∀ l,E.A.Shun l->∃ a T fz,l = .cell a/\L.heap[a.block]?=some (.cells #[] T fz)
 bx:FB E.bx C
 wg:WgS E.A.Wg E.tW C st sm
 hidw:∃ T fz,L.heap[E.A.Wg]?=some (.cells #[] T fz)
 tr:TJx E.A C.heap.size t
 d0:Deaf t 0=d
def T0 (A:Area) (B d:Nat) (t:Trace):Prop:=TJx A B t/\Deaf t 0=d
theorem aB0 {A:Area}{B d:Nat}:bh6 (T0 A B d):=fun t g fn pos es hg hm ⟨⟨r,h⟩,hd⟩=>by
 refine ⟨⟨r,h.mute (fun op hop=>?_) (fun op hop=>?_) fun op hop=>?_⟩,(Deaf_other t hg _ ae0).trans hd⟩
 ·obtain ⟨e,he,rfl⟩:=lI hop; exact touch_mute (hm e he)
 ·obtain ⟨e,he,rfl⟩:=lI hop;have:=hm e he
  obtain ⟨loc,wr,sy⟩:=e;cases loc with
  | mark m=>cases m<;>simp_all [Event.mute,MemAct.ofEvent]
  | _=>simp [Event.mute] at this
 ·obtain ⟨e,he,rfl⟩:=lI hop; exact low_mute (hm e he) _
theorem XS.go (hE:EOK E B0) {st sm st' sm':Int}{d:Nat}{s:St}{a':Goroutine}{gs:Array Goroutine}{C:World}{sl:Option (Nat×Nat)}{t:Trace}{q:Nat->Nat}{es:Array Event}(h:XS E B0 L st sm d (G s.1 s.2) gs C t q) (F:World->World)
  (hF:(∀ w,F w=w)/\st'=st/\sm'=sm\/∃ i v,(∀ w,F w=w.setCell ⟨E.A.Wg,i,none⟩ v)/\∀ w,WgS E.A.Wg E.tW w st sm->WgS E.A.Wg E.tW (w.setCell ⟨E.A.Wg,i,none⟩ v) st' sm')
  (hs:∀ w,FB E.bx w->WgS E.A.Wg E.tW w st sm->stepG E.P true (G s.1 s.2) w = .go a' (F w) es) (he:∀ e∈es,Ev0 E.A E.Low e)
  (hk:∀ gs C sl t q,XS E B0 L st' sm' (deafBehind d es) a' gs C t q->Wins E.P Post (crowd gs C sl) t):Wins E.P Post (crowd gs C sl) t:=by
 have hlow:E.Low<=C.heap.size:=by rw [h.wr.size]; exact h.low
 refine aR1 (T:=T0 E.A C.heap.size d) (T':=T0 E.A C.heap.size (deafBehind d es)) aB0 h.g0 rfl h.lv ⟨h.tr,h.d0⟩ fun e=>⟨a',F (C.at e),es,hs _ h.bx h.wg,fun t fn pos ⟨⟨r,ht⟩,hd⟩=>⟨⟨r,ht.app0 hE.ap (lf _) ae0 (ar7 he).1 fun op hop=>MemAct.low_mono hlow ((ar7 he).2 op hop)⟩,by rw [Deaf_own,hd]⟩,fun gs' sl' t' q' g0 gz hl ht=>?_⟩
 rcases hF with ⟨hw,rfl,rfl⟩ | ⟨i,v,hw,hst⟩
 ·rw [hw];exact hk _ _ _ _ q' ⟨g0,hl,⟨h.wr.os,h.wr.out,h.wr.size,h.wr.blk,h.wr.nv,h.wr.np,h.wr.lp⟩,h.old,h.tape,h.low,h.shun,h.bx,h.wg,h.hidw,ht.1,ht.2⟩
 ·rw [hw];have ne:∀ b,b≠E.A.Wg->((C.at e).setCell ⟨E.A.Wg,i,none⟩ v).heap[b]?=C.heap[b]?:=fun b hb=>by rw [heap_set,lr hb]; rfl
  have hsz:((C.at e).setCell ⟨E.A.Wg,i,none⟩ v).heap.size=C.heap.size:=by simp [World.setCell,World.at]
  have hw':=hst (C.at e) h.wg;refine hk _ _ _ _ q' ⟨g0,hl,⟨h.wr.os,h.wr.out,hsz.trans h.wr.size,fun b o ho=>?_,h.wr.nv,h.wr.np,h.wr.lp⟩,fun b hb=>?_,h.tape,h.low,h.shun,fun b o hb=>?_,hw',h.hidw,by rw [hsz]; exact ht.1,ht.2⟩
  ·by_cases hc:b=E.A.Wg
   ·subst hc;obtain ⟨T0,fz,hL⟩:=h.hidw;obtain ⟨o',k1,k2⟩:=h.wr.blk _ _ ho;have hC:=h.wg;unfold WgS at hC;rw [hL] at ho;cases ho;rw [hC] at k1;cases k1;rcases k2 with k2 | ⟨T1,c1,k2,k3⟩ | ⟨_,_,_,_,_,_,_,k2,_⟩ | ⟨⟨_,_,k2⟩,_⟩;rotate_left 3
    ·cases k2
    ·cases k2
    ·cases k2;cases k3;exact ⟨_,hw',.inr (.inl ⟨_,_,rfl,rfl⟩)⟩
    ·cases k2
   ·rw [ne b hc];exact h.wr.blk b o ho
  ·rw [ne b (by have:=hE.w0; omega)];exact h.old b hb
  ·rw [ne b (fun hc=>by subst hc; rw [hE.wb] at hb; cases hb)];exact h.bx b o hb
theorem XS.c (hE:EOK E B0) (hPX:∀ f d s,E.PX f d s->∀ gs C sl t q,XS E B0 L 0 0 d (G s.1 s.2) gs C t q->Wins E.P Post (crowd gs C sl) t):∀ {nx:Nat}{ph:Ph}{d:Nat}{a:Goroutine},PS E nx ph d a->ph = .cls->
  ∀ gs C sl t q,XS E B0 L 0 0 d a gs C t q->Wins E.P Post (crowd gs C sl) t:=by
 intro nx ph d a hps;induction hps with
 | @quiet nx ph d s s1 es h he k ih=>
  intro hph gs C sl t q hx;exact hx.go hE id (.inl ⟨fun _=>rfl,rfl,rfl⟩) (fun w hb hw=>h w hb ⟨_,_,hw⟩) he (ih hph)
 | @w1 nx d s s1 s0 es h1 k1 h0 k0 he _=>
  intro hph gs C sl t q hx;exact hx.go hE id (.inl ⟨fun _=>rfl,rfl,rfl⟩) (fun w hb hw=>h0 w hb hw) he (hPX _ _ s0 k0)
 | @w2 nx d s s1 s0 es es0 h1 k1 h0 k0 he he0 _=>
  intro hph gs C sl t q hx;exact hx.go hE id (.inl ⟨fun _=>rfl,rfl,rfl⟩) (fun w hb hw=>h0 w hb hw) he0 (hPX _ _ s0 k0)
 | send=>intro hph; cases hph
 | parked=>intro hph; cases hph
 | close=>intro hph; cases hph
 | w3=>intro hph; cases hph
 | blk=>intro hph; cases hph
theorem XS.f (hE:EOK E B0) (hPX:∀ f d s,E.PX f d s->∀ gs C sl t q,XS E B0 L 0 0 d (G s.1 s.2) gs C t q->Wins E.P Post (crowd gs C sl) t):∀ {nx:Nat}{ph:Ph}{d:Nat}{a:Goroutine},PS E nx ph d a->ph = .reg->a.status = .running->
  ∀ gs C sl t q,XS E B0 L 0 1 d a gs C t q->Wins E.P Post (crowd gs C sl) t:=by
 intro nx ph d a hps;induction hps with
 | @quiet nx ph d s s1 es h he k ih=>
  intro hph _ gs C sl t q hx;exact hx.go hE id (.inl ⟨fun _=>rfl,rfl,rfl⟩) (fun w hb hw=>h w hb ⟨_,_,hw⟩) he (ih hph rfl)
 | @w3 nx d s s1 es hb hf k he=>
  intro hph _ gs C sl t q hx;exact hx.go hE (fun w=>w.setCell ⟨E.A.Wg,1,none⟩ (.int .u32 0)) (.inr ⟨1,_,fun _=>rfl,fun w hw=>bn5 hw 0⟩) (fun w hb' hw=>hf w hb' hw) he (hPX _ _ s1 k)
 | w1=>intro hph; cases hph
 | w2=>intro hph; cases hph
 | send=>intro hph; cases hph
 | parked=>intro hph; cases hph
 | close=>intro hph; cases hph
 | blk=>intro _ hr; cases hr
theorem Inv.leaves {T:Nat->Trace->Prop}{st:Ph->Int}{b:Goroutine}{ph:Ph}{d:Nat}{a a' b':Goroutine}{gs gs':Array Goroutine}{C C':World}{t t':Trace}{q:Nat->Nat}(h:Inv E B0 T st nx dn b L ph d a gs C t q) {n' dn':Nat}{st' sm':Int}(hE:EOK E B0)
  (hq:QuitsD E.P n' dn' b') (i:Nat) (v:Value) (hC:C'=C.setCell ⟨E.A.Wg,i,none⟩ v) (hw:WgS E.A.Wg E.tW C' st' sm') (h0:gs'[0]?=some a') (hn:gs'[E.A.n]?=some b') (hl:LB E.P t' gs' E.A.n q) (htr:TJx E.A C.heap.size t') (hd:Deaf t' 0=d) (hdn:Deaf t' E.A.n=dn') :
  XS E B0 L st' sm' d a' gs' C' t' (upd q E.A.n n'):=by
 subst hC;have ne:∀ b,b≠E.A.Wg->(C.setCell ⟨E.A.Wg,i,none⟩ v).heap[b]?=C.heap[b]?:=fun b hb=>by rw [heap_set,lr hb]
 have hsz:(C.setCell ⟨E.A.Wg,i,none⟩ v).heap.size=C.heap.size:=by simp [World.setCell]
 refine ⟨h0,⟨fun j g hj hg=>?_,hl.above⟩,⟨h.wr.os,h.wr.out,hsz.trans h.wr.size,fun b o ho=>?_,h.wr.nv,h.wr.np,h.wr.lp⟩,fun b hb=>?_,h.tape,h.low,h.shun,fun b o hb=>?_,hw,h.hidw,by rw [hsz]; exact htr,hd⟩
 ·by_cases hjn:j=E.A.n
  ·subst hjn;rw [hn] at hg;cases hg;rw [upd_same,hdn];exact hq
  ·rw [upd_ne q _ hjn];exact hl.old j g hj hjn hg
 ·by_cases hc:b=E.A.Wg
  ·subst hc;obtain ⟨T0,fz,hL⟩:=h.hidw;obtain ⟨o',k1,k2⟩:=h.wr.blk _ _ ho;have hC:=h.wg;unfold WgS at hC;rw [hL] at ho;cases ho;rw [hC] at k1;cases k1;rcases k2 with k2 | ⟨T1,c1,k2,k3⟩ | ⟨_,_,_,_,_,_,_,k2,_⟩ | ⟨⟨_,_,k2⟩,_⟩;rotate_left 3
   ·cases k2
   ·cases k2
   ·cases k2;cases k3;exact ⟨_,hw,.inr (.inl ⟨_,_,rfl,rfl⟩)⟩
   ·cases k2
  ·rw [ne b hc];exact h.wr.blk b o ho
 ·rw [ne b (by have:=hE.w0; omega)];exact h.old b hb
 ·rw [ne b (fun hc=>by subst hc; rw [hE.wb] at hb; cases hb)];exact h.bx b o hb
end
end Hid
namespace Hid
open Go.RowKit Go.Conc
variable [inst:LoopOK] [Junk]
section
variable {E:Env}{B0:Nat}{T:Nat->Trace->Prop}{st:Ph->Int}{R:Ph->Prop}{nx dn:Nat}{L:World}{Post:Value->World->Prop}
def R3:Ph->Prop:=fun ph=>ph = .reg
theorem rp3 (c:Int):RP (fun _=>c) R3:=⟨fun h=>(by cases h),fun h=>(by cases h),fun _ h=>Or.inr h⟩
def QNil (E:Env):List (FuncId×List Did)->Prop
 | []=>True
 | (f,l)::r=>(∀ C,WgL E.A.Wg E.tW C->Fits l C/\wOf l C=C)/\seen E.P f (esOf l).toArray = #[]/\QNil E r
theorem WW.bb5 (hE:EOK E B0) (hT:TProp E.A T) (hR:RP st R):∀ (n:Nat) {s s':St}{ans:List (List An)}{ls:List (FuncId×List Did)},runG E.P false n s ans=some (s',ls)->QNil E ls->WW E B0 T st R nx dn (G s'.1 s'.2) L Post->WW E B0 T st R nx dn (G s.1 s.2) L Post:=by
 intro n;induction n with
 | zero=>intro s s' ans ls h hq k; cases h; exact k
 | succ n ih=>
  intro s s' ans ls h hq k;obtain ⟨s1,an,l,ans',r,h1,h2,h3⟩:=aJ9 h;have nil:∀ B t fn pos,E.Low<=B->L.heap.size=B->T B t->Deaf t E.A.n=dn->T B (t++MemOp.ofEvents E.A.n fn pos #[]):=fun B t fn pos _ _ h _=>by rw [a06]; exact h
  rcases h3 with ⟨rfl,rfl⟩ | rfl
  ·exact WW.still (T':=T) hE hT hR (es:=#[]) (fun C _ _ _ _ _=>ab4 h1 (w:=C) trivial) nil (ih h2 hq k)
  ·refine WW.still (T':=T) hE hT hR (es:=#[]) (fun C ph _ hb hw hg=>?_) nil (ih h2 hq.2.2 k);obtain ⟨hf,hw'⟩:=hq.1 C ⟨_,_,hg⟩;rw [ab4 h1 hf,hw',hq.2.1]
def rdE (Wg i:Nat):Event:=⟨.cell ⟨Wg,i,none⟩,false,true⟩
def wrE (Wg i:Nat):Event:=⟨.cell ⟨Wg,i,none⟩,true,true⟩
def mkE (m:Mark):Event:=⟨.mark m,false,true⟩
theorem WW.r0 (hE:EOK E B0) (hR:RP st R) {s s1:St}(h:∀ C ph,R ph->FB E.bx C->WR C L->WgS E.A.Wg E.tW C (st ph) 0->stepG E.P false (G s.1 s.2) C = .go (G s1.1 s1.2) C #[mkE (.releaseMerge (st0 E.A.Wg))])
  (k:WW E B0 (TJx E.A) st R nx 0 (G s1.1 s1.2) L Post):WW E B0 (TI E.A) st R nx 0 (G s.1 s.2) L Post:=by
 refine WW.still (T':=TJx E.A) hE (ak9 hE.ap) hR h (fun B t fn pos hB _ ht hd=>⟨t.size,?_⟩) k;have:=ht.release (lP hE.wl hB) hd fn pos
 rw [ofEvents_eq];simpa [mkE,MemAct.ofEvent] using this
theorem WW.k1 (hE:EOK E B0) (hR:RP st R) {s s1:St}(h:∀ C ph,R ph->FB E.bx C->WR C L->WgS E.A.Wg E.tW C (st ph) 0->stepG E.P false (G s.1 s.2) C = .go (G s1.1 s1.2) C #[mkE .disable])
  (k:WW E B0 (TJx E.A) st R nx (dn+1) (G s1.1 s1.2) L Post):WW E B0 (TJx E.A) st R nx dn (G s.1 s.2) L Post:=
 WW.still (T':=TJx E.A) hE (ah6 hE.ap) hR h (fun B t fn pos hB _ ht hd=>az4 hE.ap ht (lP hE.wl hB) hd (fun e he=>by simp at he; subst he; exact .inl rfl) (fun j e hj he=>by
  obtain ⟨a,wr,rfl⟩:=he;have:=Array.mem_of_getElem? hj
  simp [mkE] at this)) k
theorem WW.d2 (hE:EOK E B0) (hR:RP st R) {s s1:St}(h:∀ C ph,R ph->FB E.bx C->WR C L->WgS E.A.Wg E.tW C (st ph) 0->stepG E.P false (G s.1 s.2) C = .go (G s1.1 s1.2) C #[rdE E.A.Wg 0]) (hdn:0<dn)
  (k:WW E B0 (TJx E.A) st R nx dn (G s1.1 s1.2) L Post):WW E B0 (TJx E.A) st R nx dn (G s.1 s.2) L Post:=
 WW.still (T':=TJx E.A) hE (ah6 hE.ap) hR h (fun B t fn pos hB _ ht hd=>az4 hE.ap ht (lP hE.wl hB) hd (fun e he=>by simp at he; subst he; exact .inr (.inr ⟨_,_,rfl,rfl⟩)) (fun j e hj _=>by
  have hlt:=(lh.1 hj).1;simp at hlt;subst hlt;exact hdn)) k
theorem bV1 {Wg:Nat}(h:0<dn) {a b:Event}(ha:a=rdE Wg 0):∀ j e,(#[a,b]:Array Event)[j]?=some e->(∃ x wr,e=⟨.cell x,wr,true⟩)->0<deafBehind dn ((#[a,b]:Array Event).extract 0 j):=by
 intro j e hj _;have hlt:=(lh.1 hj).1;simp at hlt;subst ha;match j,hlt with
 | 0,_=>exact h
 | 1,_=>exact h
theorem WW.d1 (hE:EOK E B0) (hPX:∀ f d s,E.PX f d s->∀ gs C sl t q,XS E B0 L 0 0 d (G s.1 s.2) gs C t q->Wins E.P Post (crowd gs C sl) t) {s sa sb:St}{n:Nat}(hdn:0<dn)
  (ha:∀ C,FB E.bx C->WgS E.A.Wg E.tW C KK 0->stepG E.P false (G s.1 s.2) C = .go (G sa.1 sa.2) (C.setCell ⟨E.A.Wg,0,none⟩ (.int .u64 0)) #[rdE E.A.Wg 0,wrE E.A.Wg 0]) (hq:QuitsD E.P n dn (G sa.1 sa.2))
  (hb:∀ C,FB E.bx C->WgS E.A.Wg E.tW C (KK+1) 0->stepG E.P false (G s.1 s.2) C = .go (G sb.1 sb.2) (C.setCell ⟨E.A.Wg,0,none⟩ (.int .u64 1)) #[rdE E.A.Wg 0,wrE E.A.Wg 0])
  (k:WW E B0 (TJx E.A) (fun _=>1) R3 nx dn (G sb.1 sb.2) L Post):WW E B0 (TJx E.A) Ph.st R2 nx dn (G s.1 s.2) L Post:=by
 refine .of hE (ah6 hE.ap) rp2 rfl fun ph d a gs C sl t q hinv hr=>?_
 have hev:∀ e∈(#[rdE E.A.Wg 0,wrE E.A.Wg 0]:Array Event),e.loc = .mark .disable\/e.loc = .mark .enable\/∃ a wr,e=⟨.cell a,wr,true⟩/\a.block=E.A.Wg:=by
  intro e he;simp at he;rcases he with rfl | rfl
  ·exact .inr (.inr ⟨_,_,rfl,rfl⟩)
  ·exact .inr (.inr ⟨_,_,rfl,rfl⟩)
 have htr:∀ fn pos,TJx E.A C.heap.size (t++MemOp.ofEvents E.A.n fn pos #[rdE E.A.Wg 0,wrE E.A.Wg 0]):=fun fn pos=>az4 hE.ap hinv.tr (by rw [hinv.wr.size]; exact lP hE.wl hinv.low) hinv.dn hev (bV1 hdn rfl)
 have hchs:∀ v,ChS E.A.Ch (C.setCell ⟨E.A.Wg,0,none⟩ v) ph.cl:=fun v=>by
  obtain ⟨s',r',hc⟩:=hinv.ch;exact ⟨s',r',by rw [heap_set,lr hE.cw]; exact hc⟩
 cases ph with
 | opn=>exact absurd rfl hr
 | cls=>
  obtain ⟨gs',h1,hz,h2,h3,h4,h5,h6⟩:=ay9 (sl:=sl) hinv (ha C hinv.bx hinv.wg);exact ⟨_,_,h1,XS.c hE hPX (hinv.ps.woken (hchs _) _ _) rfl gs' _ sl _ _ (hinv.leaves hE hq 0 _ rfl (aJ0 hinv.wg 0) h2 h3 h4 (htr _ _) h5 h6)⟩
 | reg=>
  obtain ⟨gs',h1,hz,h2,h3,h4,h5,h6⟩:=ay9 (sl:=sl) hinv (hb C hinv.bx hinv.wg);exact ⟨_,_,h1,k .reg d _ gs' _ sl _ q (hinv.group hE 0 _ (ph':= .reg) rfl (aJ0 hinv.wg 1) h2 h3 h4 (htr _ _) h5 h6 (hinv.ps.woken (hchs _) _ _)) rfl⟩
theorem WW.d3 (hE:EOK E B0) {c:Int}{s s1:St}(hdn:0<dn) (h:∀ C,FB E.bx C->WgS E.A.Wg E.tW C c 0->stepG E.P false (G s.1 s.2) C = .go (G s1.1 s1.2) (C.setCell ⟨E.A.Wg,0,none⟩ (.int .u64 0)) #[wrE E.A.Wg 0])
  (k:WW E B0 (TJx E.A) (fun _=>0) R3 nx dn (G s1.1 s1.2) L Post):WW E B0 (TJx E.A) (fun _=>c) R3 nx dn (G s.1 s.2) L Post:=by
 refine .of hE (ah6 hE.ap) (rp3 c) rfl fun ph d a gs C sl t q hinv hr=>?_
 obtain rfl:ph = .reg:=hr
 obtain ⟨gs',h1,hz,h2,h3,h4,h5,h6⟩:=ay9 (sl:=sl) hinv (h C hinv.bx hinv.wg);refine ⟨_,_,h1,k .reg d _ gs' _ sl _ q (hinv.group hE 0 _ (ph':= .reg) rfl (aJ0 hinv.wg 0) h2 h3 h4 (az4 hE.ap hinv.tr (by rw [hinv.wr.size]; exact lP hE.wl hinv.low) hinv.dn (fun e he=>?_) (fun j e hj _=>?_)) h5 h6 (hinv.ps.woken ?_ _ _)) rfl⟩
 ·simp at he;subst he;exact .inr (.inr ⟨_,_,rfl,rfl⟩)
 ·have hlt:=(lh.1 hj).1;simp at hlt;subst hlt;exact hdn
 ·obtain ⟨s',r',hc⟩:=hinv.ch;exact ⟨s',r',by rw [heap_set,lr hE.cw]; exact hc⟩
theorem WW.d4 (hE:EOK E B0) (hPX:∀ f d s,E.PX f d s->∀ gs C sl t q,XS E B0 L 0 0 d (G s.1 s.2) gs C t q->Wins E.P Post (crowd gs C sl) t) {s s1:St}{n:Nat}(hdn:0<dn) (hm:mayWake E.P (G s.1 s.2)=true)
  (h:∀ C,FB E.bx C->WgS E.A.Wg E.tW C 0 0->stepG E.P false (G s.1 s.2) C = .go (G s1.1 s1.2) (C.setCell ⟨E.A.Wg,1,none⟩ (.int .u32 1)) #[mkE .disable,rdE E.A.Wg 1,wrE E.A.Wg 1,mkE .enable]) (hq:QuitsD E.P n dn (G s1.1 s1.2)) :
  WW E B0 (TJx E.A) (fun _=>0) R3 nx dn (G s.1 s.2) L Post:=by
 refine .of hE (ah6 hE.ap) (rp3 0) rfl fun ph d a gs C sl t q hinv hr=>?_
 obtain rfl:ph = .reg:=hr
 obtain ⟨gs',h1,hz,h2,h3,h4,h5,h6⟩:=ay9 (sl:=sl) hinv (h C hinv.bx hinv.wg);have hdb:deafBehind dn #[mkE .disable,rdE E.A.Wg 1,wrE E.A.Wg 1,mkE .enable]=dn:=rfl;have hchs:ChS E.A.Ch (C.setCell ⟨E.A.Wg,1,none⟩ (.int .u32 1)) Ph.reg.cl:=by
  obtain ⟨s',r',hc⟩:=hinv.ch;exact ⟨s',r',by rw [heap_set,lr hE.cw]; exact hc⟩
 have hrun:(woken E.P (G s.1 s.2) (G s1.1 s1.2) (C.setCell ⟨E.A.Wg,1,none⟩ (.int .u32 1)) a).status = .running:=by
  have hps:=hinv.ps;cases hps with
  | quiet=>rw [woken_run rfl]; rfl
  | w3=>rw [woken_run rfl]; rfl
  | blk k=>
   unfold woken;rw [lm (by rw [hm]; rfl)];rfl
 refine ⟨_,_,h1,XS.f hE hPX (hinv.ps.woken hchs _ _) rfl hrun gs' _ sl _ _ (hinv.leaves hE (by rw [hdb]; exact hq) 1 _ rfl (bn5 hinv.wg 1) h2 h3 h4 (az4 hE.ap hinv.tr (by rw [hinv.wr.size]; exact lP hE.wl hinv.low) hinv.dn (fun e he=>?_) (fun j e hj hx=>?_)) h5 h6)⟩
 ·simp at he;rcases he with rfl | rfl | rfl | rfl
  ·exact .inl rfl
  ·exact .inr (.inr ⟨_,_,rfl,rfl⟩)
  ·exact .inr (.inr ⟨_,_,rfl,rfl⟩)
  ·exact .inr (.inl rfl)
 ·have hlt:=(lh.1 hj).1;simp at hlt;match j,hlt with
  | 0,_=>exact hdn
  | 1,_=>exact xD dn
  | 2,_=>exact xD dn
  | 3,_=>exact xD dn
end
end Hid
namespace Hid
open Go Go.Proofs Go.RowKit Go.Conc
noncomputable def b27 (p:Program) (f:FuncId):Code:=((p.funcs[f]?).bind (·.body)).getD .skip
def sL:Code->Code
 | .seq a _=>a
 | c=>c
def sR:Code->Code
 | .seq _ b=>b
 | c=>c
def bB:Code->Code
 | .block _ b=>b
 | .loop b=>b
 | c=>c
def rO:Code->Array Oper
 | .region _ o _=>o
 | _=>#[]
noncomputable def c49:Code:=b27 Tryz.prog 27
noncomputable def cA1:Code:=sR c49
noncomputable def cA2:Code:=sR cA1
noncomputable def cA3:Code:=sR cA2
noncomputable def cA4:Code:=sR cA3
noncomputable def cA6:Code:=sR cA4
noncomputable def cA8:Code:=sR cA6
noncomputable def lp1:Code:=bB (bB (sR (sL cA4)))
noncomputable def lp2:Code:=bB (bB (sR (sL cA6)))
structure Ar where
 b0:Option Addr
 n0:Nat
 c0:Nat
 i1:Int
 i2:Int
 b3:Option Addr
 n3:Nat
 c3:Nat
 i4:Int
 m:Nat
 w:Nat->Value
 rest:List Value
theorem lt9 {n:Nat}(h:n<=8):n=0\/n=1\/n=2\/n=3\/n=4\/n=5\/n=6\/n=7\/n=8:=by omega
namespace Ar
variable (a:Ar)
def v0:Value:= .slice a.b0 a.n0 a.c0
def v3:Value:= .slice a.b3 a.n3 a.c3
def V:Value:= .slice (some ⟨a.m+5,0,none⟩) a.n3 a.n3
def pt (i:Nat):Value:= .pointer (some ⟨a.m+i,0,none⟩)
noncomputable def tm0:Array Value:=⟨a.v0:: .int .i64 a.i1:: .int .i64 a.i2::a.v3:: .int .i64 a.i4:: .int .i64 1::a.w 6::a.w 7::a.w 8::a.w 9::a.w 10::a.w 11::a.w 12::a.w 13::a.w 14::a.w 15::a.w 16::a.w 17::a.w 18::a.w 19::a.w 20::a.w 21::a.w 22::a.w 23::a.w 24::a.w 25::a.w 26::a.w 27::a.w 28::a.w 29::a.w 30::a.w 31::a.w 32::a.w 33::a.w 34::a.w 35::a.w 36::a.w 37::a.rest⟩
noncomputable def tmP (x16 x22 x23 x24 x25 x26 x27 x28 x29 x30 x31 x32 x33 x34 x35 x36 x37:Value):Array Value:=⟨a.v0:: .int .i64 a.i1:: .int .i64 a.i2::a.v3:: .int .i64 a.i4:: .int .i64 1::a.pt 0::a.pt 1::a.pt 2::a.pt 3::a.pt 4::a.w 11:: .slice none 0 0::a.pt 6::a.pt 8::a.pt 9::x16::a.v3:: .int .i64 a.n3::a.V:: .chan (some (a.m+7)):: .int .i64 1::x22::x23::x24::x25::x26::x27::x28::x29::x30::x31::x32::x33::x34::x35::x36::x37::a.rest⟩
noncomputable def fr (tm:Array Value) (k:List Item):Frame:={ fn:=27,tmps:=tm,todo:=k,defers:=[],mode:= .run,kind:= .normal }
noncomputable def F0:Frame:=fr a.tm0 [.code c49]
noncomputable def FA:Frame:=fr (a.tmP (a.w 16) (.int .i64 0) (.bool true) (a.w 24) (a.w 25) (a.w 26) (a.w 27) (a.w 28) (a.w 29) (a.w 30) (a.w 31) (a.w 32) (a.w 33) (a.w 34) (a.w 35) (a.w 36) (a.w 37)) [.inRegion (rO (sL (bB (sL (sR (sR lp1)))))) [0],.code (sR (bB (sL (sR (sR lp1))))),.inBlock 1,.code (sR (sR (sR lp1))),.inLoop lp1,.inBlock 0,.code cA6]
noncomputable def ansA:List (List An):=[[.r a.m],[.r (a.m+1)],[.r (a.m+2)],[.r (a.m+3)],[.r (a.m+4)],[.v a.v3],[.r (a.m+5)],[.r (a.m+6)],[.r (a.m+7)],[.r (a.m+8)],[.r (a.m+9)]]
noncomputable def nul:Value:= .slice none 0 0
noncomputable def cd0:List (FuncId×List Did):=[(27,[.nw (.cells #[a.v0] 22 (0,0)) a.m]),(27,[.nw (.cells #[.int .i64 a.i1] 3 (0,0)) (a.m+1)]),(27,[.nw (.cells #[.int .i64 a.i2] 3 (0,0)) (a.m+2)]),(27,[.nw (.cells #[a.v3] 32 (0,0)) (a.m+3)]),(27,[.nw (.cells #[.int .i64 a.i4] 3 (0,0)) (a.m+4)]),
 (27,[.rd .plain ⟨a.m+3,0,none⟩ a.v3]),(27,[.nw (.cells (Array.replicate a.n3 nul) 62 (0,0)) (a.m+5)]),(27,[.nw (.cells #[nul] 60 (0,0)) (a.m+6)]),(27,[.wr .plain ⟨a.m+6,0,none⟩ a.V]),(27,[.nw (.chan 0 #[] false 0 0 false) (a.m+7)]),(27,[.nw (.cells #[.chan none] 78 (0,0)) (a.m+8)]),(27,[.wr .plain ⟨a.m+8,0,none⟩ (.chan (some (a.m+7)))]),
 (27,[.nw (.cells #[.int .u64 0,.int .u32 0] 88 (0,0)) (a.m+9)])]
noncomputable def T0:Frame:=fr a.tm0 [.code as7]
noncomputable def tmT (x26 x29 x30 x31 x33 x34 x35:Value):Array Value:=⟨a.v0:: .int .i64 a.i1:: .int .i64 a.i2::a.v3:: .int .i64 a.i4:: .int .i64 1::a.pt 0::a.pt 1::a.pt 2::a.pt 3::a.pt 4::a.w 11:: .slice none 0 0::a.pt 6::a.pt 8::a.pt 9::a.w 16:: .int .i64 a.n0:: .int .i64 a.n3::a.V:: .chan (some (a.m+7)):: .bool true:: .bool (decide (a.i1<0)):: .bool (decide (a.i2<0)):: .bool (decide (a.i4<0)):: .bool true::x26::a.w 27::a.w 28::x29::x30::x31::a.w 32::x33::x34::x35::a.w 36::a.w 37::a.rest⟩
noncomputable def TB (k:Int) (x26 x30 x31 x33 x34 x35:Value):Frame:=fr (a.tmT x26 (.int .i64 k) x30 x31 x33 x34 x35) [.code bz6,.inLoop bz6,.inBlock 2,.code b47]
noncomputable def ansT:List (List An):=[[.r a.m],[.r (a.m+1)],[.r (a.m+2)],[.r (a.m+3)],[.r (a.m+4)],[.r (a.m+5)],[.r (a.m+6)],[.r (a.m+7)],[.r (a.m+8)],[.r (a.m+9)]]
noncomputable def cc9:List (FuncId×List Did):=[(27,[.nw (.cells #[] 22 (0,0)) a.m]),(27,[.nw (.cells #[] 3 (0,0)) (a.m+1)]),(27,[.nw (.cells #[] 3 (0,0)) (a.m+2)]),(27,[.nw (.cells #[] 32 (0,0)) (a.m+3)]),(27,[.nw (.cells #[] 3 (0,0)) (a.m+4)]),
 (27,[.nw (.cells (Array.replicate a.n3 nul) 62 (0,0)) (a.m+5)]),(27,[.nw (.cells #[] 60 (0,0)) (a.m+6)]),(27,[.nw (.chan 0 #[] false 0 0 false) (a.m+7)]),(27,[.nw (.cells #[] 78 (0,0)) (a.m+8)]),(27,[.nw (.cells #[] 88 (0,0)) (a.m+9)])]
end Ar
open Ar
open Ar
theorem cj9 (a:Ar) (h:a.n3<=8) (cs:List Frame):runG Tryz.prog true 46 (a.F0,cs) a.ansA=some ((a.FA,cs),a.cd0):=by
 obtain ⟨b0,n0,c0,i1,i2,b3,n3,c3,i4,m,w,rest⟩:=a;simp only at h
 rcases lt9 h with rfl | rfl | rfl | rfl | rfl | rfl | rfl | rfl | rfl<;>kernel_rfl
theorem cj8 (a:Ar) (h:a.n3<=8) (cs:List Frame):runR twp true 46 (a.T0,cs) a.ansT=some ((a.TB 0 (a.w 26) (a.w 30) (a.w 31) (a.w 33) (a.w 34) (a.w 35),cs),a.cc9):=by
 obtain ⟨b0,n0,c0,i1,i2,b3,n3,c3,i4,m,w,rest⟩:=a;simp only at h
 rcases lt9 h with rfl | rfl | rfl | rfl | rfl | rfl | rfl | rfl | rfl<;>kernel_rfl
end Hid
namespace Hid
open Ar
open Go Go.Proofs Go.RowKit Go.Conc
variable [Junk]
def aG8 (P:Program) (fr:Frame):Bool:=match fr.mode,fr.roundOf,fr.todo with
 | .run,none,.inRegion ops (i::_)::_=>((ops[i]?).map (Region.wanted · (yielded ops fr.tmps))).getD false&&bw8 fr.kind&&match fr.oper? with
  | some o=>match runA P (execOp fr.eval o) [] with
   | some (.inr (.stuck _),[])=>true
   | some (.inr (.unsupported (.initOrder _)),[])=>false
   | some (.inr (.unsupported _),[])=>true
   | _=>false
  | none=>false
 | .run,none,.code (.refuse _)::_=>true
 | _,_,_=>false
theorem ac8 {p:Program}{f:FuncId}{Q:Value->World->Prop}{fr:Frame}{cs:List Frame}{L:World}(h:aG8 p fr=true) (ht:Tree p (AtRet p f Q) (G fr cs) L):False:=by
 have hm:fr.mode = .run:=by
  cases e:fr.mode with
  | run=>rfl
  | _=>simp [aG8,e] at h
 obtain ⟨g',L',es,e,_⟩:=ht.goes (as9 hm) L.drawn;cases hr:fr.roundOf with
 | some _=>simp [aG8,hm,hr] at h
 | none=>
  cases hq:fr.todo with
  | nil=>simp [aG8,hm,hr,hq] at h
  | cons i k=>
   cases i with
   | code c=>
    cases c with
    | refuse s=>simp [stepG,G,hm,stepG.exec,hq] at e
    | _=>simp [aG8,hm,hr,hq] at h
   | inRegion ops js=>
    cases js with
    | nil=>simp [aG8,hm,hr,hq] at h
    | cons j js=>
     simp only [aG8,hm,hr,hq,lu] at h;obtain ⟨⟨hw,hk⟩,h⟩:=h;cases ho:fr.oper? with
     | none=>rw [ho] at h; cases h
     | some o=>
      rw [ho] at h;simp only at h
      have hk':(fr.kind==CallKind.early)=false:=by cases hh:fr.kind<;>first | rfl | (rw [hh] at hk; cases hk)
      have e1:stepG p true (G fr cs) (L.at L.drawn)=stepG.apply p true fr cs none (execOp fr.eval o) (L.at L.drawn):=by
       simp only [stepG,G,hm,stepG.exec,hq,hw,xh,stepG.oper,ho,hr]
      rw [e1] at e;unfold stepG.apply at e;split at h
      ·rename_i s hra;have hs:=ao4 hra (w:=L.at L.drawn) (es:=#[]) trivial;simp only [hs,aq2,hk',xh,lE,xn] at e;simp [GStep.after] at e
      ·cases h
      ·rename_i u hni hra;have hs:=ao4 hra (w:=L.at L.drawn) (es:=#[]) trivial;simp only [hs,aq2,hk',xh,lE,xn] at e;cases u<;>first | exact absurd rfl (hni _) | (simp [GStep.after] at e)
      ·cases h
   | _=>simp [aG8,hm,hr,hq] at h
noncomputable def tT1:Code:=sR as7
noncomputable def tT2:Code:=sR tT1
noncomputable def tT3:Code:=sR tT2
theorem bT7 {f:FuncId}{Q:Value->World->Prop}{v0 v1 v2 v3 v4 v5:Value}{w:Nat->Value}{rest:List Value}{cs:List Frame}{L:World}(ht:Tree twp (AtRet twp f Q) (G (fr ⟨v0::v1::v2::v3::v4::v5::w 6::w 7::w 8::w 9::w 10::w 11::w 12::w 13::w 14::w 15::w 16::w 17::w 18::w 19::w 20::w 21::w 22::w 23::w 24::w 25::w 26::w 27::w 28::w 29::w 30::w 31::w 32::w 33::w 34::w 35::w 36::w 37::rest⟩ [.code as7]) cs) L) :
  ∃ b0 n0 c0 i1 i2 b3 n3 c3 i4,v0 = .slice b0 n0 c0/\v1 = .int .i64 i1/\v2 = .int .i64 i2/\v3 = .slice b3 n3 c3/\v4 = .int .i64 i4/\v5 = .int .i64 1/\n3<=8:=by
 have s0:=(ad6 (p:=twp) 2 (s:=(fr ⟨v0::v1::v2::v3::v4::v5::w 6::w 7::w 8::w 9::w 10::w 11::w 12::w 13::w 14::w 15::w 16::w 17::w 18::w 19::w 20::w 21::w 22::w 23::w 24::w 25::w 26::w 27::w 28::w 29::w 30::w 31::w 32::w 33::w 34::w 35::w 36::w 37::rest⟩ [.code as7],cs)) (s':=(fr ⟨v0::v1::v2::v3::v4::v5::w 6::w 7::w 8::w 9::w 10::w 11::w 12::w 13::w 14::w 15::w 16::w 17::w 18::w 19::w 20::w 21::w 22::w 23::w 24::w 25::w 26::w 27::w 28::w 29::w 30::w 31::w 32::w 33::w 34::w 35::w 36::w 37::rest⟩ [.inRegion ax3 [0,1,2,3,4,5,6],.code tT1],cs)) (ans:=[]) (ls:=[]) (by kernel_rfl) trivial ht).1;have h0:∃ b0 n0 c0,v0 = .slice b0 n0 c0:=by
  cases v0 with
  | slice b n c=>exact ⟨b,n,c,rfl⟩
  | pointer a=>cases a<;>exact (ac8 (p:=twp) (by kernel_rfl) s0).elim
  | _=>exact (ac8 (p:=twp) (by kernel_rfl) s0).elim
 obtain ⟨b0,n0,c0,rfl⟩:=h0;have s1:=(ad6 (p:=twp) 1 (s:=(fr ⟨.slice b0 n0 c0::v1::v2::v3::v4::v5::w 6::w 7::w 8::w 9::w 10::w 11::w 12::w 13::w 14::w 15::w 16::w 17::w 18::w 19::w 20::w 21::w 22::w 23::w 24::w 25::w 26::w 27::w 28::w 29::w 30::w 31::w 32::w 33::w 34::w 35::w 36::w 37::rest⟩ [.inRegion ax3 [0,1,2,3,4,5,6],.code tT1],cs)) (s':=(fr ⟨.slice b0 n0 c0::v1::v2::v3::v4::v5::w 6::w 7::w 8::w 9::w 10::w 11::w 12::w 13::w 14::w 15::w 16:: .int .i64 n0::w 18::w 19::w 20::w 21::w 22::w 23::w 24::w 25::w 26::w 27::w 28::w 29::w 30::w 31::w 32::w 33::w 34::w 35::w 36::w 37::rest⟩ [.inRegion ax3 [1,2,3,4,5,6],.code tT1],cs)) (ans:=[]) (ls:=[]) (by kernel_rfl) trivial s0).1;have h1:∃ b3 n3 c3,v3 = .slice b3 n3 c3:=by
  cases v3 with
  | slice b n c=>exact ⟨b,n,c,rfl⟩
  | pointer a=>cases a<;>exact (ac8 (p:=twp) (by kernel_rfl) s1).elim
  | _=>exact (ac8 (p:=twp) (by kernel_rfl) s1).elim
 obtain ⟨b3,n3,c3,rfl⟩:=h1;have s2:=(ad6 (p:=twp) 1 (s:=(fr ⟨.slice b0 n0 c0::v1::v2:: .slice b3 n3 c3::v4::v5::w 6::w 7::w 8::w 9::w 10::w 11::w 12::w 13::w 14::w 15::w 16:: .int .i64 n0::w 18::w 19::w 20::w 21::w 22::w 23::w 24::w 25::w 26::w 27::w 28::w 29::w 30::w 31::w 32::w 33::w 34::w 35::w 36::w 37::rest⟩ [.inRegion ax3 [1,2,3,4,5,6],.code tT1],cs)) (s':=(fr ⟨.slice b0 n0 c0::v1::v2:: .slice b3 n3 c3::v4::v5::w 6::w 7::w 8::w 9::w 10::w 11::w 12::w 13::w 14::w 15::w 16:: .int .i64 n0:: .int .i64 n3::w 19::w 20::w 21::w 22::w 23::w 24::w 25::w 26::w 27::w 28::w 29::w 30::w 31::w 32::w 33::w 34::w 35::w 36::w 37::rest⟩ [.inRegion ax3 [2,3,4,5,6],.code tT1],cs)) (ans:=[]) (ls:=[]) (by kernel_rfl) trivial s1).1;have h2:∃ i1,v1 = .int .i64 i1:=by
  cases v1 with
  | int k n=>cases k<;>first | exact ⟨n,rfl⟩ | exact (ac8 (p:=twp) (by kernel_rfl) s2).elim
  | pointer a=>cases a<;>exact (ac8 (p:=twp) (by kernel_rfl) s2).elim
  | _=>exact (ac8 (p:=twp) (by kernel_rfl) s2).elim
 obtain ⟨i1,rfl⟩:=h2;have s3:=(ad6 (p:=twp) 1 (s:=(fr ⟨.slice b0 n0 c0:: .int .i64 i1::v2:: .slice b3 n3 c3::v4::v5::w 6::w 7::w 8::w 9::w 10::w 11::w 12::w 13::w 14::w 15::w 16:: .int .i64 n0:: .int .i64 n3::w 19::w 20::w 21::w 22::w 23::w 24::w 25::w 26::w 27::w 28::w 29::w 30::w 31::w 32::w 33::w 34::w 35::w 36::w 37::rest⟩ [.inRegion ax3 [2,3,4,5,6],.code tT1],cs)) (s':=(fr ⟨.slice b0 n0 c0:: .int .i64 i1::v2:: .slice b3 n3 c3::v4::v5::w 6::w 7::w 8::w 9::w 10::w 11::w 12::w 13::w 14::w 15::w 16:: .int .i64 n0:: .int .i64 n3::w 19::w 20::w 21:: .bool (decide (i1<0))::w 23::w 24::w 25::w 26::w 27::w 28::w 29::w 30::w 31::w 32::w 33::w 34::w 35::w 36::w 37::rest⟩ [.inRegion ax3 [3,4,5,6],.code tT1],cs)) (ans:=[]) (ls:=[]) (by kernel_rfl) trivial s2).1;have h3:∃ i2,v2 = .int .i64 i2:=by
  cases v2 with
  | int k n=>cases k<;>first | exact ⟨n,rfl⟩ | exact (ac8 (p:=twp) (by kernel_rfl) s3).elim
  | pointer a=>cases a<;>exact (ac8 (p:=twp) (by kernel_rfl) s3).elim
  | _=>exact (ac8 (p:=twp) (by kernel_rfl) s3).elim
 obtain ⟨i2,rfl⟩:=h3;have s4:=(ad6 (p:=twp) 1 (s:=(fr ⟨.slice b0 n0 c0:: .int .i64 i1:: .int .i64 i2:: .slice b3 n3 c3::v4::v5::w 6::w 7::w 8::w 9::w 10::w 11::w 12::w 13::w 14::w 15::w 16:: .int .i64 n0:: .int .i64 n3::w 19::w 20::w 21:: .bool (decide (i1<0))::w 23::w 24::w 25::w 26::w 27::w 28::w 29::w 30::w 31::w 32::w 33::w 34::w 35::w 36::w 37::rest⟩ [.inRegion ax3 [3,4,5,6],.code tT1],cs)) (s':=(fr ⟨.slice b0 n0 c0:: .int .i64 i1:: .int .i64 i2:: .slice b3 n3 c3::v4::v5::w 6::w 7::w 8::w 9::w 10::w 11::w 12::w 13::w 14::w 15::w 16:: .int .i64 n0:: .int .i64 n3::w 19::w 20::w 21:: .bool (decide (i1<0)):: .bool (decide (i2<0))::w 24::w 25::w 26::w 27::w 28::w 29::w 30::w 31::w 32::w 33::w 34::w 35::w 36::w 37::rest⟩ [.inRegion ax3 [4,5,6],.code tT1],cs)) (ans:=[]) (ls:=[]) (by kernel_rfl) trivial s3).1;have h4:∃ i4,v4 = .int .i64 i4:=by
  cases v4 with
  | int k n=>cases k<;>first | exact ⟨n,rfl⟩ | exact (ac8 (p:=twp) (by kernel_rfl) s4).elim
  | pointer a=>cases a<;>exact (ac8 (p:=twp) (by kernel_rfl) s4).elim
  | _=>exact (ac8 (p:=twp) (by kernel_rfl) s4).elim
 obtain ⟨i4,rfl⟩:=h4;have s5:=(ad6 (p:=twp) 1 (s:=(fr ⟨.slice b0 n0 c0:: .int .i64 i1:: .int .i64 i2:: .slice b3 n3 c3:: .int .i64 i4::v5::w 6::w 7::w 8::w 9::w 10::w 11::w 12::w 13::w 14::w 15::w 16:: .int .i64 n0:: .int .i64 n3::w 19::w 20::w 21:: .bool (decide (i1<0)):: .bool (decide (i2<0))::w 24::w 25::w 26::w 27::w 28::w 29::w 30::w 31::w 32::w 33::w 34::w 35::w 36::w 37::rest⟩ [.inRegion ax3 [4,5,6],.code tT1],cs)) (s':=(fr ⟨.slice b0 n0 c0:: .int .i64 i1:: .int .i64 i2:: .slice b3 n3 c3:: .int .i64 i4::v5::w 6::w 7::w 8::w 9::w 10::w 11::w 12::w 13::w 14::w 15::w 16:: .int .i64 n0:: .int .i64 n3::w 19::w 20::w 21:: .bool (decide (i1<0)):: .bool (decide (i2<0)):: .bool (decide (i4<0))::w 25::w 26::w 27::w 28::w 29::w 30::w 31::w 32::w 33::w 34::w 35::w 36::w 37::rest⟩ [.inRegion ax3 [5,6],.code tT1],cs)) (ans:=[]) (ls:=[]) (by kernel_rfl) trivial s4).1;have h5:∃ i5,v5 = .int .i64 i5:=by
  cases v5 with
  | int k n=>cases k<;>first | exact ⟨n,rfl⟩ | exact (ac8 (p:=twp) (by kernel_rfl) s5).elim
  | pointer a=>cases a<;>exact (ac8 (p:=twp) (by kernel_rfl) s5).elim
  | _=>exact (ac8 (p:=twp) (by kernel_rfl) s5).elim
 obtain ⟨i5,rfl⟩:=h5;have s6:=(ad6 (p:=twp) 1 (s:=(fr ⟨.slice b0 n0 c0:: .int .i64 i1:: .int .i64 i2:: .slice b3 n3 c3:: .int .i64 i4:: .int .i64 i5::w 6::w 7::w 8::w 9::w 10::w 11::w 12::w 13::w 14::w 15::w 16:: .int .i64 n0:: .int .i64 n3::w 19::w 20::w 21:: .bool (decide (i1<0)):: .bool (decide (i2<0)):: .bool (decide (i4<0))::w 25::w 26::w 27::w 28::w 29::w 30::w 31::w 32::w 33::w 34::w 35::w 36::w 37::rest⟩ [.inRegion ax3 [5,6],.code tT1],cs)) (s':=(fr ⟨.slice b0 n0 c0:: .int .i64 i1:: .int .i64 i2:: .slice b3 n3 c3:: .int .i64 i4:: .int .i64 i5::w 6::w 7::w 8::w 9::w 10::w 11::w 12::w 13::w 14::w 15::w 16:: .int .i64 n0:: .int .i64 n3::w 19::w 20:: .bool (decide (i5=1)):: .bool (decide (i1<0)):: .bool (decide (i2<0)):: .bool (decide (i4<0))::w 25::w 26::w 27::w 28::w 29::w 30::w 31::w 32::w 33::w 34::w 35::w 36::w 37::rest⟩ [.inRegion ax3 [6],.code tT1],cs)) (ans:=[]) (ls:=[]) (by kernel_rfl) trivial s5).1;have s7:=(ad6 (p:=twp) 3 (s:=(fr ⟨.slice b0 n0 c0:: .int .i64 i1:: .int .i64 i2:: .slice b3 n3 c3:: .int .i64 i4:: .int .i64 i5::w 6::w 7::w 8::w 9::w 10::w 11::w 12::w 13::w 14::w 15::w 16:: .int .i64 n0:: .int .i64 n3::w 19::w 20:: .bool (decide (i5=1)):: .bool (decide (i1<0)):: .bool (decide (i2<0)):: .bool (decide (i4<0))::w 25::w 26::w 27::w 28::w 29::w 30::w 31::w 32::w 33::w 34::w 35::w 36::w 37::rest⟩ [.inRegion ax3 [6],.code tT1],cs)) (s':=(fr ⟨.slice b0 n0 c0:: .int .i64 i1:: .int .i64 i2:: .slice b3 n3 c3:: .int .i64 i4:: .int .i64 i5::w 6::w 7::w 8::w 9::w 10::w 11::w 12::w 13::w 14::w 15::w 16:: .int .i64 n0:: .int .i64 n3::w 19::w 20:: .bool (decide (i5=1)):: .bool (decide (i1<0)):: .bool (decide (i2<0)):: .bool (decide (i4<0)):: .bool (decide ((n3:Int)<=8))::w 26::w 27::w 28::w 29::w 30::w 31::w 32::w 33::w 34::w 35::w 36::w 37::rest⟩ [.code (sL tT1),.code tT2],cs)) (ans:=[]) (ls:=[]) (by kernel_rfl) trivial s6).1;by_cases h5:i5=1
 ·subst h5;have s8:=(ad6 (p:=twp) 3 (s:=(fr ⟨.slice b0 n0 c0:: .int .i64 i1:: .int .i64 i2:: .slice b3 n3 c3:: .int .i64 i4:: .int .i64 1::w 6::w 7::w 8::w 9::w 10::w 11::w 12::w 13::w 14::w 15::w 16:: .int .i64 n0:: .int .i64 n3::w 19::w 20:: .bool (decide (1=1)):: .bool (decide (i1<0)):: .bool (decide (i2<0)):: .bool (decide (i4<0)):: .bool (decide ((n3:Int)<=8))::w 26::w 27::w 28::w 29::w 30::w 31::w 32::w 33::w 34::w 35::w 36::w 37::rest⟩ [.code (sL tT1),.code tT2],cs)) (s':=(fr ⟨.slice b0 n0 c0:: .int .i64 i1:: .int .i64 i2:: .slice b3 n3 c3:: .int .i64 i4:: .int .i64 1::w 6::w 7::w 8::w 9::w 10::w 11::w 12::w 13::w 14::w 15::w 16:: .int .i64 n0:: .int .i64 n3::w 19::w 20:: .bool (decide (1=1)):: .bool (decide (i1<0)):: .bool (decide (i2<0)):: .bool (decide (i4<0)):: .bool (decide ((n3:Int)<=8))::w 26::w 27::w 28::w 29::w 30::w 31::w 32::w 33::w 34::w 35::w 36::w 37::rest⟩ [.code (sL tT2),.code tT3],cs)) (ans:=[]) (ls:=[]) (by kernel_rfl) trivial s7).1;by_cases h8:(n3:Int)<=8
  ·exact ⟨b0,n0,c0,i1,i2,b3,n3,c3,i4,rfl,rfl,rfl,rfl,rfl,rfl,by omega⟩
  ·exfalso;rw [lg h8] at s8;have s9 := (ad6 (p := twp) 1 (s := (fr ⟨.slice b0 n0 c0 :: .int .i64 i1 :: .int .i64 i2 :: .slice b3 n3 c3 :: .int .i64 i4 :: .int .i64 1 :: w 6 :: w 7 :: w 8 :: w 9 :: w 10 :: w 11 :: w 12 :: w 13 :: w 14 :: w 15 :: w 16 :: .int .i64 n0 :: .int .i64 n3 :: w 19 :: w 20 :: .bool (decide (1 = 1)) :: .bool (decide (i1 < 0)) :: .bool (decide (i2 < 0)) :: .bool (decide (i4 < 0)) :: .bool false :: w 26 :: w 27 :: w 28 :: w 29 :: w 30 :: w 31 :: w 32 :: w 33 :: w 34 :: w 35 :: w 36 :: w 37 :: rest⟩ [.code (sL tT2), .code tT3], cs)) (s' := (fr ⟨.slice b0 n0 c0 :: .int .i64 i1 :: .int .i64 i2 :: .slice b3 n3 c3 :: .int .i64 i4 :: .int .i64 1 :: w 6 :: w 7 :: w 8 :: w 9 :: w 10 :: w 11 :: w 12 :: w 13 :: w 14 :: w 15 :: w 16 :: .int .i64 n0 :: .int .i64 n3 :: w 19 :: w 20 :: .bool (decide (1 = 1)) :: .bool (decide (i1 < 0)) :: .bool (decide (i2 < 0)) :: .bool (decide (i4 < 0)) :: .bool false :: w 26 :: w 27 :: w 28 :: w 29 :: w 30 :: w 31 :: w 32 :: w 33 :: w 34 :: w 35 :: w 36 :: w 37 :: rest⟩ [.code (.refuse "more than eight inks"), .code tT3], cs)) (ans := []) (ls := []) (by kernel_rfl) trivial s8).1;exact ac8 (p:=twp) (by kernel_rfl) s9
 ·exfalso;rw [lg h5] at s7;have s9 := (ad6 (p := twp) 1 (s := (fr ⟨.slice b0 n0 c0 :: .int .i64 i1 :: .int .i64 i2 :: .slice b3 n3 c3 :: .int .i64 i4 :: .int .i64 i5 :: w 6 :: w 7 :: w 8 :: w 9 :: w 10 :: w 11 :: w 12 :: w 13 :: w 14 :: w 15 :: w 16 :: .int .i64 n0 :: .int .i64 n3 :: w 19 :: w 20 :: .bool false :: .bool (decide (i1 < 0)) :: .bool (decide (i2 < 0)) :: .bool (decide (i4 < 0)) :: .bool (decide ((n3 : Int) ≤ 8)) :: w 26 :: w 27 :: w 28 :: w 29 :: w 30 :: w 31 :: w 32 :: w 33 :: w 34 :: w 35 :: w 36 :: w 37 :: rest⟩ [.code (sL tT1), .code tT2], cs)) (s' := (fr ⟨.slice b0 n0 c0 :: .int .i64 i1 :: .int .i64 i2 :: .slice b3 n3 c3 :: .int .i64 i4 :: .int .i64 i5 :: w 6 :: w 7 :: w 8 :: w 9 :: w 10 :: w 11 :: w 12 :: w 13 :: w 14 :: w 15 :: w 16 :: .int .i64 n0 :: .int .i64 n3 :: w 19 :: w 20 :: .bool false :: .bool (decide (i1 < 0)) :: .bool (decide (i2 < 0)) :: .bool (decide (i4 < 0)) :: .bool (decide ((n3 : Int) ≤ 8)) :: w 26 :: w 27 :: w 28 :: w 29 :: w 30 :: w 31 :: w 32 :: w 33 :: w 34 :: w 35 :: w 36 :: w 37 :: rest⟩ [.code (.refuse "more than one goroutine"), .code tT2], cs)) (ans := []) (ls := []) (by kernel_rfl) trivial s7).1;exact ac8 (p:=twp) (by kernel_rfl) s9
end Hid
namespace Hid
open Go Go.Proofs Go.RowKit Go.Conc
noncomputable def SHa:An:= .s (some (88,2))
noncomputable def c68:Code:=b27 Tryz.prog 39
noncomputable def cW2:Code:=sR (sR c68)
noncomputable def lpW:Code:=bB (bB cW2)
namespace Ar
variable (a:Ar)
noncomputable def KV:Value:= .int .u64 4294967296
noncomputable def dShW:List Did:=[.sh (a.m+9) (some (88,2)),.sh (a.m+9) (some (88,2))]
noncomputable def co7:List (FuncId×List Did):=[(38,[.mk (.extern 54),.mk .disable]),(38,[.mk (.extern 56)]),(60,[.mk (.extern 80),.rd .atomic ⟨a.m+9,0,none⟩ (.int .u64 0),.wr .atomic ⟨a.m+9,0,none⟩ KV]),(38,a.dShW),(38,[.mk (.extern 61),.mk (.read ⟨a.m+9,1,none⟩)]),(38,[.mk (.extern 55),.mk .enable])]
noncomputable def clo:Value:= .func (.func 39) #[] #[a.pt 9,a.pt 8,a.pt 0,a.pt 1,a.pt 2,a.pt 3,a.pt 4,a.pt 6]
noncomputable def tup0:Value:= .tuple #[]
noncomputable def FG:Frame:=fr (a.tmP (a.w 16) (.int .i64 0) (.bool true) tup0 a.clo (a.w 26) (a.w 27) (a.w 28) (a.w 29) (a.w 30) (a.w 31) (a.w 32) (a.w 33) (a.w 34) (a.w 35) (a.w 36) (a.w 37)) [.inRegion (rO (sR (bB (sL (sR (sR lp1)))))) [1],.inBlock 1,.code (sR (sR (sR lp1))),.inLoop lp1,.inBlock 0,.code cA6]
noncomputable def FP:Frame:=fr (a.tmP (a.w 16) (.int .i64 0) (.bool true) tup0 a.clo (a.w 26) (a.w 27) (a.w 28) (a.w 29) (a.w 30) (a.w 31) (a.w 32) (a.w 33) (a.w 34) (a.w 35) (a.w 36) (a.w 37)) [.inRegion (rO (sR (bB (sL (sR (sR lp1)))))) [],.inBlock 1,.code (sR (sR (sR lp1))),.inLoop lp1,.inBlock 0,.code cA6]
noncomputable def child:Frame:={ (default:Frame) with fn:=Tryz.prog.funcs.size,defers:=[{ target:= .fn (.func 39) #[a.pt 9,a.pt 8,a.pt 0,a.pt 1,a.pt 2,a.pt 3,a.pt 4,a.pt 6],args:=#[] }],mode:= .panicking [goexitEntry] }
noncomputable def gx:Frame:={ (default:Frame) with fn:=Tryz.prog.funcs.size,defers:=[],mode:= .panicking [goexitEntry] }
noncomputable def tmS (k x16 x30 x31 x32 x33 x34:Value):Array Value:=a.tmP x16 (.int .i64 1) (.bool false) tup0 a.clo (.int .i64 1) a.v3 (.int .i64 a.n3) k x30 x31 x32 x33 x34 (a.w 35) (a.w 36) (a.w 37)
noncomputable def SP (k x16 x30 x31 x32 x33 x34:Value):Frame:=fr (a.tmS k x16 x30 x31 x32 x33 x34) [.code lp2,.inLoop lp2,.inBlock 2,.code cA8]
end Ar
open Ar
theorem cj6 (a:Ar) (cs:List Frame):runG Tryz.prog true 147 (a.FA,cs) [[.v (.int .u64 0)],[SHa,SHa]]=some ((a.FG,cs),a.co7):=by kernel_rfl
theorem go_P (a:Ar) (cs:List Frame):aZ5 Tryz.prog true a.FG cs []=some (.spawn (G a.FP cs) (G a.child []),[]):=by kernel_rfl
theorem cj4 (a:Ar) (cs:List Frame):runG Tryz.prog true 23 (a.FP,cs) [[.v a.v3]]=some ((a.SP (.int .i64 0) (a.w 16) (a.w 30) (a.w 31) (a.w 32) (a.w 33) (a.w 34),cs),[(27,[.rd .plain ⟨a.m+3,0,none⟩ a.v3])]):=by kernel_rfl
namespace Ar
variable (a:Ar)
noncomputable def chV:Value:= .chan (some (a.m+7))
noncomputable def it2:List Item:=[.inLoop lp2,.inBlock 2,.code cA8]
noncomputable def SP1 (k x16:Value) (b:Bool) (x31 x32 x33 x34:Value):Frame:=fr (a.tmS k x16 (.bool b) x31 x32 x33 x34) (.inRegion (rO (sL lp2)) []:: .code (sR lp2)::it2)
noncomputable def bk3:Code:=bB (sL (sR (sR lp2)))
noncomputable def SS (k x34:Value):Frame:=fr (a.tmS k k (.bool true) k a.chV k x34) (.inRegion (rO (sR bk3)) [2]:: .inBlock 3:: .code (sR (sR (sR lp2)))::it2)
noncomputable def SS' (k x34:Value):Frame:=fr (a.tmS k k (.bool true) k a.chV k x34) (.inRegion (rO (sR bk3)) []:: .inBlock 3:: .code (sR (sR (sR lp2)))::it2)
noncomputable def rdC:List Did:=[.rd .plain ⟨a.m+8,0,none⟩ a.chV]
noncomputable def tmC (k x16 x30 x31 x32 x33 x34 x35:Value):Array Value:=a.tmP x16 (.int .i64 1) (.bool false) tup0 a.clo (.int .i64 1) a.v3 (.int .i64 a.n3) k x30 x31 x32 x33 x34 x35 (a.w 36) (a.w 37)
noncomputable def SC (k x16 x31 x32 x33 x34:Value):Frame:=fr (a.tmC k x16 (.bool false) x31 x32 x33 x34 a.chV) [.inRegion (rO (sL cA8)) [1],.code (sR cA8)]
noncomputable def SC' (k x16 x31 x32 x33 x34:Value):Frame:=fr (a.tmC k x16 (.bool false) x31 x32 x33 x34 a.chV) [.inRegion (rO (sL cA8)) [],.code (sR cA8)]
end Ar
theorem bY1 (a:Ar) (cs:List Frame) (k:Int) (x16 x30 x31 x32 x33 x34:Value):runG Tryz.prog true 3 (a.SP (.int .i64 k) x16 x30 x31 x32 x33 x34,cs) []=some ((a.SP1 (.int .i64 k) x16 (decide (k<(a.n3:Int))) x31 x32 x33 x34,cs),[]):=by kernel_rfl
theorem cj0 (a:Ar) (cs:List Frame) (k:Int) (x16 x31 x32 x33 x34:Value):runG Tryz.prog true 14 (a.SP1 (.int .i64 k) x16 true x31 x32 x33 x34,cs) [[.v a.chV]]=some ((a.SS (.int .i64 k) x34,cs),[(27,a.rdC)]):=by kernel_rfl
theorem ci4 (a:Ar) (cs:List Frame) (k:Int) (x34:Value):aZ5 Tryz.prog true (a.SS (.int .i64 k) x34) cs []=some (.comm (G (a.SS (.int .i64 k) x34) cs) #[scase (a.m+7) (.int .i64 k) (.tuple #[])] true .send,[]):=by kernel_rfl
theorem ci3 (a:Ar) (k:Int) (x34:Value):(a.SS (.int .i64 k) x34).finish undef=a.SS' (.int .i64 k) x34:=by kernel_rfl
theorem ci8 (a:Ar) (cs:List Frame) (k:Int) (x34:Value):runG Tryz.prog true 7 (a.SS' (.int .i64 k) x34,cs) []=some ((a.SP (.int .i64 (IntKind.i64.wrap (k+1))) (.int .i64 k) (.bool true) (.int .i64 k) a.chV (.int .i64 k) (.int .i64 (IntKind.i64.wrap (k+1))),cs),[]):=by kernel_rfl
theorem ci7 (a:Ar) (cs:List Frame) (k:Int) (x16 x31 x32 x33 x34:Value):runG Tryz.prog true 7 (a.SP1 (.int .i64 k) x16 false x31 x32 x33 x34,cs) [[.v a.chV]]=some ((a.SC (.int .i64 k) x16 x31 x32 x33 x34,cs),[(27,a.rdC)]):=by kernel_rfl
theorem cd4 (a:Ar) (cs:List Frame) (k:Int) (x16 x31 x32 x33 x34:Value) (s r:Nat):oneG Tryz.prog true (a.SC (.int .i64 k) x16 x31 x32 x33 x34,cs) [.o (.chan 0 #[] false s r false)]=some ((a.SC' (.int .i64 k) x16 x31 x32 x33 x34,cs),[.gt (a.m+7) (.chan 0 #[] false s r false),.st (a.m+7) (.chan 0 #[] true s r false)]):=by kernel_rfl
end Hid
namespace Hid
open Go Go.Proofs Go.RowKit Go.Conc
def updF (y:Nat->Value) (s:Nat) (v:Value):Nat->Value:=fun j=>if j=s then v else y j
noncomputable def opsW:Array Oper:=rO (sR (bB (sR (sR lpW))))
namespace Ar
variable (a:Ar)
noncomputable def tmW (x8 x9 x10 x11 x12:Value) (y:Nat->Value):Array Value:=⟨a.pt 9::a.pt 8::a.pt 0::a.pt 1::a.pt 2::a.pt 3::a.pt 4::a.pt 6::x8::x9::x10::x11::x12::y 13::y 14::y 15::y 16::y 17::y 18::y 19::y 20::y 21::y 22::y 23::y 24::[]⟩
noncomputable def dfr:List Deferred:=[{ target:= .fn (.func 40) #[],args:=#[a.pt 9] }]
noncomputable def wf (tm:Array Value) (k:List Item):Frame:={ fn:=39,tmps:=tm,todo:=k,defers:=a.dfr,mode:= .run,kind:= .deferred }
noncomputable def itW:List Item:=[.inLoop lpW,.inBlock 0]
noncomputable def WRc (x8 x10 x11 x12:Value) (y:Nat->Value):Frame:=a.wf (a.tmW x8 a.chV x10 x11 x12 y) (.inRegion (rO (sL lpW)) [0,1]:: .code (sR lpW)::itW)
noncomputable def WR1 (x8 r x11 x12:Value) (y:Nat->Value):Frame:=a.wf (a.tmW x8 a.chV r x11 x12 y) (.inRegion (rO (sL lpW)) [1]:: .code (sR lpW)::itW)
noncomputable def WJ (k:Value) (y:Nat->Value):Frame:=a.wf (a.tmW k a.chV (.tuple #[k,.bool true]) (.bool true) k y) (.code (sR (bB (sR (sR lpW)))):: .inBlock 1::itW)
noncomputable def WO (k:Value) (y:Nat->Value) (l:List Nat):Frame:=a.wf (a.tmW k a.chV (.tuple #[k,.bool true]) (.bool true) k y) (.inRegion opsW l:: .inBlock 1::itW)
noncomputable def z0:Value:= .int .i64 0
noncomputable def WX (x8 x12:Value) (y:Nat->Value):Frame:=a.wf (a.tmW x8 a.chV (.tuple #[z0,.bool false]) (.bool false) x12 y) []
end Ar
open Ar
theorem cj7 (a:Ar):runG Tryz.prog false 13 (a.child,[]) [[.v a.chV]]=some ((a.WRc undef undef undef undef (fun _=>undef),[gx]),[(39,a.rdC)]):=by kernel_rfl
theorem bY5 (a:Ar) (x8 x10 x11 x12:Value) (y:Nat->Value):aZ5 Tryz.prog false (a.WRc x8 x10 x11 x12 y) [gx] []=some (.comm (G (a.WRc x8 x10 x11 x12 y) [gx]) #[rcase (a.m+7) z0] true (.recv true),[]):=by kernel_rfl
theorem cn9 (a:Ar) (x8 x10 x11 x12 r:Value) (y:Nat->Value):(a.WRc x8 x10 x11 x12 y).finish r=a.WR1 x8 r x11 x12 y:=by kernel_rfl
theorem cj5 (a:Ar) (k:Int) (x8 x11 x12:Value) (y:Nat->Value):runG Tryz.prog false 11 (a.WR1 x8 (.tuple #[.int .i64 k,.bool true]) x11 x12 y,[gx]) []=some ((a.WJ (.int .i64 k) y,[gx]),[]):=by kernel_rfl
theorem cj2 (a:Ar) (x8 x11 x12:Value) (y:Nat->Value):runG Tryz.prog false 5 (a.WR1 x8 (.tuple #[z0,.bool false]) x11 x12 y,[gx]) []=some ((a.WX x8 x12 y,[gx]),[]):=by kernel_rfl
theorem b36:sR (bB (sR (sR lpW))) = .region 4 opsW true:=by kernel_rfl
theorem op0_W (a:Ar) (k:Value) (y:Nat->Value) (l:List Nat):oneG Tryz.prog false (a.WO k y (0::l),[gx]) [.v a.V]=some ((a.WO k (updF y 13 a.V) l,[gx]),[.rd .plain ⟨a.m+6,0,none⟩ a.V]):=by kernel_rfl
theorem op1_W (a:Ar) (k:Value) (y:Nat->Value) (l:List Nat):oneG Tryz.prog false (a.WO k y (1::l),[gx]) []=some ((a.WO k (updF y 14 k) l,[gx]),[]):=by kernel_rfl
theorem op2_W (a:Ar) (k:Value) (y:Nat->Value) (l:List Nat):oneG Tryz.prog false (a.WO k y (2::l),[gx]) [.v a.v0]=some ((a.WO k (updF y 15 a.v0) l,[gx]),[.rd .plain ⟨a.m+0,0,none⟩ a.v0]):=by kernel_rfl
theorem op3_W (a:Ar) (k:Value) (y:Nat->Value) (l:List Nat):oneG Tryz.prog false (a.WO k y (3::l),[gx]) [.v (.int .i64 a.i1)]=some ((a.WO k (updF y 16 (.int .i64 a.i1)) l,[gx]),[.rd .plain ⟨a.m+1,0,none⟩ (.int .i64 a.i1)]):=by kernel_rfl
theorem op4_W (a:Ar) (k:Value) (y:Nat->Value) (l:List Nat):oneG Tryz.prog false (a.WO k y (4::l),[gx]) [.v (.int .i64 a.i2)]=some ((a.WO k (updF y 17 (.int .i64 a.i2)) l,[gx]),[.rd .plain ⟨a.m+2,0,none⟩ (.int .i64 a.i2)]):=by kernel_rfl
theorem op5_W (a:Ar) (k:Value) (y:Nat->Value) (l:List Nat):oneG Tryz.prog false (a.WO k y (5::l),[gx]) [.v a.v3]=some ((a.WO k (updF y 18 a.v3) l,[gx]),[.rd .plain ⟨a.m+3,0,none⟩ a.v3]):=by kernel_rfl
theorem op6_W (a:Ar) (k:Value) (y:Nat->Value) (l:List Nat):oneG Tryz.prog false (a.WO k y (6::l),[gx]) []=some ((a.WO k (updF y 19 k) l,[gx]),[]):=by kernel_rfl
theorem op8_W (a:Ar) (k:Value) (ad:Addr) (v:Value) (y:Nat->Value) (l:List Nat):oneG Tryz.prog false (a.WO k (updF y 20 (.pointer (some ad))) (8::l),[gx]) [.v v]=some ((a.WO k (updF (updF y 20 (.pointer (some ad))) 21 v) l,[gx]),[.rd .plain ad v]):=by kernel_rfl
theorem op9_W (a:Ar) (k:Value) (y:Nat->Value) (l:List Nat):oneG Tryz.prog false (a.WO k y (9::l),[gx]) [.v (.int .i64 a.i4)]=some ((a.WO k (updF y 22 (.int .i64 a.i4)) l,[gx]),[.rd .plain ⟨a.m+4,0,none⟩ (.int .i64 a.i4)]):=by kernel_rfl
theorem ck7 (a:Ar) (k v:Value) (y:Nat->Value) (l:List Nat):oneG Tryz.prog false (a.WO k (updF (updF (updF (updF (updF y 15 a.v0) 16 (.int .i64 a.i1)) 17 (.int .i64 a.i2)) 21 v) 22 (.int .i64 a.i4)) (10::l),[gx]) []=some ((Frame.enter Tryz.prog 41 #[a.v0,.int .i64 a.i1,.int .i64 a.i2,v,.int .i64 a.i4] .normal,[a.WO k (updF (updF (updF (updF (updF y 15 a.v0) 16 (.int .i64 a.i1)) 17 (.int .i64 a.i2)) 21 v) 22 (.int .i64 a.i4)) (10::l),gx]),[]):=by kernel_rfl
theorem b76 (a:Ar) (k v:Value) (y:Nat->Value) (l:List Nat):(a.WO k y (10::l)).finish v=a.WO k (updF y 23 v) l:=by kernel_rfl
theorem ck6 (a:Ar) (k:Value) (y:Nat->Value):runG Tryz.prog false 5 (a.WO k y [],[gx]) []=some ((a.WRc k (.tuple #[k,.bool true]) (.bool true) k y,[gx]),[]):=by kernel_rfl
end Hid
namespace Hid
open Go Go.Proofs Go.RowKit Go.Conc
namespace Ar
variable (a:Ar)
noncomputable def itT:List Item:=[.inLoop bz6,.inBlock 2,.code b47]
noncomputable def TB1 (k x26:Value) (b:Bool) (x31 x33 x34 x35:Value):Frame:=fr (a.tmT x26 k (.bool b) x31 x33 x34 x35) (.inRegion ck5 []:: .code (sR bz6)::itT)
noncomputable def TO (k x26 x31 x33 x34 x35:Value) (l:List Nat):Frame:=fr (a.tmT x26 k (.bool true) x31 x33 x34 x35) (.inRegion bH0 l:: .code (sR (sR (sR bz6)))::itT)
noncomputable def TR0 (k x26 x31 x33 x34 x35:Value):Frame:={ fn:=27,tmps:=(a.tmT x26 k (.bool false) x31 x33 x34 x35).setIfInBounds 12 a.V,todo:=[.code .ret],defers:=[],mode:= .returning,kind:= .normal }
end Ar
open Ar
theorem bY2 (a:Ar) (cs:List Frame) (k:Int) (x26 x30 x31 x33 x34 x35:Value):runR twp true 3 (a.TB k x26 x30 x31 x33 x34 x35,cs) []=some ((a.TB1 (.int .i64 k) x26 (decide (k<(a.n3:Int))) x31 x33 x34 x35,cs),[]):=by kernel_rfl
theorem cj3 (a:Ar) (cs:List Frame) (k:Int) (x26 x31 x33 x34 x35:Value):runR twp true 6 (a.TB1 (.int .i64 k) x26 true x31 x33 x34 x35,cs) []=some ((a.TO (.int .i64 k) x26 x31 x33 x34 x35 [0,1,2,3,4],cs),[]):=by kernel_rfl
theorem ld_T (a:Ar) (cs:List Frame) (k x31 x33 x34 x35 v:Value) (ad:Addr):runR twp true 1 (a.TO k (.pointer (some ad)) x31 x33 x34 x35 [1,2,3,4],cs) [[.v v]]=some ((a.TO k (.pointer (some ad)) v x33 x34 x35 [2,3,4],cs),[(27,[.rd .plain ad v])]):=by kernel_rfl
theorem co9 (a:Ar) (cs:List Frame) (k x26 v x33 x34 x35:Value):runR twp true 1 (a.TO k x26 v x33 x34 x35 [2,3,4],cs) []=some ((Frame.enter twp 41 #[a.v0,.int .i64 a.i1,.int .i64 a.i2,v,.int .i64 a.i4] .normal,a.TO k x26 v x33 x34 x35 [2,3,4]::cs),[]):=by kernel_rfl
theorem cc3 (args:Array Value):Frame.enter twp 41 args .normal=Frame.enter Tryz.prog 41 args .normal:=by kernel_rfl
theorem ret_T (a:Ar) (k x26 v x33 x34 x35 r:Value):(a.TO k x26 v x33 x34 x35 [2,3,4]).finish r=a.TO k x26 v r x34 x35 [3,4]:=by kernel_rfl
theorem cj1 (a:Ar) (cs:List Frame) (k:Int) (x26 x31 x33 x34 x35:Value):runR twp true 6 (a.TO (.int .i64 k) x26 x31 x33 x34 x35 [],cs) []=some ((a.TB (IntKind.i64.wrap (k+1)) x26 (.bool true) x31 x33 (.int .i64 (IntKind.i64.wrap (k+1))) x35,cs),[]):=by kernel_rfl
theorem ci9 (a:Ar) (cs:List Frame) (k:Int) (x26 x31 x33 x34 x35:Value):runR twp true 9 (a.TB1 (.int .i64 k) x26 false x31 x33 x34 x35,cs) []=some ((a.TR0 (.int .i64 k) x26 x31 x33 x34 x35,cs),[]):=by kernel_rfl
theorem out_T (a:Ar) (x:Frame) (cs:List Frame) (k x26 x31 x33 x34 x35:Value):oneG twp true (a.TR0 k x26 x31 x33 x34 x35,x::cs) []=some ((x.finish a.V,cs),[]):=by kernel_rfl
theorem lt8' {k n:Nat}(h:k<n) (h8:n<=8):k=0\/k=1\/k=2\/k=3\/k=4\/k=5\/k=6\/k=7:=by omega
theorem op7_W (a:Ar) (ad:Addr) (hb:a.b3=some ad) (k:Nat) (h:k<a.n3) (h8:a.n3<=8) (y:Nat->Value) (l:List Nat):oneG Tryz.prog false (a.WO (.int .i64 k) (updF (updF y 18 a.v3) 19 (.int .i64 k)) (7::l),[gx]) []=some ((a.WO (.int .i64 k) (updF (updF (updF y 18 a.v3) 19 (.int .i64 k)) 20 (.pointer (some (ad.add (k*1))))) l,[gx]),[]):=by
 obtain ⟨b0,n0,c0,i1,i2,b3,n3,c3,i4,m,w,rest⟩:=a;simp only at hb h8 h
 subst hb;rcases lt8' h h8 with rfl | rfl | rfl | rfl | rfl | rfl | rfl | rfl<;>rcases lt9 h8 with rfl | rfl | rfl | rfl | rfl | rfl | rfl | rfl | rfl<;>first | (exact absurd h (by decide)) | kernel_rfl
theorem bZ0 (a:Ar) (k:Nat) (h:k<a.n3) (h8:a.n3<=8) (y:Nat->Value) (l:List Nat):oneG Tryz.prog false (a.WO (.int .i64 k) (updF (updF y 13 a.V) 14 (.int .i64 k)) (11::l),[gx]) []=some ((a.WO (.int .i64 k) (updF (updF (updF y 13 a.V) 14 (.int .i64 k)) 24 (.pointer (some ((⟨a.m+5,0,none⟩:Addr).add (k*1))))) l,[gx]),[]):=by
 obtain ⟨b0,n0,c0,i1,i2,b3,n3,c3,i4,m,w,rest⟩:=a;simp only at h8 h
 rcases lt8' h h8 with rfl | rfl | rfl | rfl | rfl | rfl | rfl | rfl<;>rcases lt9 h8 with rfl | rfl | rfl | rfl | rfl | rfl | rfl | rfl | rfl<;>first | (exact absurd h (by decide)) | kernel_rfl
theorem ix_T (a:Ar) (ad:Addr) (hb:a.b3=some ad) (k:Nat) (h:k<a.n3) (h8:a.n3<=8) (cs:List Frame) (x26 x31 x33 x34 x35:Value):runR twp true 1 (a.TO (.int .i64 k) x26 x31 x33 x34 x35 [0,1,2,3,4],cs) []=some ((a.TO (.int .i64 k) (.pointer (some (ad.add (k*1)))) x31 x33 x34 x35 [1,2,3,4],cs),[]):=by
 obtain ⟨b0,n0,c0,i1,i2,b3,n3,c3,i4,m,w,rest⟩:=a;simp only at hb h8 h
 subst hb;rcases lt8' h h8 with rfl | rfl | rfl | rfl | rfl | rfl | rfl | rfl<;>rcases lt9 h8 with rfl | rfl | rfl | rfl | rfl | rfl | rfl | rfl | rfl<;>first | (exact absurd h (by decide)) | kernel_rfl
theorem iy_T (a:Ar) (k:Nat) (h:k<a.n3) (h8:a.n3<=8) (cs:List Frame) (x26 x31 x33 x34 x35:Value):runR twp true 1 (a.TO (.int .i64 k) x26 x31 x33 x34 x35 [3,4],cs) []=some ((a.TO (.int .i64 k) x26 x31 x33 x34 (.pointer (some ((⟨a.m+5,0,none⟩:Addr).add (k*1)))) [4],cs),[]):=by
 obtain ⟨b0,n0,c0,i1,i2,b3,n3,c3,i4,m,w,rest⟩:=a;simp only at h8 h
 rcases lt8' h h8 with rfl | rfl | rfl | rfl | rfl | rfl | rfl | rfl<;>rcases lt9 h8 with rfl | rfl | rfl | rfl | rfl | rfl | rfl | rfl | rfl<;>first | (exact absurd h (by decide)) | kernel_rfl
end Hid
namespace Hid
open Go Go.Proofs Go.RowKit Go.Conc
noncomputable def aft (n:Nat) (s:St) (ans:List (List An)):St:=match runG Tryz.prog true n s ans with
 | some (s',_)=>s'
 | none=>s
namespace Ar
variable (a:Ar) (x:Frame) (xs:List Frame) (k:Int) (g16 g31 g32 g33 g34:Value)
noncomputable def sV (k:Int):An:= .v (.int .u64 k)
noncomputable def s0:St:=(a.SC' (.int .i64 k) g16 g31 g32 g33 g34,x::xs)
noncomputable def sW1:St:=aft 27 (a.s0 x xs k g16 g31 g32 g33 g34) []
noncomputable def sA:St:=aft 1 (a.sW1 x xs k g16 g31 g32 g33 g34) [[sV 4294967296]]
noncomputable def sB:St:=aft 1 (a.sW1 x xs k g16 g31 g32 g33 g34) [[sV 0]]
noncomputable def sW2:St:=aft 48 (a.sA x xs k g16 g31 g32 g33 g34) []
noncomputable def sC:St:=aft 1 (a.sW2 x xs k g16 g31 g32 g33 g34) [[SHa,.b false,sV 4294967296]]
noncomputable def sD:St:=aft 1 (a.sW2 x xs k g16 g31 g32 g33 g34) [[SHa,.b false,sV 0]]
noncomputable def sW3:St:=aft 44 (a.sC x xs k g16 g31 g32 g33 g34) [[SHa,SHa]]
noncomputable def sE:St:=aft 1 (a.sW3 x xs k g16 g31 g32 g33 g34) [[.v (.int .u32 1)]]
noncomputable def rdW (v:Int):Did:= .rd .atomic ⟨a.m+9,0,none⟩ (.int .u64 v)
noncomputable def endL:List (FuncId×List Did):=[(42,[.mk (.extern 55),.mk .enable]),(42,a.dShW),(42,[.mk (.extern 67),.mk (.acquire ⟨a.m+9,0,none⟩)]),(27,[.rd .plain ⟨a.m+6,0,none⟩ a.V])]
end Ar
open Ar
theorem bt9 (a:Ar) (x:Frame) (xs:List Frame) (k:Int) (g16 g31 g32 g33 g34:Value) :
  runG Tryz.prog true 27 (a.s0 x xs k g16 g31 g32 g33 g34) []=some (a.sW1 x xs k g16 g31 g32 g33 g34,[(42,[.mk (.extern 54),.mk .disable])])/\
  oneG Tryz.prog true (a.sW1 x xs k g16 g31 g32 g33 g34) [sV 4294967296]=some (a.sA x xs k g16 g31 g32 g33 g34,[.mk (.extern 81),a.rdW 4294967296])/\
  oneG Tryz.prog true (a.sW1 x xs k g16 g31 g32 g33 g34) [sV 0]=some (a.sB x xs k g16 g31 g32 g33 g34,[.mk (.extern 81),a.rdW 0])/\
  runG Tryz.prog true 48 (a.sA x xs k g16 g31 g32 g33 g34) []=some (a.sW2 x xs k g16 g31 g32 g33 g34,[])/\
  oneG Tryz.prog true (a.sW2 x xs k g16 g31 g32 g33 g34) [SHa,.b false,sV 4294967296]=some (a.sC x xs k g16 g31 g32 g33 g34,[.mk (.extern 83),.sh (a.m+9) (some (88,2)),.fz ⟨a.m+9,0,none⟩ false,a.rdW 4294967296,.wr .atomic ⟨a.m+9,0,none⟩ (.int .u64 4294967297)])/\
  oneG Tryz.prog true (a.sW2 x xs k g16 g31 g32 g33 g34) [SHa,.b false,sV 0]=some (a.sD x xs k g16 g31 g32 g33 g34,[.mk (.extern 83),.sh (a.m+9) (some (88,2)),.fz ⟨a.m+9,0,none⟩ false,a.rdW 0])/\
  runG Tryz.prog true 44 (a.sC x xs k g16 g31 g32 g33 g34) [[SHa,SHa]]=some (a.sW3 x xs k g16 g31 g32 g33 g34,[(42,a.dShW),(42,[.mk (.extern 70),.mk (.write ⟨a.m+9,1,none⟩)])])/\
  oneG Tryz.prog true (a.sW3 x xs k g16 g31 g32 g33 g34) [.v (.int .u32 1)]=some (a.sE x xs k g16 g31 g32 g33 g34,[.mk (.extern 71),.mk .disable,.rd .atomic ⟨a.m+9,1,none⟩ (.int .u32 1),.wr .atomic ⟨a.m+9,1,none⟩ (.int .u32 0),.mk .enable])/\
  aZ5 Tryz.prog true (a.sW3 x xs k g16 g31 g32 g33 g34).1 (a.sW3 x xs k g16 g31 g32 g33 g34).2 [.v (.int .u32 0)]=some (.still { G (a.sW3 x xs k g16 g31 g32 g33 g34).1 (a.sW3 x xs k g16 g31 g32 g33 g34).2 with status:= .blocked },[.mk (.extern 71),.mk .disable,.rd .atomic ⟨a.m+9,1,none⟩ (.int .u32 0)])/\
  runG Tryz.prog true 65 (a.sB x xs k g16 g31 g32 g33 g34) [[SHa,SHa],[.v a.V]]=some ((x.finish a.V,xs),a.endL)/\
  runG Tryz.prog true 91 (a.sD x xs k g16 g31 g32 g33 g34) [[sV 0],[SHa,SHa],[.v a.V]]=some ((x.finish a.V,xs),(62,[.mk (.extern 81),a.rdW 0])::a.endL)/\
  runG Tryz.prog true 52 (a.sE x xs k g16 g31 g32 g33 g34) [[sV 0],[SHa,SHa],[.v a.V]]=some ((x.finish a.V,xs),(62,[.mk (.extern 81),a.rdW 0])::a.endL):=by
 refine ⟨?_,?_,?_,?_,?_,?_,?_,?_,?_,?_,?_,?_⟩<;>kernel_rfl
end Hid
namespace Hid
open Go Go.Proofs Go.RowKit Go.Conc
def isMk:Did->Bool
 | .mk _=>true
 | _=>false
def aN1 (P:Program):Nat->Nat->St->Bool
 | 0,_,_=>false
 | n+1,d,s=>match aZ5 P false s.1 s.2 [] with
  | some (.go g,l)=>l.all isMk&&((seen P s.1.fn (esOf l).toArray).all Event.mute&&match g.status with
   | .finished=>deafBehind d (seen P s.1.fn (esOf l).toArray)==0
   | _=>match toS g with
    | some s'=>aN1 P n (deafBehind d (seen P s.1.fn (esOf l).toArray)) s'
    | none=>false)
  | _=>false
theorem a07:∀ {l:List Did},l.all isMk=true->∀ w,Fits l w/\wOf l w=w
 | [],_,w=>⟨trivial,rfl⟩
 | d::l,h,w=>by
  simp only [lah,lu] at h;cases d with
  | mk m=>exact ⟨⟨trivial,(a07 h.2 w).1⟩,(a07 h.2 w).2⟩
  | _=>exact absurd h.1 (by simp [isMk])
theorem a03 {P:Program}:∀ {n d:Nat}{s:St},aN1 P n d s=true->QuitsD P n d (G s.1 s.2)
 | 0,_,_,h=>by cases h
 | n+1,d,s,h=>by
  unfold aN1 at h;split at h
  ·rename_i g l hs;simp only [lu] at h;obtain ⟨h1,h2,h3⟩:=h;have hst:∀ w,stepG P false (G s.1 s.2) w = .go g w (seen P s.1.fn (esOf l).toArray):=fun w=>by
    rw [ah9 hs (a07 h1 w).1];simp only [SA.step,(a07 h1 w).2]
   refine .inr ⟨rfl,g,_,fun e he=>?_,hst,?_⟩
   ·have:=lae.1 h2
    obtain ⟨i,hi,rfl⟩:=uf.1 he;exact this i hi
   ·split at h3
    ·rename_i hf;have hd:deafBehind d (seen P s.1.fn (esOf l).toArray)=0:=by simpa using h3
     cases n with
     | zero=>exact ⟨hf,hd⟩
     | succ n=>exact .inl ⟨hf,hd⟩
    ·split at h3
     ·rename_i s' hs';rw [bW8 hs'];exact a03 h3
     ·cases h3
  ·cases h
noncomputable def afw (n:Nat) (s:St) (ans:List (List An)):St:=match runG Tryz.prog false n s ans with
 | some (s',_)=>s'
 | none=>s
namespace Ar
variable (a:Ar) (x8 x12:Value) (y:Nat->Value)
noncomputable def u0:St:=afw 17 (a.WX x8 x12 y,[gx]) [[SHa,SHa]]
noncomputable def u1:St:=afw 1 (a.u0 x8 x12 y) []
noncomputable def u2:St:=afw 3 (a.u1 x8 x12 y) []
noncomputable def u3:St:=afw 1 (a.u2 x8 x12 y) []
noncomputable def u4:St:=afw 34 (a.u3 x8 x12 y) []
noncomputable def ua:St:=afw 1 (a.u4 x8 x12 y) [[sV 4294967296]]
noncomputable def ub:St:=afw 1 (a.u4 x8 x12 y) [[sV 4294967297]]
noncomputable def u5:St:=afw 103 (a.ub x8 x12 y) []
noncomputable def u6:St:=afw 1 (a.u5 x8 x12 y) [[sV 1]]
noncomputable def u7:St:=afw 20 (a.u6 x8 x12 y) []
noncomputable def u8:St:=afw 1 (a.u7 x8 x12 y) []
noncomputable def u9:St:=afw 27 (a.u8 x8 x12 y) []
noncomputable def uc:St:=afw 1 (a.u9 x8 x12 y) [[.v (.int .u32 0)]]
noncomputable def wrW (v:Int):Did:= .wr .atomic ⟨a.m+9,0,none⟩ (.int .u64 v)
end Ar
open Ar
theorem bz1 (a:Ar) (x8 x12:Value) (y:Nat->Value) :
  runG Tryz.prog false 17 (a.WX x8 x12 y,[gx]) [[SHa,SHa]]=some (a.u0 x8 x12 y,[(38,a.dShW)])/\
  oneG Tryz.prog false (a.u0 x8 x12 y) []=some (a.u1 x8 x12 y,[.mk (.extern 53),.mk (.releaseMerge ⟨a.m+9,0,none⟩)])/\
  runG Tryz.prog false 3 (a.u1 x8 x12 y) []=some (a.u2 x8 x12 y,[])/\
  oneG Tryz.prog false (a.u2 x8 x12 y) []=some (a.u3 x8 x12 y,[.mk (.extern 54),.mk .disable])/\
  runG Tryz.prog false 34 (a.u3 x8 x12 y) []=some (a.u4 x8 x12 y,[(38,[.mk (.extern 56)])])/\
  oneG Tryz.prog false (a.u4 x8 x12 y) [sV 4294967296]=some (a.ua x8 x12 y,[.mk (.extern 80),a.rdW 4294967296,a.wrW 0])/\
  oneG Tryz.prog false (a.u4 x8 x12 y) [sV 4294967297]=some (a.ub x8 x12 y,[.mk (.extern 80),a.rdW 4294967297,a.wrW 1])/\
  aN1 Tryz.prog 120 1 (a.ua x8 x12 y)=true/\
  runG Tryz.prog false 103 (a.ub x8 x12 y) []=some (a.u5 x8 x12 y,[])/\
  oneG Tryz.prog false (a.u5 x8 x12 y) [sV 1]=some (a.u6 x8 x12 y,[.mk (.extern 81),a.rdW 1])/\
  runG Tryz.prog false 20 (a.u6 x8 x12 y) []=some (a.u7 x8 x12 y,[])/\
  oneG Tryz.prog false (a.u7 x8 x12 y) []=some (a.u8 x8 x12 y,[.mk (.extern 82),a.wrW 0])/\
  runG Tryz.prog false 27 (a.u8 x8 x12 y) []=some (a.u9 x8 x12 y,[])/\
  oneG Tryz.prog false (a.u9 x8 x12 y) [.v (.int .u32 0)]=some (a.uc x8 x12 y,[.mk (.extern 65),.mk .disable,.rd .atomic ⟨a.m+9,1,none⟩ (.int .u32 0),.wr .atomic ⟨a.m+9,1,none⟩ (.int .u32 1),.mk .enable])/\
  aN1 Tryz.prog 60 1 (a.uc x8 x12 y)=true/\mayWake Tryz.prog (G (a.u9 x8 x12 y).1 (a.u9 x8 x12 y).2)=true:=by
 refine ⟨?_,?_,?_,?_,?_,?_,?_,?_,?_,?_,?_,?_,?_,?_,?_,?_⟩<;>kernel_rfl
end Hid
namespace Hid
open Go Go.Proofs Go.RowKit Go.Conc Ar
noncomputable def bxOf (a:Ar) (b:Nat):Option Obj:=
 if b=a.m+0 then some (.cells #[a.v0] 22 (0,0)) else if b=a.m+1 then some (.cells #[.int .i64 a.i1] 3 (0,0)) else if b=a.m+2 then some (.cells #[.int .i64 a.i2] 3 (0,0)) else
 if b=a.m+3 then some (.cells #[a.v3] 32 (0,0)) else if b=a.m+4 then some (.cells #[.int .i64 a.i4] 3 (0,0)) else if b=a.m+6 then some (.cells #[a.V] 60 (0,0)) else if b=a.m+8 then some (.cells #[a.chV] 78 (0,0)) else none
def PXg (a:Ar) (x:Frame) (xs:List Frame) (d:Nat) (s:St):Prop:=
 d=1/\∃ n ans ls,runG Tryz.prog true n s ans=some ((x.finish a.V,xs),ls)/\(ls=a.endL\/ls=(62,[.mk (.extern 81),a.rdW 0])::a.endL)
noncomputable def env (a:Ar) (x:Frame) (xs:List Frame) (Shun:Loc->Prop) (N:Nat):Env where
 P:=Tryz.prog
 A:={ Bx:=fun b=>∃ o,bxOf a b=some o,Wg:=a.m+9,Ch:=a.m+7,Shun,n:=N }
 bx:=bxOf a
 tW:=88
 n3:=a.n3
 Low:=a.m+10
 item:=fun k=> .int .i64 k
 PX:=fun _ d s=>PXg a x xs d s
section
variable {E:Env}{nx:Nat}{ph:Ph}
def dfold (P:Program):Nat->List (FuncId×List Did)->Nat
 | d,[]=>d
 | d,(f,l)::r=>dfold P (deafBehind d (seen P f (esOf l).toArray)) r
def PQ (E:Env):List (FuncId×List Did)->Prop
 | []=>True
 | (f,l)::r=>(∀ w,FB E.bx w->WgL E.A.Wg E.tW w->Fits l w/\wOf l w=w)/\(∀ e∈seen E.P f (esOf l).toArray,Ev0 E.A E.Low e)/\PQ E r
theorem PS.run:∀ (n:Nat) {d:Nat}{s s':St}{ans:List (List An)}{ls:List (FuncId×List Did)},runG E.P true n s ans=some (s',ls)->PQ E ls->PS E nx ph (dfold E.P d ls) (G s'.1 s'.2)->PS E nx ph d (G s.1 s.2):=by
 intro n;induction n with
 | zero=>intro d s s' ans ls h hq k; cases h; exact k
 | succ n ih=>
  intro d s s' ans ls h hq k;obtain ⟨s1,an,l,ans',r,h1,h2,h3⟩:=aJ9 h;rcases h3 with ⟨rfl,rfl⟩ | rfl
  ·exact .quiet (es:=#[]) (fun w _ _=>ab4 h1 (w:=w) trivial) (by simp) (ih h2 hq k)
  ·refine .quiet (es:=seen E.P s.1.fn (esOf l).toArray) (fun w hb hw=>?_) hq.2.1 (ih h2 hq.2.2 k);obtain ⟨hf,hw'⟩:=hq.1 w hb hw;rw [ab4 h1 hf,hw']
theorem br9 {A:Area}{Low:Nat}{m:Mark}(h:(MemAct.mark m).touch?=none) (hr:∀ x,m≠.release x) (hl:(MemAct.mark m).low Low):Ev0 A Low ⟨.mark m,false,true⟩:=
 ⟨⟨fun b hb=>(by rw [show MemAct.ofEvent ⟨.mark m,false,true⟩ = .mark m from rfl,h] at hb; cases hb),fun e=>hr _ (MemAct.mark.inj e)⟩,hl⟩
theorem aQ6 {A:Area}{Low:Nat}(hl:A.Wg<Low) (i:Nat) (wr:Bool):Ev0 A Low ⟨.cell ⟨A.Wg,i,none⟩,wr,true⟩:=by
 have e:MemAct.ofEvent ⟨.cell ⟨A.Wg,i,none⟩,wr,true⟩ = .access ⟨.cell ⟨A.Wg,i,none⟩,wr,true⟩:=by cases wr<;>rfl
 refine ⟨⟨fun b hb=>?_,by rw [e]; simp⟩,by rw [e]; exact hl⟩;rw [e] at hb;simp only [MemAct.touch?,sk] at hb;subst hb;exact .inr (.inl ⟨_,rfl,rfl,by simp⟩)
theorem co6 {A:Area}{Low b:Nat}(hb:A.Bx b) (hl:b<Low):Ev0 A Low ⟨.cell ⟨b,0,none⟩,false,false⟩:=by
 refine ⟨⟨fun x hx=>?_,by simp [MemAct.ofEvent]⟩,hl⟩;simp only [MemAct.ofEvent,MemAct.touch?,sk] at hx;subst hx;exact .inl ⟨_,rfl,hb,rfl,rfl⟩
theorem co4 {A:Area}{Low b:Nat}(hb:A.Bx b) (hl:b<Low):Evn A Low ⟨.cell ⟨b,0,none⟩,false,false⟩:=by
 refine ⟨⟨fun x hx=>?_,by simp [MemAct.ofEvent]⟩,hl⟩;simp only [MemAct.ofEvent,MemAct.touch?,sk] at hx;subst hx;exact .inr (.inl ⟨_,rfl,hb,rfl,rfl⟩)
end
theorem cell_of {w:World}{b:Nat}{v:Value}{T:TypeId}(h:w.heap[b]?=some (.cells #[v] T (0,0))):w.cell? ⟨b,0,none⟩=some v:=by
 simp [World.cell?,h]
theorem af4 {Wg:Nat}{tW:TypeId}{w:World}{s m:Int}(h:WgS Wg tW w s m):w.cell? ⟨Wg,0,none⟩=some (.int .u64 s)/\w.cell? ⟨Wg,1,none⟩=some (.int .u32 m)/\w.shape? Wg=some (tW,2)/\∀ i,w.frozen? ⟨Wg,i,none⟩=false:=by
 unfold WgS at h;refine ⟨?_,?_,?_,fun i=>?_⟩
 ·simp [World.cell?,h]
 ·simp [World.cell?,h]
 ·simp [World.shape?,h]
 ·simp [World.frozen?,h]
section
variable (a:Ar) (x:Frame) (xs:List Frame) (Shun:Loc->Prop) (N:Nat)
theorem bx3 {w:World}(h:FB (bxOf a) w):w.cell? ⟨a.m+3,0,none⟩=some a.v3:=cell_of (T:=32) (h (a.m+3) _ (by simp [bxOf]))
theorem bx8 {w:World}(h:FB (bxOf a) w):w.cell? ⟨a.m+8,0,none⟩=some a.chV:=cell_of (T:=78) (h (a.m+8) _ (by simp [bxOf]))
theorem bW6 {k:Nat}(h:k<=8):IntKind.i64.wrap ((k:Int)+1)=((k+1:Nat):Int):=by
 rcases lt9 h with rfl | rfl | rfl | rfl | rfl | rfl | rfl | rfl | rfl<;>rfl
theorem pq_sh (f:FuncId) (hf:seen Tryz.prog f (esOf a.dShW).toArray = #[]) (r:List (FuncId×List Did)) (hr:PQ (env a x xs Shun N) r):PQ (env a x xs Shun N) ((f,a.dShW)::r):=by
 refine ⟨fun w _ hw=>?_,?_,hr⟩
 ·obtain ⟨s,m,hw⟩:=hw;have:=(af4 hw).2.2.1
  exact ⟨⟨this,this,trivial⟩,rfl⟩
 ·rw [show (env a x xs Shun N).P=Tryz.prog from rfl,hf];simp
theorem b38 (a:Ar) (x:Frame) (xs:List Frame) (k:Int) (g16 g31 g32 g33 g34:Value):∃ sW1 sA sB sW2 sC sD sW3 sE:St,
  runG Tryz.prog true 27 (a.s0 x xs k g16 g31 g32 g33 g34) []=some (sW1,[(42,[.mk (.extern 54),.mk .disable])])/\
  oneG Tryz.prog true sW1 [sV 4294967296]=some (sA,[.mk (.extern 81),a.rdW 4294967296])/\
  oneG Tryz.prog true sW1 [sV 0]=some (sB,[.mk (.extern 81),a.rdW 0])/\
  runG Tryz.prog true 48 sA []=some (sW2,[])/\
  oneG Tryz.prog true sW2 [SHa,.b false,sV 4294967296]=some (sC,[.mk (.extern 83),.sh (a.m+9) (some (88,2)),.fz ⟨a.m+9,0,none⟩ false,a.rdW 4294967296,.wr .atomic ⟨a.m+9,0,none⟩ (.int .u64 4294967297)])/\
  oneG Tryz.prog true sW2 [SHa,.b false,sV 0]=some (sD,[.mk (.extern 83),.sh (a.m+9) (some (88,2)),.fz ⟨a.m+9,0,none⟩ false,a.rdW 0])/\
  runG Tryz.prog true 44 sC [[SHa,SHa]]=some (sW3,[(42,a.dShW),(42,[.mk (.extern 70),.mk (.write ⟨a.m+9,1,none⟩)])])/\
  oneG Tryz.prog true sW3 [.v (.int .u32 1)]=some (sE,[.mk (.extern 71),.mk .disable,.rd .atomic ⟨a.m+9,1,none⟩ (.int .u32 1),.wr .atomic ⟨a.m+9,1,none⟩ (.int .u32 0),.mk .enable])/\
  aZ5 Tryz.prog true sW3.1 sW3.2 [.v (.int .u32 0)]=some (.still { G sW3.1 sW3.2 with status:= .blocked },[.mk (.extern 71),.mk .disable,.rd .atomic ⟨a.m+9,1,none⟩ (.int .u32 0)])/\
  runG Tryz.prog true 65 sB [[SHa,SHa],[.v a.V]]=some ((x.finish a.V,xs),a.endL)/\
  runG Tryz.prog true 91 sD [[sV 0],[SHa,SHa],[.v a.V]]=some ((x.finish a.V,xs),(62,[.mk (.extern 81),a.rdW 0])::a.endL)/\
  runG Tryz.prog true 52 sE [[sV 0],[SHa,SHa],[.v a.V]]=some ((x.finish a.V,xs),(62,[.mk (.extern 81),a.rdW 0])::a.endL)/\
  seen Tryz.prog sW1.1.fn (esOf [.mk (.extern 81),a.rdW 4294967296]).toArray = #[rdE (a.m+9) 0]/\
  seen Tryz.prog sW1.1.fn (esOf [.mk (.extern 81),a.rdW 0]).toArray = #[rdE (a.m+9) 0]/\
  seen Tryz.prog sW2.1.fn (esOf [.mk (.extern 83),.sh (a.m+9) (some (88,2)),.fz ⟨a.m+9,0,none⟩ false,a.rdW 4294967296,.wr .atomic ⟨a.m+9,0,none⟩ (.int .u64 4294967297)]).toArray = #[rdE (a.m+9) 0,wrE (a.m+9) 0]/\
  seen Tryz.prog sW2.1.fn (esOf [.mk (.extern 83),.sh (a.m+9) (some (88,2)),.fz ⟨a.m+9,0,none⟩ false,a.rdW 0]).toArray = #[rdE (a.m+9) 0]/\
  seen Tryz.prog sW3.1.fn (esOf [.mk (.extern 71),.mk .disable,.rd .atomic ⟨a.m+9,1,none⟩ (.int .u32 1),.wr .atomic ⟨a.m+9,1,none⟩ (.int .u32 0),.mk .enable]).toArray = #[mkE .disable,rdE (a.m+9) 1,wrE (a.m+9) 1,mkE .enable]:=by
 obtain ⟨f1,f2,f3,f4,f5,f6,f7,f8,f9,f10,f11,f12⟩:=bt9 a x xs k g16 g31 g32 g33 g34;refine ⟨a.sW1 x xs k g16 g31 g32 g33 g34,a.sA x xs k g16 g31 g32 g33 g34,a.sB x xs k g16 g31 g32 g33 g34,a.sW2 x xs k g16 g31 g32 g33 g34,a.sC x xs k g16 g31 g32 g33 g34,a.sD x xs k g16 g31 g32 g33 g34,a.sW3 x xs k g16 g31 g32 g33 g34,a.sE x xs k g16 g31 g32 g33 g34,f1,f2,f3,f4,f5,f6,f7,f8,f9,f10,f11,f12,?_,?_,?_,?_,?_⟩<;>kernel_rfl
theorem b79 (k:Int) (g16 g31 g32 g33 g34:Value):PS (env a x xs Shun N) a.n3 .cls 0 (G (a.s0 x xs k g16 g31 g32 g33 g34).1 (a.s0 x xs k g16 g31 g32 g33 g34).2):=by
 obtain ⟨sW1,sA,sB,sW2,sC,sD,sW3,sE,f1,f2,f3,f4,f5,f6,f7,f8,f9,f10,f11,f12,e1,e0,c1,c0,es⟩:=b38 a x xs k g16 g31 g32 g33 g34;have hWL:(env a x xs Shun N).A.Wg<(env a x xs Shun N).Low:=by show a.m+9<a.m+10; omega
 refine PS.run (E:=env a x xs Shun N) 27 f1 ⟨fun w _ _=>⟨⟨trivial,trivial,trivial⟩,rfl⟩,fun e he=>?_,trivial⟩ ?_
 ·have:seen Tryz.prog 42 (esOf [.mk (.extern 54),.mk .disable]).toArray = #[mkE .disable]:=by kernel_rfl
  rw [show (env a x xs Shun N).P=Tryz.prog from rfl,this] at he;simp at he;subst he;exact br9 rfl (by simp) trivial
 have hd1:dfold (env a x xs Shun N).P 0 [(42,[.mk (.extern 54),.mk .disable])]=1:=by kernel_rfl
 rw [hd1];have hw3:PS (env a x xs Shun N) a.n3 .reg 1 (G sW3.1 sW3.2):=by
  refine .w3 (s1:=sE) (es:=#[mkE .disable,rdE (a.m+9) 1,wrE (a.m+9) 1,mkE .enable]) (fun w st _ hw=>?_) (fun w _ hw=>?_) ⟨rfl,52,_,_,f12,.inr rfl⟩ (fun e he=>?_)
  ·exact ah9 f9 (w:=w) ⟨trivial,trivial,(af4 hw).2.1,trivial⟩
  ·have:=ab4 f8 (w:=w) ⟨trivial,trivial,(af4 hw).2.1,⟨⟨_,(af4 hw).2.1⟩,(af4 hw).2.2.2 1,by simp,by simp⟩,trivial,trivial⟩
   rw [es] at this;exact this
  ·simp at he;rcases he with rfl | rfl | rfl | rfl
   ·exact br9 rfl (by simp) trivial
   ·exact aQ6 hWL 1 false
   ·exact aQ6 hWL 1 true
   ·exact br9 rfl (by simp) trivial
 refine .w1 (s1:=sA) (s0:=sB) (es:=#[rdE (a.m+9) 0]) (fun w _ hw=>?_) ?_ (fun w _ hw=>?_) ⟨rfl,65,_,_,f10,.inl rfl⟩ (fun e he=>?_)
 ·have:=ab4 f2 (w:=w) ⟨trivial,(af4 hw).1,trivial⟩
  rw [e1] at this;exact this
 ·refine PS.run (E:=env a x xs Shun N) 48 f4 trivial ?_;refine .w2 (s1:=sC) (s0:=sD) (es:=#[rdE (a.m+9) 0,wrE (a.m+9) 0]) (es0:=#[rdE (a.m+9) 0]) (fun w _ hw=>?_) ?_ (fun w _ hw=>?_) ⟨rfl,91,_,_,f11,.inr rfl⟩ (fun e he=>?_) (fun e he=>?_)
  ·have hc:=af4 hw;have:=ab4 f5 (w:=w) ⟨trivial,hc.2.2.1,hc.2.2.2 0,hc.1,⟨⟨_,hc.1⟩,hc.2.2.2 0,by simp,by simp⟩,trivial⟩
   rw [c1] at this;exact this
  ·refine PS.run (E:=env a x xs Shun N) 44 f7 (pq_sh a x xs Shun N 42 (by kernel_rfl) _ ⟨fun w _ _=>⟨⟨trivial,trivial,trivial⟩,rfl⟩,fun e he=>?_,trivial⟩) ?_
   ·have:seen Tryz.prog 42 (esOf [.mk (.extern 70),.mk (.write ⟨a.m+9,1,none⟩)]).toArray = #[mkE (.write ⟨a.m+9,1,none⟩)]:=by kernel_rfl
    rw [show (env a x xs Shun N).P=Tryz.prog from rfl,this] at he;simp at he;subst he;refine ⟨⟨fun b hb=>?_,by simp [mkE,MemAct.ofEvent]⟩,by show a.m+9<a.m+10; omega⟩;simp only [mkE,MemAct.ofEvent,MemAct.touch?,sk] at hb;subst hb;exact .inr (.inl ⟨_,rfl,rfl,by simp⟩)
   ·exact hw3
  ·have hc:=af4 hw;have:=ab4 f6 (w:=w) ⟨trivial,hc.2.2.1,hc.2.2.2 0,hc.1,trivial⟩
   rw [c0] at this;exact this
  ·simp at he;rcases he with rfl | rfl
   ·exact aQ6 hWL 0 false
   ·exact aQ6 hWL 0 true
  ·simp at he;subst he;exact aQ6 hWL 0 false
 ·have:=ab4 f3 (w:=w) ⟨trivial,(af4 hw).1,trivial⟩
  rw [e0] at this;exact this
 ·simp at he;subst he;exact aQ6 hWL 0 false
theorem b81 (i:Nat) (v:Value) (hi:i<10) (hb:∃ o,bxOf a (a.m+i)=some o) (hv:∀ w,FB (bxOf a) w->w.cell? ⟨a.m+i,0,none⟩=some v):PQ (env a x xs Shun N) [(27,[.rd .plain ⟨a.m+i,0,none⟩ v])]:=by
 refine ⟨fun w hw _=>⟨⟨hv w hw,trivial⟩,rfl⟩,fun e he=>?_,trivial⟩;have:seen Tryz.prog 27 (esOf [.rd .plain ⟨a.m+i,0,none⟩ v]).toArray = #[⟨.cell ⟨a.m+i,0,none⟩,false,false⟩]:=by kernel_rfl
 rw [show (env a x xs Shun N).P=Tryz.prog from rfl,this] at he;simp at he;subst he;exact co6 hb (by show a.m+i<a.m+10; omega)
theorem bk8 (d i:Nat) (v:Value):dfold Tryz.prog d [(27,[.rd .plain ⟨a.m+i,0,none⟩ v])]=d:=by
 have:seen Tryz.prog 27 (esOf [.rd .plain ⟨a.m+i,0,none⟩ v]).toArray = #[⟨.cell ⟨a.m+i,0,none⟩,false,false⟩]:=by kernel_rfl
 simp only [dfold,this];rfl
theorem bt8 (k:Int) (g16 g31 g32 g33 g34:Value):mayWake Tryz.prog (G (a.SC (.int .i64 k) g16 g31 g32 g33 g34) (x::xs))=true:=by kernel_rfl
theorem bU2 (k:Int) (g16 g31 g32 g33 g34:Value):(a.SC (.int .i64 k) g16 g31 g32 g33 g34).fn=27:=rfl
theorem b80 (h8:a.n3<=8):∀ (j k:Nat),k+j=a.n3->∀ g16 g30 g31 g32 g33 g34:Value,PS (env a x xs Shun N) k .opn 0 (G (a.SP (.int .i64 k) g16 g30 g31 g32 g33 g34) (x::xs)):=by
 have hB8:∃ o,bxOf a (a.m+8)=some o:=⟨_,by simp [bxOf]; rfl⟩
 intro j;induction j with
 | zero=>
  intro k hk g16 g30 g31 g32 g33 g34;obtain rfl:k=a.n3:=by omega
  refine PS.run (E:=env a x xs Shun N) 3 (s:=(a.SP (.int .i64 (a.n3:Int)) g16 g30 g31 g32 g33 g34,x::xs)) (bY1 a (x::xs) _ _ _ _ _ _ _) trivial ?_;rw [lg (Int.lt_irrefl _)];refine PS.run (E:=env a x xs Shun N) 7 (s:=(a.SP1 (.int .i64 (a.n3:Int)) g16 false g31 g32 g33 g34,x::xs)) (ci7 a (x::xs) _ _ _ _ _ _) (b81 a x xs Shun N 8 a.chV (by omega) hB8 fun w hw=>bx8 a hw) ?_;rw [show (env a x xs Shun N).P=Tryz.prog from rfl,show a.rdC=[.rd .plain ⟨a.m+8,0,none⟩ a.chV] from rfl,bk8];have ec:∀ s' r':Nat,seen Tryz.prog 27 (esOf [.gt (a.m+7) (.chan 0 #[] false s' r' false),.st (a.m+7) (.chan 0 #[] true s' r' false)]).toArray = #[⟨.obj (a.m+7),false,true⟩,⟨.obj (a.m+7),true,true⟩]:=fun _ _=>by kernel_rfl
  refine PS.close (E:=env a x xs Shun N) (s:=(a.SC (.int .i64 (a.n3:Int)) g16 g31 g32 g33 g34,x::xs)) (s1:=a.s0 x xs (a.n3:Int) g16 g31 g32 g33 g34) (es:=#[⟨.obj (a.m+7),false,true⟩,⟨.obj (a.m+7),true,true⟩]) (fun w s' r' _ hc=>?_) (bt8 a x xs _ _ _ _ _ _) (fun e he=>?_) rfl (b79 a x xs Shun N _ _ _ _ _ _)
  ·have:=ab4 (cd4 a (x::xs) (a.n3:Int) g16 g31 g32 g33 g34 s' r') (w:=w) ⟨⟨hc,fun _ _ _ h=>by cases h⟩,⟨_,hc,fun _ _ _ h=>by cases h⟩,trivial⟩
   rw [bU2,ec] at this;exact this
  ·simp at he;rcases he with rfl | rfl
   ·refine ⟨⟨fun b hb=>?_,by simp [MemAct.ofEvent]⟩,by show a.m+7<a.m+10; omega⟩;simp only [MemAct.ofEvent,MemAct.touch?,sk] at hb;subst hb;exact .inr (.inr ⟨rfl,rfl⟩)
   ·exact ⟨⟨fun b hb=>by simp [MemAct.ofEvent,MemAct.touch?] at hb,by simp [MemAct.ofEvent]⟩,by show a.m+7<a.m+10; omega⟩
 | succ j ih=>
  intro k hk g16 g30 g31 g32 g33 g34;refine PS.run (E:=env a x xs Shun N) 3 (s:=(a.SP (.int .i64 (k:Int)) g16 g30 g31 g32 g33 g34,x::xs)) (bY1 a (x::xs) _ _ _ _ _ _ _) trivial ?_;rw [lj (show (k:Int)<(a.n3:Int) by omega)];refine PS.run (E:=env a x xs Shun N) 14 (s:=(a.SP1 (.int .i64 (k:Int)) g16 true g31 g32 g33 g34,x::xs)) (cj0 a (x::xs) _ _ _ _ _ _) (b81 a x xs Shun N 8 a.chV (by omega) hB8 fun w hw=>bx8 a hw) ?_;rw [show (env a x xs Shun N).P=Tryz.prog from rfl,show a.rdC=[.rd .plain ⟨a.m+8,0,none⟩ a.chV] from rfl,bk8];refine PS.send (E:=env a x xs Shun N) (s:=(a.SS (.int .i64 (k:Int)) g34,x::xs)) (fun w _=>?_) (by show k<a.n3; omega) ?_
  ·exact ah9 (ci4 a (x::xs) k g34) (w:=w) trivial
  ·rw [ci3];have hr:=ci8 a (x::xs) k g34;rw [bW6 (by omega)] at hr;exact PS.run (E:=env a x xs Shun N) 7 (s:=(a.SS' (.int .i64 (k:Int)) g34,x::xs)) hr trivial (ih (k+1) (by omega) _ _ _ _ _ _)
theorem bR2 (h8:a.n3<=8):PS (env a x xs Shun N) 0 .opn 0 (G a.FP (x::xs)):=by
 have hB3:∃ o,bxOf a (a.m+3)=some o:=⟨_,by simp [bxOf]; rfl⟩
 refine PS.run (E:=env a x xs Shun N) 23 (s:=(a.FP,x::xs)) (cj4 a (x::xs)) (b81 a x xs Shun N 3 a.v3 (by omega) hB3 fun w hw=>bx3 a hw) ?_;rw [show (env a x xs Shun N).P=Tryz.prog from rfl,bk8];exact b80 a x xs Shun N h8 a.n3 0 (by omega) _ _ _ _ _ _
end
end Hid
namespace Hid
open Go Go.RowKit Go.Conc
inductive Sch (ops:Array Oper):List Nat->List Nat->Prop
 | nil {D:List Nat}(h:∀ i,i<ops.size->i∈D):Sch ops D []
 | cons {D:List Nat}{i:Nat}{l:List Nat}(hi:i<ops.size) (hn:i ∉ D) (hd:∀ o,ops[i]?=some o->∀ e∈o.after,Region.binds .any e=true->e.on∈D) (k:Sch ops (i::D) l):Sch ops D (i::l)
def acyc (ops:Array Oper):Bool:=(List.range ops.size).all fun i=>((ops[i]?).map (·.after.all fun e=>!Region.binds .any e||decide (e.on<i))).getD true
theorem ci6 {ops:Array Oper}(ha:acyc ops=true):∀ (fuel t:Nat) (listed:Array Bool) (D:List Nat),listed.size=ops.size->(∀ i,i<ops.size->(listed.getD i true=false<->i ∉ D))->((List.range ops.size).filter fun i=>i ∉ D).length<=fuel->Sch ops D (Region.linearise.go .any ops fuel t listed []):=by
 intro fuel;induction fuel with
 | zero=>
  intro t listed D hs hl hf;refine .nil fun i hi=>ly fun hn=>?_
  have:i∈(List.range ops.size).filter fun i=>i ∉ D:=by simp [hi,hn]
  have:=List.length_pos_of_mem this
  omega
 | succ fuel ih=>
  intro t listed D hs hl hf;unfold Region.linearise.go;simp only
  generalize hrs:(List.range ops.size).filter (fun i=>!listed.getD i true&&((ops[i]?).map (·.after.all fun e=>!Region.binds .any e||listed.getD e.on false)).getD false)=rs;have getF:∀ j,j<ops.size->(listed.getD j false=true<->j∈D):=fun j hj=>by
   have h1:=hl j hj;have hlt:j<listed.size:=by omega
   simp only [lc,lD hlt,lY] at h1 ⊢;cases hb:listed[j]
   ·rw [hb] at h1; simp at h1; simp [h1]
   ·rw [hb] at h1; simp at h1; simp [h1]
  have mem:∀ i,i∈rs<->i<ops.size/\i ∉ D/\∀ o,ops[i]?=some o->∀ e∈o.after,Region.binds .any e=true->listed.getD e.on false=true:=fun i=>by
   rw [<-hrs];simp only [List.mem_filter,lH,lu,uD];constructor
   ·rintro ⟨hi,h1,h2⟩;refine ⟨hi,(hl i hi).1 h1,fun o ho e he hb=>?_⟩;rw [ho] at h2;simp only [lB,lY,lae] at h2;obtain ⟨j,hj,rfl⟩:=uf.1 he;have:=h2 j hj
    rw [hb] at this;simpa using this
   ·rintro ⟨hi,h1,h2⟩;refine ⟨hi,(hl i hi).2 h1,?_⟩;have ho:=lD hi;rw [ho];simp only [lB,lY,lae];intro j hj;cases hb:Region.binds .any ops[i].after[j] with
    | false=>rfl
    | true=>rw [h2 _ ho _ (Array.getElem_mem hj) hb]; rfl
  have step:∀ i,i∈rs->Sch ops D (i::Region.linearise.go .any ops fuel (t / rs.length) (listed.setIfInBounds i true) []):=fun i hi=>by
   obtain ⟨h1,h2,h3⟩:=(mem i).1 hi;refine .cons h1 h2 (fun o ho e he hb=>?_) (ih _ _ _ (by simp [hs]) (fun j hj=>?_) ?_)
   ·have hx:=h3 o ho e he hb;have hlt:e.on<listed.size:=by
     refine ly fun hc=>?_
     rw [lc,xU (by omega)] at hx;cases hx
    exact (getF e.on (by omega)).1 hx
   ·by_cases hji:i=j
    ·subst hji;simp [lc,ll (show i<listed.size by omega)]
    ·rw [lc,li hji,<-lc,hl j hj];simp [xE hji]
   ·have hlt:((List.range ops.size).filter fun j=>j ∉ i::D).length<((List.range ops.size).filter fun j=>j ∉ D).length:=by
     have e:((List.range ops.size).filter fun j=>j ∉ i::D)=(((List.range ops.size).filter fun j=>j ∉ D).filter fun j=>j≠i):=by
      rw [List.filter_filter];congr 1;funext j;simp [and_comm]
     rw [e];refine List.length_filter_lt_length_iff_exists.2 ⟨i,by simp [h1,h2],by simp⟩
    omega
  cases hp:rs[t % rs.length]? with
  | some i=>
   simp only
   rw [linearise_go_acc];exact step i (xm hp)
  | none=>
   have hnil:rs=[]:=by
    refine ly fun hc=>?_
    have:=List.length_pos_iff.2 hc
    rw [List.getElem?_eq_none_iff] at hp;have:=xO t this
    omega
   refine .nil fun i hi=>ly fun hn=>?_
   have:∀ n i,i<n->i<ops.size->i ∉ D->False:=by
    intro n;induction n with
    | zero=>intro i h; omega
    | succ n ihn=>
     intro i hin hi hn;have:i∈rs:=(mem i).2 ⟨hi,hn,fun o ho e he hb=>?_⟩
     ·rw [hnil] at this; cases this
     ·have h1:=xa.1 ha i (lH.2 hi);rw [ho] at h1;simp only [lB,lY,lae] at h1;obtain ⟨j,hj,rfl⟩:=uf.1 he;have h2:=h1 j hj;rw [hb] at h2;simp at h2;exact (getF _ (by omega)).2 (ly fun hc=>ihn _ (by omega) (by omega) hc)
   exact this (i+1) i (by omega) hi hn
theorem ci5 {ops:Array Oper}(ha:acyc ops=true) (hd:Region.departs ops=false) (mixed:Bool) (t:Nat):Sch ops [] (Region.schedule mixed ops t):=by
 unfold Region.schedule;rw [hd];simp only [Bool.not_false,Bool.or_true,xh];unfold Region.linearise;exact ci6 ha _ _ _ _ (by simp) (fun i hi=>by simp [lc,hi]) (lW (List.length_filter_le _ _) (by simp))
structure AtOpW (x:Frame) (o:Oper):Prop where
 mode:x.mode = .run
 kind:bw8 x.kind=true
 round:x.roundOf=none
 todo:∃ ops i rest k,x.todo = .inRegion ops (i::rest)::k/\ops[i]?=some o/\o.guard=none
variable [inst:LoopOK] [Junk]
section
variable {E:Env}{B0:Nat}{T:Nat->Trace->Prop}{st:Ph->Int}{R:Ph->Prop}{nx dn:Nat}{L:World}{Post:Value->World->Prop}
theorem WW.op (hE:EOK E B0) (hR:RP st R) {s s':St}{an:List An}{l:List Did}(h1:oneG E.P false s an=some (s',l)) (hq:QAll E L [(s.1.fn,l)]) (k:WW E B0 (TI E.A) st R nx dn (G s'.1 s'.2) L Post):WW E B0 (TI E.A) st R nx dn (G s.1 s.2) L Post:=by
 have hd:deafBehind dn (seen E.P s.1.fn (esOf l).toArray)=dn:=deafBehind_still (fun e he=>(hq.2.1 e he).2) _;refine WW.still (T':=TI E.A) hE (ak9 hE.ap) hR (es:=seen E.P s.1.fn (esOf l).toArray) (fun C ph _ hb hw hg=>?_) (aY4 hE fun e he=>(hq.2.1 e he).1) (by rw [hd]; exact k);obtain ⟨hf,hw'⟩:=hq.1 C hb hw ⟨_,_,hg⟩;rw [ab4 h1 hf,hw']
structure LF (E:Env) (B0:Nat) (L:World):Prop where
 low:E.Low<=L.heap.size
 shun:∀ l,E.A.Shun l->∃ a T fz,l = .cell a/\L.heap[a.block]?=some (.cells #[] T fz)
 chL:L.heap[E.A.Ch]?=some (.chan 0 #[] false 0 0 false)
 hidb:∀ b o,E.bx b=some o->∃ T fz,L.heap[b]?=some (.cells #[] T fz)
 hidw:∃ T fz,L.heap[E.A.Wg]?=some (.cells #[] T fz)
theorem WW.facts {b:Goroutine}(h:LF E B0 L->WW E B0 T st R nx dn b L Post):WW E B0 T st R nx dn b L Post:=
 fun ph d a gs C sl t q hinv hr=>h ⟨hinv.low,hinv.shun,hinv.chL,hinv.hidb,hinv.hidw⟩ ph d a gs C sl t q hinv hr
theorem cc0 (hE:EOK E B0) (hl:LF E B0 L) {ad:Addr}{v:Value}(hv:L.cell? ad=some v):Evn E.A L.heap.size ⟨.cell ad,false,false⟩:=by
 obtain ⟨c,U,fz,k1,k2⟩:∃ c T fz,L.heap[ad.block]?=some (.cells c T fz)/\ad.off<c.size:=by
  unfold World.cell? at hv;cases ho:L.heap[ad.block]? with
  | none=>rw [ho] at hv; cases hv
  | some o=>
   rw [ho] at hv;cases o with
   | cells c T fz=>
    simp only at hv
    split at hv
    ·cases hv
    ·exact ⟨c,T,fz,rfl,(lh.1 hv).1⟩
   | _=>cases hv
 have no:∀ {b:Nat}{T fz},b=ad.block->L.heap[b]?≠some (.cells #[] T fz):=fun {b T fz} hb h=>by
  subst hb;rw [k1] at h;cases h;simp at k2
 refine ⟨⟨fun x hx=> .inl ?_,by simp [MemAct.ofEvent]⟩,(lh.1 k1).1⟩;simp only [MemAct.ofEvent,MemAct.touch?,sk] at hx;subst hx;refine ⟨?_,fun hs=>?_⟩
 ·rintro (⟨a2,e2,hc⟩ | e2)
  ·cases e2;rcases hc with hc | hc
   ·obtain ⟨o,ho⟩:=hE.bx' _ hc;obtain ⟨U2,fz2,k3⟩:=hl.hidb _ _ ho;exact no rfl k3
   ·obtain ⟨U2,fz2,k3⟩:=hl.hidw;exact no hc.symm k3
  ·cases e2
 ·obtain ⟨a2,U2,fz2,e2,k3⟩:=hl.shun _ hs;cases e2;exact (no rfl k3).elim
theorem WW.draw (hE:EOK E B0) (hT:TProp E.A T) (hR:RP st R) {fr:Frame}{cs:List Frame}{id:Nat}{ops:Array Oper}{k:List Item}(hm:fr.mode = .run) (hq:fr.todo = .code (.region id ops true)::k)
  (h:∀ n,WW E B0 T st R nx dn (G { fr with todo:= .inRegion ops (Region.schedule (E.P.follows .mixedOrders) ops n)::k } cs) L Post):WW E B0 T st R nx dn (G fr cs) L Post:=by
 refine .of hE hT hR rfl fun ph d a gs C sl t q hinv hr=>?_
 obtain ⟨n,e,hch⟩:∃ n e,(choose (.order fr.fn id)).run E.P C = .ok n (C.at e):=by
  exact ⟨_,C.drawn+1,rfl⟩
 have hs:stepG E.P false (G fr cs) C = .go (G { fr with todo:= .inRegion ops (Region.schedule (E.P.follows .mixedOrders) ops n)::k } cs) (C.at e) #[]:=by
  simp only [stepG,G,hm,stepG.exec,hq,hch,Bool.not_true,lE,xn]
 obtain ⟨gs',h1,hz,h2,h3,h4,h5,h6⟩:=ay9 (sl:=sl) hinv hs;refine ⟨_,_,h1,h n ph d _ gs' _ sl _ q (Inv.atC ⟨h2,h3,h4,hinv.wr,hinv.old,hinv.tape,hinv.low,hinv.shun,hinv.bx,hinv.ch,hinv.chL,hinv.wg,hinv.hidb,hinv.hidw,?_,h5,h6,hinv.ps.woken hinv.ch _ _,hinv.cn⟩ e) hr⟩;rw [a06];exact hinv.tr
theorem WW.lock (hE:EOK E B0) (hR:RP st R) {p:Program}(J:JB) (hP:@Pair J.v p E.P) (hJs:¬ J.v.set) (hok:∀ r,J.v.ok r<->inst.ok r) (hG:GB p B0) {f:FuncId}{Q:Value->World->Prop}{x y:Frame}{o oy:Oper}(hx:AtOp x o) (hy:AtOpW y oy) (hT:@OpT J.v p E.P o)
  (hxy:execOp y.eval oy=execOp x.eval o) {cs zs csP:List Frame}(hcs:cs=zs++[dmF p]) (hz:∀ z∈zs,z.defers=[]/\(z.mode = .run\/z.mode = .returning)) (hxd:x.defers=[]) (hval:∀ g args w w' es es',(execOp x.eval o).runT p w es≠(.ok (.enter g args) w',es'))
  (ht:Tree p (AtRet p f Q) (G x cs) L)
  (K:∀ v L',Tree p (AtRet p f Q) (G (x.finish v) cs) L'->Later p (G x cs) L (G (x.finish v) cs) L'->WW E B0 (TI E.A) st R nx dn (G (y.finish v) csP) L' Post):WW E B0 (TI E.A) st R nx dn (G y csP) L Post:=by
 refine .of hE (ak9 hE.ap) hR rfl fun ph d a gs C sl t q hinv hr=>?_
 obtain ⟨g',L',es,e,ht',hlat⟩:=ht.goes (as9 hx.mode) C.drawn;have hwr:@WR J.v _ C (L.at C.drawn):=by
  have h:=hinv.wr;exact @WR.mk J.v _ C (L.at C.drawn) (h.os) (h.out) (h.size) (h.blk) (h.nv) (h.np) (fun b r hx=>(hok r).2 (h.lp b r hx))
 have hwl:@WR J.v _ (L.at C.drawn) (L.at C.drawn):=@WR.self J.v _ _ _ hwr;have hearly:(x.kind==CallKind.early)=false:=by rw [hx.kind]; rfl
 have hmode:∀ ch,g'.frame.mode≠.panicking ch:=by
  intro ch hch;refine aO2 (P:=E.P) ht' ?_;have e':=e;rw [hx.step] at e';have hTT:=hT x.eval fun _=>rfl
  cases hr:(execOp x.eval o).runT p (L.at C.drawn) #[] with
  | mk r es0=>
   cases r with
   | ok n w=>
    have hpl:=(@TameN.plain J.v _ p E.P hP _ hTT _ _ _ _ _ hwl hr).1;have e2:=@AtOp.go J.v _ _ _ hx p true cs _ _ _ _ hr hpl;rw [e] at e2;exfalso;have fin:∀ v,(x.finish v).mode = .run:=fun v=>by
     unfold Frame.finish;split<;>exact hx.mode
    cases hpl<;>(simp only [GStep.go.injEq] at e2; rw [e2.1] at hch)<;>first | (simp only [G,fin] at hch; cases hch) | (simp only [G,Frame.enter] at hch; cases hch)
   | halt hh w=>
    unfold stepG.apply at e';simp only [hr,xh,hearly,lE,xn] at e';cases @TameN.bK6 J.v _ p E.P (@Pair.twin J.v p E.P hP) _ hTT _ _ _ _ _ hwl hr with
    | panic v=>
     simp only [ac7,GStep.go.injEq] at e';rw [<-e'.1];have:x.raise [{ v,recovered:=false }]={ x with mode:= .panicking [{ v,recovered:=false }] }:=by
      unfold Frame.raise;rw [hx.mode]
     rw [this,hcs];exact .fr rfl hxd hz
    | uns u hu=>cases u<;>first | (simp [GStep.after] at e'; done) | exact absurd rfl (hu _)
    | stuck s=>simp [GStep.after] at e'
 obtain ⟨n,es0,hrun,hp,rfl⟩:=@AtOp.inv J.v _ p E.P x o hx hP hT true cs _ _ _ _ hwl e hmode;have e2:=@AtOp.go J.v _ _ _ hx p true cs _ _ _ _ hrun hp;rw [e] at e2;obtain ⟨_,_,hl⟩:=@TameN.law J.v _ p E.P (@Pair.twin J.v p E.P hP) _ (hT x.eval fun _=>rfl) C (L.at C.drawn) _ _ _ _ hwr (hinv.wr.gl hG hinv.old) (fun i _=>by show C.tape _=L.tape _; rw [hinv.tape]; rfl) hrun;have fin:∀ v C',(execOp x.eval o).runT E.P C #[]=(.ok n C',es0)->(n = .value v\/(n = .skip/\v=undef))->stepG E.P false (G y csP) C = .go (G (y.finish v) csP) C' (seen E.P y.fn es0):=fun v C' hC hn=>by
  rw [<-hxy] at hC;obtain ⟨hm,hk,hro,ops,i,rest,k,htd,ho,hg⟩:=hy;have hw:(((ops[i]?).map (Region.wanted · (yielded ops y.tmps))).getD false)=true:=by
   rw [ho];simp [Region.wanted,hg]
  have ho':y.oper?=some oy:=by simp only [Frame.oper?,htd,ho]
  have hk':(y.kind==CallKind.early)=false:=by cases hh:y.kind<;>first | rfl | (rw [hh] at hk; cases hk)
  simp only [stepG,G,hm,stepG.exec,htd,hw,xh,stepG.oper,ho',hro];unfold stepG.apply;rcases hn with rfl | ⟨rfl,rfl⟩<;>(simp only [hC,xh,hk',lE,xn,ac7])<;>rfl
 have fin2:∀ v C',(n = .value v\/(n = .skip/\v=undef))->g'=G (x.finish v) cs->(execOp x.eval o).runT E.P C #[]=(.ok n C',es0)->@Out J.v _ C (L.at C.drawn) C' L' #[] es0->∃ m' ops,runT E.P (crowd gs C sl) E.A.n=(.next m',ops)/\Wins E.P Post m' (t++ops):=fun v C' hn hg' hC ho=>by
  subst hg';have hof:=@OutF.of J.v _ hJs _ _ _ _ _ (@Out.seen J.v _ _ _ _ _ _ ho E.P y.fn);obtain ⟨gs',h1,hz1,h2,h3,h4,h5,h6⟩:=ay9 (sl:=sl) hinv (fin v C' hC hn);refine ⟨_,_,h1,K v _ ht' hlat ph d _ gs' C' sl _ q (hinv.out hE (fun r h=>(hok r).1 h) hof h2 h3 h4 h5 h6 (hinv.ps.woken ?_ _ _)) hr⟩;obtain ⟨s,r,hc⟩:=hinv.ch;exact ⟨s,r,(hof.obj _ _ hinv.chL fun _ _ _ hc=>by cases hc).2.trans hc⟩
 cases hp with
 | enter g1 args=>exact (hval _ _ _ _ _ _ hrun).elim
 | value v=>
  rcases hl with ⟨_,_,_,hc,_⟩ | ⟨C',hC,ho⟩
  ·cases hc
  simp only [GStep.go.injEq] at e2;exact fin2 v C' (.inl rfl) e2.1 hC ho
 | skip=>
  rcases hl with ⟨_,_,_,hc,_⟩ | ⟨C',hC,ho⟩
  ·cases hc
  simp only [GStep.go.injEq] at e2;exact fin2 undef C' (.inr ⟨rfl,rfl⟩) e2.1 hC ho
end
end Hid
namespace Hid
open Go Go.Proofs Go.RowKit Go.Conc Ar
variable [Junk]
section
variable (a:Ar) (x:Frame) (xs:List Frame) (Shun:Loc->Prop) (N:Nat) {B0:Nat}{Post:Value->World->Prop}
abbrev TW (B0:Nat) (Post:Value->World->Prop) (R:Ph->Prop) (nx:Nat) (b:Goroutine) (L:World):Prop:=WW (env a x xs Shun N) B0 (TI (env a x xs Shun N).A) Ph.st R nx 0 b L Post
def PXL (B0:Nat) (Post:Value->World->Prop) (L:World):Prop:=∀ f d s,(env a x xs Shun N).PX f d s->∀ gs C sl t q,XS (env a x xs Shun N) B0 L 0 0 d (G s.1 s.2) gs C t q->Wins Tryz.prog Post (crowd gs C sl) t
theorem eok (hB:B0<=a.m) (hS:∀ l,Shun l->∃ ad,l = .cell ad/\ad.block<a.m) (hN:0<N):EOK (env a x xs Shun N) B0:=by
 have hb:∀ b o,bxOf a b=some o->b=a.m+0\/b=a.m+1\/b=a.m+2\/b=a.m+3\/b=a.m+4\/b=a.m+6\/b=a.m+8:=fun b o h=>by
  unfold bxOf at h;split at h
  ·exact .inl ‹_›
  split at h
  ·exact .inr (.inl ‹_›)
  split at h
  ·exact .inr (.inr (.inl ‹_›))
  split at h
  ·exact .inr (.inr (.inr (.inl ‹_›)))
  split at h
  ·exact .inr (.inr (.inr (.inr (.inl ‹_›))))
  split at h
  ·exact .inr (.inr (.inr (.inr (.inr (.inl ‹_›)))))
  split at h
  ·exact .inr (.inr (.inr (.inr (.inr (.inr ‹_›)))))
  ·cases h
 refine ⟨⟨fun b ⟨o,ho⟩ hc=>?_,fun l hl hh=>?_,hN⟩,fun b o h=>⟨o,h⟩,fun b h=>h,?_,?_,?_,?_,?_,?_,?_⟩
 ·have:=hb b o ho
  have hc:b=a.m+9:=hc;omega
 ·obtain ⟨ad,rfl,hlt⟩:=hS l hl;rcases hh with ⟨ad',e,⟨o,ho⟩ | hh⟩ | e
  ·cases e;have:=hb _ o ho
   omega
  ·cases e;have hh:ad.block=a.m+9:=hh;omega
  ·cases e
 ·show a.m+7≠a.m+9; omega
 ·show bxOf a (a.m+7)=none;cases h:bxOf a (a.m+7) with
  | none=>rfl
  | some o=>have:=hb _ o h; omega
 ·show bxOf a (a.m+9)=none;cases h:bxOf a (a.m+9) with
  | none=>rfl
  | some o=>have:=hb _ o h; omega
 ·show B0<=a.m+7; omega
 ·show B0<=a.m+9; omega
 ·show a.m+7<a.m+10; omega
 ·show a.m+9<a.m+10; omega
variable {a x xs Shun N}
theorem cc6 (a:Ar) (x8 x12:Value) (y:Nat->Value):∃ u0 u1 u2 u3 u4 ua ub u5 u6 u7 u8 u9 uc:St,
  runG Tryz.prog false 17 (a.WX x8 x12 y,[gx]) [[SHa,SHa]]=some (u0,[(38,a.dShW)])/\
  oneG Tryz.prog false u0 []=some (u1,[.mk (.extern 53),.mk (.releaseMerge ⟨a.m+9,0,none⟩)])/\
  runG Tryz.prog false 3 u1 []=some (u2,[])/\
  oneG Tryz.prog false u2 []=some (u3,[.mk (.extern 54),.mk .disable])/\
  runG Tryz.prog false 34 u3 []=some (u4,[(38,[.mk (.extern 56)])])/\
  oneG Tryz.prog false u4 [sV 4294967296]=some (ua,[.mk (.extern 80),a.rdW 4294967296,a.wrW 0])/\
  oneG Tryz.prog false u4 [sV 4294967297]=some (ub,[.mk (.extern 80),a.rdW 4294967297,a.wrW 1])/\
  aN1 Tryz.prog 120 1 ua=true/\
  runG Tryz.prog false 103 ub []=some (u5,[])/\
  oneG Tryz.prog false u5 [sV 1]=some (u6,[.mk (.extern 81),a.rdW 1])/\
  runG Tryz.prog false 20 u6 []=some (u7,[])/\
  oneG Tryz.prog false u7 []=some (u8,[.mk (.extern 82),a.wrW 0])/\
  runG Tryz.prog false 27 u8 []=some (u9,[])/\
  oneG Tryz.prog false u9 [.v (.int .u32 0)]=some (uc,[.mk (.extern 65),.mk .disable,.rd .atomic ⟨a.m+9,1,none⟩ (.int .u32 0),.wr .atomic ⟨a.m+9,1,none⟩ (.int .u32 1),.mk .enable])/\
  aN1 Tryz.prog 60 1 uc=true/\mayWake Tryz.prog (G u9.1 u9.2)=true/\
  seen Tryz.prog u0.1.fn (esOf [.mk (.extern 53),.mk (.releaseMerge ⟨a.m+9,0,none⟩)]).toArray = #[mkE (.releaseMerge ⟨a.m+9,0,none⟩)]/\
  seen Tryz.prog u2.1.fn (esOf [.mk (.extern 54),.mk .disable]).toArray = #[mkE .disable]/\
  seen Tryz.prog u4.1.fn (esOf [.mk (.extern 80),a.rdW 4294967296,a.wrW 0]).toArray = #[rdE (a.m+9) 0,wrE (a.m+9) 0]/\
  seen Tryz.prog u4.1.fn (esOf [.mk (.extern 80),a.rdW 4294967297,a.wrW 1]).toArray = #[rdE (a.m+9) 0,wrE (a.m+9) 0]/\
  seen Tryz.prog u5.1.fn (esOf [.mk (.extern 81),a.rdW 1]).toArray = #[rdE (a.m+9) 0]/\
  seen Tryz.prog u7.1.fn (esOf [.mk (.extern 82),a.wrW 0]).toArray = #[wrE (a.m+9) 0]/\
  seen Tryz.prog u9.1.fn (esOf [.mk (.extern 65),.mk .disable,.rd .atomic ⟨a.m+9,1,none⟩ (.int .u32 0),.wr .atomic ⟨a.m+9,1,none⟩ (.int .u32 1),.mk .enable]).toArray = #[mkE .disable,rdE (a.m+9) 1,wrE (a.m+9) 1,mkE .enable]:=by
 obtain ⟨f1,f2,f3,f4,f5,f6,f7,f8,f9,f10,f11,f12,f13,f14,f15,f16⟩:=bz1 a x8 x12 y;refine ⟨a.u0 x8 x12 y,a.u1 x8 x12 y,a.u2 x8 x12 y,a.u3 x8 x12 y,a.u4 x8 x12 y,a.ua x8 x12 y,a.ub x8 x12 y,a.u5 x8 x12 y,a.u6 x8 x12 y,a.u7 x8 x12 y,a.u8 x8 x12 y,a.u9 x8 x12 y,a.uc x8 x12 y,f1,f2,f3,f4,f5,f6,f7,f8,f9,f10,f11,f12,f13,f14,f15,f16,?_,?_,?_,?_,?_,?_,?_⟩<;>kernel_rfl
theorem ci2 (a:Ar):seen Tryz.prog 38 (esOf a.dShW).toArray = #[]:=by kernel_rfl
theorem nil81:seen Tryz.prog 38 (esOf [.mk (.extern 56)]).toArray = #[]:=by kernel_rfl
theorem cf0 (hE:EOK (env a x xs Shun N) B0) {L:World}(hPX:PXL a x xs Shun N B0 Post L) (x8 x12:Value) (y:Nat->Value):TW a x xs Shun N B0 Post R2 a.n3 (G (a.WX x8 x12 y) [gx]) L:=by
 obtain ⟨u0,u1,u2,u3,u4,ua,ub,u5,u6,u7,u8,u9,uc,f1,f2,f3,f4,f5,f6,f7,f8,f9,f10,f11,f12,f13,f14,f15,f16,e1,e2,e3,e4,e5,e6,e7⟩:=cc6 a x8 x12 y;have hKK:KK=4294967296:=rfl;refine WW.run (E:=env a x xs Shun N) hE rp2 17 (s:=(a.WX x8 x12 y,[gx])) f1 ⟨fun C _ _ hw=>?_,fun e he=>?_,trivial⟩ ?_
 ·obtain ⟨s,m,hw⟩:=hw;have:=(af4 hw).2.2.1
  exact ⟨⟨this,this,trivial⟩,rfl⟩
 ·rw [show (env a x xs Shun N).P=Tryz.prog from rfl,ci2] at he;simp at he
 refine WW.r0 (E:=env a x xs Shun N) hE rp2 (s1:=u1) (fun C ph _ _ _ _=>?_) ?_
 ·have:=ab4 f2 (w:=C) ⟨trivial,trivial,trivial⟩
  rw [e1] at this;exact this
 refine WW.bb5 (E:=env a x xs Shun N) hE (ah6 hE.ap) rp2 3 f3 trivial ?_;refine WW.k1 (E:=env a x xs Shun N) hE rp2 (s1:=u3) (fun C ph _ _ _ _=>?_) ?_
 ·have:=ab4 f4 (w:=C) ⟨trivial,trivial,trivial⟩
  rw [e2] at this;exact this
 refine WW.bb5 (E:=env a x xs Shun N) hE (ah6 hE.ap) rp2 34 f5 ⟨fun C _=>⟨⟨trivial,trivial⟩,rfl⟩,nil81,trivial⟩ ?_;refine WW.d1 (E:=env a x xs Shun N) hE hPX (sa:=ua) (sb:=ub) (n:=120) (by omega) (fun C _ hw=>?_) (a03 f8) (fun C _ hw=>?_) ?_
 ·have hc:=af4 hw;have:=ab4 f6 (w:=C) ⟨trivial,hc.1,⟨⟨_,hc.1⟩,hc.2.2.2 0,by simp,by simp⟩,trivial⟩
  rw [e3] at this;exact this
 ·have hc:=af4 hw;have:=ab4 f7 (w:=C) ⟨trivial,hc.1,⟨⟨_,hc.1⟩,hc.2.2.2 0,by simp,by simp⟩,trivial⟩
  rw [e4] at this;exact this
 refine WW.bb5 (E:=env a x xs Shun N) hE (ah6 hE.ap) (rp3 1) 103 f9 trivial ?_;refine WW.d2 (E:=env a x xs Shun N) hE (rp3 1) (s1:=u6) (fun C ph _ _ _ hw=>?_) (by omega) ?_
 ·have hc:=af4 hw;have:=ab4 f10 (w:=C) ⟨trivial,hc.1,trivial⟩
  rw [e5] at this;exact this
 refine WW.bb5 (E:=env a x xs Shun N) hE (ah6 hE.ap) (rp3 1) 20 f11 trivial ?_;refine WW.d3 (E:=env a x xs Shun N) hE (s1:=u8) (by omega) (fun C _ hw=>?_) ?_
 ·have hc:=af4 hw;have:=ab4 f12 (w:=C) ⟨trivial,⟨⟨_,hc.1⟩,hc.2.2.2 0,by simp,by simp⟩,trivial⟩
  rw [e6] at this;exact this
 refine WW.bb5 (E:=env a x xs Shun N) hE (ah6 hE.ap) (rp3 0) 27 f13 trivial ?_;refine WW.d4 (E:=env a x xs Shun N) hE hPX (s1:=uc) (n:=60) (by omega) f16 (fun C _ hw=>?_) (a03 f15);have hc:=af4 hw;have:=ab4 f14 (w:=C) ⟨trivial,trivial,hc.2.1,⟨⟨_,hc.2.1⟩,hc.2.2.2 1,by simp,by simp⟩,trivial,trivial⟩
 rw [e7] at this;exact this
end
end Hid
namespace Hid
open Go Go.Proofs Go.RowKit Go.Conc Ar
variable [Junk]
noncomputable def depB (i j:Nat):Bool:=(opsW[i]?).any fun o=>o.after.any fun e=>Region.binds .any e&&e.on==j
theorem ai2 {i j:Nat}{D:List Nat}(hd:∀ o,opsW[i]?=some o->∀ e∈o.after,Region.binds .any e=true->e.on∈D) (h:depB i j=true):j∈D:=by
 unfold depB at h;cases ho:opsW[i]? with
 | none=>rw [ho] at h; cases h
 | some o=>
  rw [ho] at h;simp only [Option.any_some,Array.any_eq_true] at h;obtain ⟨q,hq,h⟩:=h;simp only [lu,beq_iff_eq] at h;rw [<-h.2];exact hd o ho _ (Array.getElem_mem hq) h.1
theorem bF1:opsW.size=13:=by kernel_rfl
theorem acycW:acyc opsW=true:=by kernel_rfl
theorem bV0:Region.departs opsW=false:=by kernel_rfl
section
variable {a:Ar}{x:Frame}{xs:List Frame}{Shun:Loc->Prop}{N:Nat}{B0:Nat}{Post:Value->World->Prop}{f:FuncId}{Q:Value->World->Prop}
noncomputable def fv (a:Ar) (k:Value) (p1 v1 p2:Value) (r:Option Value):Nat->Option Value
 | 0=>some a.V
 | 1=>some k
 | 2=>some a.v0
 | 3=>some (.int .i64 a.i1)
 | 4=>some (.int .i64 a.i2)
 | 5=>some a.v3
 | 6=>some k
 | 7=>some p1
 | 8=>some v1
 | 9=>some (.int .i64 a.i4)
 | 10=>r
 | 11=>some p2
 | _=>none
def OKy (F:Nat->Option Value) (D:List Nat) (y:Nat->Value):Prop:=∀ i,i∈D->∀ v,F i=some v->y (13+i)=v
theorem OKy.set {F:Nat->Option Value}{D:List Nat}{y:Nat->Value}(h:OKy F D y) {i:Nat}{v:Value}(hv:∀ u,F i=some u->u=v):OKy F (i::D) (updF y (13+i) v):=by
 intro j hj u hu;unfold updF;by_cases hji:j=i
 ·subst hji;rw [lm rfl];exact (hv u hu).symm
 ·rw [lr (by omega)];exact h j ((xb.1 hj).resolve_left hji) u hu
theorem ag1 {y:Nat->Value}{s:Nat}{v:Value}(h:y s=v):updF y s v=y:=by
 funext j;unfold updF;split
 ·rename_i e; rw [e,h]
 ·rfl
theorem aV3 {L:World}(fn:FuncId):QAll (env a x xs Shun N) L [(fn,[])]:=⟨fun C _ _ _=>⟨trivial,rfl⟩,fun e he=>by simp [bp2] at he,trivial⟩
theorem bj5 {L:World}(hl:LF (env a x xs Shun N) B0 L) (i:Nat) (v:Value) (hi:i<10) (T:TypeId) (hb:bxOf a (a.m+i)=some (.cells #[v] T (0,0))):QAll (env a x xs Shun N) L [(39,[.rd .plain ⟨a.m+i,0,none⟩ v])]:=by
 refine ⟨fun C hC _ _=>⟨⟨cell_of (hC _ _ hb),trivial⟩,rfl⟩,fun e he=>?_,trivial⟩;have:seen Tryz.prog 39 (esOf [.rd .plain ⟨a.m+i,0,none⟩ v]).toArray = #[⟨.cell ⟨a.m+i,0,none⟩,false,false⟩]:=by kernel_rfl
 rw [show (env a x xs Shun N).P=Tryz.prog from rfl,this] at he;simp at he;subst he;have hlow:a.m+10<=L.heap.size:=hl.low;exact ⟨co4 ⟨_,hb⟩ (by omega),by simp,by simp⟩
theorem ck3 (hE:EOK (env a x xs Shun N) B0) {L:World}(hl:LF (env a x xs Shun N) B0 L) {ad:Addr}{v:Value}(hv:L.cell? ad=some v):QAll (env a x xs Shun N) L [(39,[.rd .plain ad v])]:=by
 refine ⟨fun C _ hw _=>⟨⟨(hw.cell hv).1,trivial⟩,rfl⟩,fun e he=>?_,trivial⟩;have:seen Tryz.prog 39 (esOf [.rd .plain ad v]).toArray = #[⟨.cell ad,false,false⟩]:=by kernel_rfl
 rw [show (env a x xs Shun N).P=Tryz.prog from rfl,this] at he;simp at he;subst he;exact ⟨cc0 hE hl hv,by simp,by simp⟩
theorem bxV {i:Nat}:bxOf a (a.m+0)=some (.cells #[a.v0] 22 (0,0))/\bxOf a (a.m+1)=some (.cells #[.int .i64 a.i1] 3 (0,0))/\bxOf a (a.m+2)=some (.cells #[.int .i64 a.i2] 3 (0,0))/\bxOf a (a.m+3)=some (.cells #[a.v3] 32 (0,0))/\bxOf a (a.m+4)=some (.cells #[.int .i64 a.i4] 3 (0,0))/\bxOf a (a.m+6)=some (.cells #[a.V] 60 (0,0))/\bxOf a (a.m+8)=some (.cells #[a.chV] 78 (0,0)):=by
 refine ⟨?_,?_,?_,?_,?_,?_,?_⟩<;>simp [bxOf]
noncomputable def p1 (a:Ar) (ad:Addr) (k:Nat):Value:= .pointer (some (ad.add (k*1)))
noncomputable def p2 (a:Ar) (k:Nat):Value:= .pointer (some ((⟨a.m+5,0,none⟩:Addr).add (k*1)))
theorem b08 (hE:EOK (env a x xs Shun N) B0) {ad:Addr}(hb3:a.b3=some ad) {k:Nat}(hk:k<a.n3) (h8:a.n3<=8) {v1:Value}{r:Option Value}{L:World}(hl:LF (env a x xs Shun N) B0 L) {i:Nat}(hi:i<10) (hvis:i=8->L.cell? (ad.add (k*1))=some v1) {D:List Nat}{y:Nat->Value}{l:List Nat}{nx:Nat}
  (hd:∀ o,opsW[i]?=some o->∀ e∈o.after,Region.binds .any e=true->e.on∈D) (hy:OKy (fv a (.int .i64 k) (p1 a ad k) v1 (p2 a k) r) D y)
  (K:∀ y',OKy (fv a (.int .i64 k) (p1 a ad k) v1 (p2 a k) r) (i::D) y'->TW a x xs Shun N B0 Post R1 nx (G (a.WO (.int .i64 k) y' l) [gx]) L):TW a x xs Shun N B0 Post R1 nx (G (a.WO (.int .i64 k) y (i::l)) [gx]) L:=by
 obtain ⟨b0,b1,b2,b3,b4,b6,b8⟩:=bxV (a:=a) (i:=0);have go:∀ {v:Value}{an:List An}{ds:List Did},(∀ u,fv a (.int .i64 k) (p1 a ad k) v1 (p2 a k) r i=some u->u=v)->oneG Tryz.prog false (a.WO (.int .i64 k) y (i::l),[gx]) an=some ((a.WO (.int .i64 k) (updF y (13+i) v) l,[gx]),ds)->QAll (env a x xs Shun N) L [(39,ds)]->TW a x xs Shun N B0 Post R1 nx (G (a.WO (.int .i64 k) y (i::l)) [gx]) L:=
  fun hv h1 hq=>WW.op (E:=env a x xs Shun N) hE rp1 (s:=(a.WO (.int .i64 k) y (i::l),[gx])) h1 hq (K _ (hy.set hv))
 have hcase:i=0\/i=1\/i=2\/i=3\/i=4\/i=5\/i=6\/i=7\/i=8\/i=9:=by omega
 rcases hcase with rfl | rfl | rfl | rfl | rfl | rfl | rfl | rfl | rfl | rfl
 ·exact go (v:=a.V) (fun u h=>(sj h).symm) (op0_W a _ y l) (bj5 hl 6 _ (by omega) 60 b6)
 ·exact go (v:= .int .i64 k) (fun u h=>(sj h).symm) (op1_W a _ y l) (aV3 _)
 ·exact go (v:=a.v0) (fun u h=>(sj h).symm) (op2_W a _ y l) (bj5 hl 0 _ (by omega) 22 b0)
 ·exact go (v:= .int .i64 a.i1) (fun u h=>(sj h).symm) (op3_W a _ y l) (bj5 hl 1 _ (by omega) 3 b1)
 ·exact go (v:= .int .i64 a.i2) (fun u h=>(sj h).symm) (op4_W a _ y l) (bj5 hl 2 _ (by omega) 3 b2)
 ·exact go (v:=a.v3) (fun u h=>(sj h).symm) (op5_W a _ y l) (bj5 hl 3 _ (by omega) 32 b3)
 ·exact go (v:= .int .i64 k) (fun u h=>(sj h).symm) (op6_W a _ y l) (aV3 _)
 ·have h5:y 18=a.v3:=hy 5 (ai2 hd (by kernel_rfl)) _ rfl;have h6:y 19 = .int .i64 k:=hy 6 (ai2 hd (by kernel_rfl)) _ rfl;have h1:=op7_W a ad hb3 k hk h8 y l;rw [ag1 h5,ag1 h6] at h1;exact go (v:=p1 a ad k) (fun u h=>(sj h).symm) h1 (aV3 _)
 ·have h7:y 20 = .pointer (some (ad.add (k*1))):=hy 7 (ai2 hd (by kernel_rfl)) _ rfl;have h1:=op8_W a (.int .i64 k) (ad.add (k*1)) v1 y l;rw [ag1 h7] at h1;exact go (v:=v1) (fun u h=>(sj h).symm) h1 (ck3 hE hl (hvis rfl))
 ·exact go (v:= .int .i64 a.i4) (fun u h=>(sj h).symm) (op9_W a _ y l) (bj5 hl 4 _ (by omega) 3 b4)
end
end Hid
namespace Hid
open Go Go.Proofs Go.RowKit Go.Conc Ar
variable [Junk]
section
variable {a:Ar}{x:Frame}{xs:List Frame}{Shun:Loc->Prop}{N:Nat}{B0:Nat}{Post:Value->World->Prop}{f:FuncId}{Q:Value->World->Prop}
noncomputable def csT (x:Frame) (xs:List Frame):List Frame:=x::xs++[dmF twp]
def CsOK (x:Frame) (xs:List Frame):Prop:=∀ z∈x::xs,z.defers=[]/\(z.mode = .run\/z.mode = .returning)
theorem b43 (k x26 x31 x33 x34 x35:Value) (i:Nat) (l:List Nat) (o:Oper) (h:bH0[i]?=some o) (hg:o.guard=none):AtOp (a.TO k x26 x31 x33 x34 x35 (i::l)) o:=⟨rfl,rfl,rfl,_,i,l,_,rfl,h,hg⟩
noncomputable def oSt:Oper:=op1 none (.store 62 (.tmp 35) (.tmp 33)) 0
noncomputable def oSp:Oper:=opsW.getD 12 default
theorem ca5 (i:Nat) (h:aO8.fn i):Tryz.prog.funcs[i]?=twp.funcs[i]?:=by
 have h:jobF i=true:=h;unfold jobF at h;simp only [xd,beq_iff_eq] at h;rcases h with h | h
 ·subst h; exact (by kernel_rfl:Tryz.prog.funcs[41]?=twp.funcs[41]?)
 ·subst h; exact (by kernel_rfl:Tryz.prog.funcs[66]?=twp.funcs[66]?)
theorem b09 (r:Loop):aO8.ok r<->noLoops.ok r:=uP
theorem bK0:¬ aO8.set:=fun h=>h
theorem bH1:@OpT aO8 twp Tryz.prog oSt:=@bY9 aO8 twp Tryz.prog.funcs false jobF (fun h=>by cases h) (fun h=>by cases h) (fun _ h=>h) (fun _ h=>h) oSt (by kernel_rfl)
theorem fin4 (k x26 x31 x33 x34 x35 v:Value):(a.TO k x26 x31 x33 x34 x35 [4]).finish v=a.TO k x26 x31 x33 x34 x35 []:=by kernel_rfl
theorem fin12 (k v:Value) (y:Nat->Value) (l:List Nat):(a.WO k y (12::l)).finish v=a.WO k y l:=by kernel_rfl
theorem fin10 (k v:Value) (y:Nat->Value) (l:List Nat):(a.WO k y (10::l)).finish v=a.WO k (updF y 23 v) l:=b76 a k v y l
theorem b34 (hE:EOK (env a x xs Shun N) B0) (hG:GB twp B0) (hcs:CsOK x xs) {ad:Addr}(hb3:a.b3=some ad) {k:Nat}(hk:k<a.n3) (h8:a.n3<=8) {v1 r x34:Value}{x26:Value}{nx:Nat}{L:World}
  (K:∀ L',Tree twp (AtRet twp f Q) (G (a.TO (.int .i64 k) x26 v1 r x34 (p2 a k) []) (csT x xs)) L'->Later twp (G (a.TO (.int .i64 k) x26 v1 r x34 (p2 a k) [4]) (csT x xs)) L (G (a.TO (.int .i64 k) x26 v1 r x34 (p2 a k) []) (csT x xs)) L'->∀ y,TW a x xs Shun N B0 Post R1 nx (G (a.WO (.int .i64 k) y []) [gx]) L')
  (ht:Tree twp (AtRet twp f Q) (G (a.TO (.int .i64 k) x26 v1 r x34 (p2 a k) [4]) (csT x xs)) L) :
  ∀ (l D:List Nat) (y:Nat->Value),Sch opsW D l->10∈D->8∈D->OKy (fv a (.int .i64 k) (p1 a ad k) v1 (p2 a k) (some r)) D y->12 ∉ D->TW a x xs Shun N B0 Post R1 nx (G (a.WO (.int .i64 k) y l) [gx]) L:=by
 intro l;induction l with
 | nil=>
  intro D y hs _ _ _ hn;cases hs with
  | nil h=>exact absurd (h 12 (by rw [bF1]; omega)) hn
 | cons i l ih=>
  intro D y hs h10 h8' hy hn12;cases hs with
  | cons hi hn hd hk'=>
   rw [bF1] at hi;by_cases h9:i<10
   ·refine WW.facts (E:=env a x xs Shun N) fun hl=>?_
    refine b08 hE hb3 hk h8 (v1:=v1) (r:=some r) hl h9 (fun e=>absurd (e▸h8') hn) hd hy fun y' hy'=>?_
    exact ih (i::D) y' hk' (by simp [h10]) (by simp [h8']) hy' (by simp; exact ⟨by omega,hn12⟩)
   ·have hc:i=10\/i=11\/i=12:=by omega
    rcases hc with rfl | rfl | rfl
    ·exact absurd h10 hn
    ·have h0:y 13=a.V:=hy 0 (ai2 hd (by kernel_rfl)) _ rfl;have h1:y 14 = .int .i64 k:=hy 1 (ai2 hd (by kernel_rfl)) _ rfl;have hop:=bZ0 a k hk h8 y l;rw [ag1 h0,ag1 h1] at hop;refine WW.op (E:=env a x xs Shun N) hE rp1 (s:=(a.WO (.int .i64 k) y (11::l),[gx])) hop (aV3 _) ?_;exact ih (11::D) _ hk' (by simp [h10]) (by simp [h8']) (hy.set (i:=11) fun u h=>(sj h).symm) (by simp [hn12])
    ·have hl0:l=[]:=by
      cases hk' with
      | nil _=>rfl
      | @cons _ j l' hj hjn _ _=>
       exfalso;rw [bF1] at hj;refine hjn (xb.2 ?_);have hc:j=12\/j=11\/j=10\/j=9\/j=8\/j=7\/j=6\/j=5\/j=4\/j=3\/j=2\/j=1\/j=0:=by omega
       rcases hc with rfl | rfl | rfl | rfl | rfl | rfl | rfl | rfl | rfl | rfl | rfl | rfl | rfl
       ·exact .inl rfl
       all_goals exact .inr (ai2 hd (by kernel_rfl))
     subst hl0;have h11:y 24=p2 a k:=hy 11 (ai2 hd (by kernel_rfl)) _ rfl;have h23:y 23=r:=hy 10 h10 _ rfl;refine WW.lock (inst:=noLoops) (E:=env a x xs Shun N) hE rp1 ⟨aO8⟩ a13 bK0 b09 hG (x:=a.TO (.int .i64 k) x26 v1 r x34 (p2 a k) [4]) (o:=oSt) (oy:=oSp) (b43 _ _ _ _ _ _ _ _ _ (by kernel_rfl) rfl) ⟨rfl,rfl,rfl,opsW,12,[],_,rfl,by kernel_rfl,by kernel_rfl⟩ bH1 ?_ (zs:=x::xs) rfl hcs rfl ?_ ht ?_
     ·have e1:execOp (a.WO (.int .i64 k) y [12]).eval oSp=execOp (a.WO (.int .i64 k) (updF (updF y 24 (p2 a k)) 23 r) [12]).eval oSp:=by rw [ag1 h11,ag1 h23]
      exact e1.trans (by kernel_rfl)
     ·intro g args w w' es es' hc;have e2:execOp (a.TO (.int .i64 k) x26 v1 r x34 (p2 a k) [4]).eval oSt=(do Instr.storeAt 62 (p2 a k) r; pure .skip):=by kernel_rfl
      rw [e2] at hc;change ((Instr.storeAt 62 (p2 a k) r).bind fun _=>Sem.pure Next.skip).runT _ _ _=_ at hc
      rw [Sem.runT_bind'] at hc;split at hc
      ·cases hc
      ·cases hc
     ·intro v L' ht' hl';rw [fin4] at ht' hl';rw [fin12];exact K L' ht' hl' y
end
end Hid
namespace Hid
open Go Go.Proofs Go.RowKit Go.Conc Ar
variable [Junk]
theorem bJ2 {P:Program}{α:Type}{s:Sem α}:∀ {v:Value}{an:List An}{r:α ⊕ Halt}{m:Mode}{a:Addr}{l:List Did},runA P s (.v v::an)=some (r,.rd m a v::l)->∀ {w:World}{es:Array Event},(∀ at_,∃ x,w.farLoad P a at_ = .error x/\NiceH x)->w.cell? a=none->∃ x es',s.runT P w es=(.halt x w,es')/\NiceH x:=by
 induction s with
 | program k ih=>intro v an r m a l h w es hn hc; simp only [runA] at h; simp only [Sem.runT]; exact ih _ h hn hc
 | load m0 a0 k ih=>
  intro v an r m a l h w es hn hc;simp only [runA] at h;obtain ⟨l',h1,h2⟩:=af9 h;simp only [List.cons.injEq,Did.rd.injEq] at h2;obtain ⟨⟨h3,h4,_⟩,_⟩:=h2;subst h3 h4;obtain ⟨x,hx,hN⟩:=hn (m== .atomic);refine ⟨x,es,?_,hN⟩;simp only [Sem.runT,hc,hx]
 | pure a0=>intro v an r m a l h; simp only [runA] at h; cases h
 | halt x=>intro v an r m a l h; simp only [runA] at h; cases h
 | store m0 a0 v0 k ih=>intro v an r m a l h; simp only [runA] at h; obtain ⟨l',_,h2⟩:=af9 h; simp at h2
 | mark m0 k ih=>intro v an r m a l h; simp only [runA] at h; obtain ⟨l',_,h2⟩:=af9 h; simp at h2
 | setObj r0 o k ih=>intro v an r m a l h; simp only [runA] at h; obtain ⟨l',_,h2⟩:=af9 h; simp at h2
 | _=>intro v an r m a l h; simp only [runA] at h; cases h
theorem bu3 {p P:Program}{f:FuncId}{Q:Value->World->Prop}{fr:Frame}{zs:List Frame}{o:Oper}{v:Value}{an:List An}{r:Next ⊕ Halt}{m:Mode}{ad:Addr}{l:List Did}{L:World}(hx:AtOp fr o) (hd:fr.defers=[]) (hr:runA p (execOp fr.eval o) (.v v::an)=some (r,.rd m ad v::l))
  (hw:@WR noLoops _ L L) (hz:∀ z∈zs,z.defers=[]/\(z.mode = .run\/z.mode = .returning)) (ht:Tree p (AtRet p f Q) (G fr (zs++[dmF p])) L):∃ v1,L.cell? ad=some v1:=by
 cases hc:L.cell? ad with
 | some v1=>exact ⟨v1,rfl⟩
 | none=>
  exfalso;obtain ⟨g',L',es,e,ht',_⟩:=ht.goes (as9 hx.mode) L.drawn;have hearly:(fr.kind==CallKind.early)=false:=by rw [hx.kind]; rfl
  obtain ⟨x,es',hh,hN⟩:=bJ2 hr (w:=L.at L.drawn) (es:=#[]) (fun b=>a19 (C:=L) hw p ad b) hc;rw [hx.step] at e;unfold stepG.apply at e;simp only [hh,xh,hearly,lE,xn] at e;cases hN with
  | panic v=>
   simp only [ac7,GStep.go.injEq] at e;refine aO2 (P:=P) ht' ?_;rw [<-e.1];have:fr.raise [{ v,recovered:=false }]={ fr with mode:= .panicking [{ v,recovered:=false }] }:=by
    unfold Frame.raise;rw [hx.mode]
   rw [this];exact .fr rfl hd hz
  | uns u hu=>cases u<;>first | (simp [GStep.after] at e; done) | exact absurd rfl (hu _)
  | stuck s=>simp [GStep.after] at e
section
variable {a:Ar}{x:Frame}{xs:List Frame}{Shun:Loc->Prop}{N:Nat}{B0:Nat}{Post:Value->World->Prop}{f:FuncId}{Q:Value->World->Prop}
theorem WW.know {E:Env}{T:Nat->Trace->Prop}{st:Ph->Int}{R:Ph->Prop}{nx dn:Nat}{L:World}{b:Goroutine}(h:WR L L->WW E B0 T st R nx dn b L Post):WW E B0 T st R nx dn b L Post:=
 fun ph d a gs C sl t q hinv hr=>h hinv.wr.self ph d a gs C sl t q hinv hr
theorem fn70:∃ fn,twp.funcs[41]?=some fn:=Option.isSome_iff_exists.1 (by kernel_rfl)
theorem bL6 (args:Array Value):@FrOK aO8 twp Tryz.prog (Frame.enter twp 41 args .normal):=by
 obtain ⟨fn,h⟩:=fn70;exact @aK6 aO8 _ twp Tryz.prog a13 41 (by show jobF 41=true; kernel_rfl) fn h args
noncomputable def bN6 (a:Ar) (v:Value):Array Value:=#[a.v0,.int .i64 a.i1,.int .i64 a.i2,v,.int .i64 a.i4]
theorem bR7 {k p1 v1 p2 r:Value}{D:List Nat}{y:Nat->Value}(h:OKy (fv a k p1 v1 p2 none) D y):OKy (fv a k p1 v1 p2 (some r)) (10::D) (updF y 23 r):=by
 intro j hj u hu;unfold updF;by_cases hj10:j=10
 ·subst hj10;rw [lm rfl];exact sj hu
 ·rw [lr (by omega)];refine h j ((xb.1 hj).resolve_left hj10) u ?_;rw [<-hu];unfold fv;split<;>first | rfl | exact absurd rfl hj10
theorem b35 (hE:EOK (env a x xs Shun N) B0) (hG:GB twp B0) (hcs:CsOK x xs) {ad:Addr}(hb3:a.b3=some ad) {k:Nat}(hk:k<a.n3) (h8:a.n3<=8) {v1 x33 x34 x35:Value}{nx:Nat}{L:World}(hvis:L.cell? (ad.add (k*1))=some v1)
  (K:∀ r L',Tree twp (AtRet twp f Q) (G (a.TO (.int .i64 k) (p1 a ad k) v1 r x34 (p2 a k) []) (csT x xs)) L'->Later twp (G (Frame.enter twp 41 (bN6 a v1) .normal) (a.TO (.int .i64 k) (p1 a ad k) v1 x33 x34 x35 [2,3,4]::csT x xs)) L (G (a.TO (.int .i64 k) (p1 a ad k) v1 r x34 (p2 a k) []) (csT x xs)) L'->∀ y,TW a x xs Shun N B0 Post R1 nx (G (a.WO (.int .i64 k) y []) [gx]) L')
  (ht:Tree twp (AtRet twp f Q) (G (Frame.enter twp 41 (bN6 a v1) .normal) (a.TO (.int .i64 k) (p1 a ad k) v1 x33 x34 x35 [2,3,4]::csT x xs)) L) :
  ∀ (l D:List Nat) (y:Nat->Value),Sch opsW D l->10 ∉ D->12 ∉ D->OKy (fv a (.int .i64 k) (p1 a ad k) v1 (p2 a k) none) D y->TW a x xs Shun N B0 Post R1 nx (G (a.WO (.int .i64 k) y l) [gx]) L:=by
 intro l;induction l with
 | nil=>
  intro D y hs h10 _ _;cases hs with
  | nil h=>exact absurd (h 10 (by rw [bF1]; omega)) h10
 | cons i l ih=>
  intro D y hs h10 h12 hy;cases hs with
  | cons hi hn hd hk'=>
   rw [bF1] at hi;by_cases h9:i<10
   ·refine WW.facts (E:=env a x xs Shun N) fun hl=>?_
    refine b08 hE hb3 hk h8 (v1:=v1) (r:=none) hl h9 (fun _=>hvis) hd hy fun y' hy'=>?_
    exact ih (i::D) y' hk' (by simp; exact ⟨by omega,h10⟩) (by simp; exact ⟨by omega,h12⟩) hy'
   ·have hc:i=10\/i=11\/i=12:=by omega
    rcases hc with rfl | rfl | rfl
    ·have h2:y 15=a.v0:=hy 2 (ai2 hd (by kernel_rfl)) _ rfl;have h3:y 16 = .int .i64 a.i1:=hy 3 (ai2 hd (by kernel_rfl)) _ rfl;have h4:y 17 = .int .i64 a.i2:=hy 4 (ai2 hd (by kernel_rfl)) _ rfl;have h8d:8∈D:=ai2 hd (by kernel_rfl);have h88:y 21=v1:=hy 8 h8d _ rfl;have h99:y 22 = .int .i64 a.i4:=hy 9 (ai2 hd (by kernel_rfl)) _ rfl;have hop:=ck7 a (.int .i64 k) v1 y l;rw [ag1 h2,ag1 h3,ag1 h4,ag1 h88,ag1 h99] at hop;refine WW.op (E:=env a x xs Shun N) hE rp1 (s:=(a.WO (.int .i64 k) y (10::l),[gx])) hop (aV3 _) ?_;have hjob:=WW.job (inst:=noLoops) (E:=env a x xs Shun N) (B0:=B0) (st:=Ph.st) (R:=R1) (nx:=nx) (dn:=0) (Post:=Post) hE rp1 ⟨aO8⟩ a13 bK0 b09 hG ca5 (f:=f) (Q:=Q) (c:=a.TO (.int .i64 k) (p1 a ad k) v1 x33 x34 x35 [2,3,4]) (csT:=csT x xs) (y:=a.WO (.int .i64 k) y (10::l)) (csP:=[gx]) (zs:=a.TO (.int .i64 k) (p1 a ad k) v1 x33 x34 x35 [2,3,4]::x::xs) (by simp [csT]) rfl (fun z hz=>by
      rcases xb.1 hz with rfl | hz
      ·exact ⟨rfl,.inl rfl⟩
      ·exact hcs z hz) ht (Frame.enter twp 41 (bN6 a v1) .normal) [] rfl (bL6 _) (by simp) ?_
     ·rw [<-cc3];exact hjob
     ·intro r L' ht' hl';rw [ret_T] at ht' hl';rw [fin10];have hiy:=iy_T a k hk h8 (csT x xs) (p1 a ad k) v1 r x34 x35;obtain ⟨ht2,hl2⟩:=ad6 1 hiy (L:=L') trivial ht';exact b34 hE hG hcs hb3 hk h8 (fun L2 ht3 hl3 y'=>K r L2 ht3 (hl'.trans (hl2.trans hl3)) y') ht2 l (10::D) _ hk' (by simp) (by simp [h8d]) (bR7 hy) (by simp [h12])
    ·have h0:y 13=a.V:=hy 0 (ai2 hd (by kernel_rfl)) _ rfl;have h1:y 14 = .int .i64 k:=hy 1 (ai2 hd (by kernel_rfl)) _ rfl;have hop:=bZ0 a k hk h8 y l;rw [ag1 h0,ag1 h1] at hop;refine WW.op (E:=env a x xs Shun N) hE rp1 (s:=(a.WO (.int .i64 k) y (11::l),[gx])) hop (aV3 _) ?_;exact ih (11::D) _ hk' (by simp [h10]) (by simp [h12]) (hy.set (i:=11) fun u h=>(sj h).symm)
    ·exact absurd (ai2 hd (by kernel_rfl)) h10
end
end Hid
end Go.Proofs.YtbkgncikjhibiaaGreat
