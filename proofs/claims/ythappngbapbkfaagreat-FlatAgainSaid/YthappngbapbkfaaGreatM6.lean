/- Part 6 of the texts that the law's proof leans on. -/
import Derived.Test.YthappngbapbkfaaGreatM5
namespace Go.Proofs.YthappngbapbkfaaGreat
set_option linter.unusedSimpArgs false
set_option linter.unusedVariables false
namespace Sx
open Go.RowKit
theorem aW9 {w w':World}{X X':Nat->Prop}(hk:∀ b c T fr,w.heap[b]?=some (.cells c T fr)->¬ X b->w'.heap[b]?=some (.cells c T fr)) (hx:∀ b,b<w.heap.size->X' b->X b) {E:Env}{s:SV}{v:Value}(h:R w X E s v):R w' X' E s v:=by
 induction h with
 | any=>exact .any
 | int=>exact .int
 | bool=>exact .bool
 | lit=>exact .lit
 | str=>exact .str
 | nilfn=>exact .nilfn
 | cap0=>exact .cap0
 | fn hs _ ih=>exact .fn hs ih
 | fnb hs _ ih=>exact .fnb hs ih
 | agg hs ho _ ih=>exact .agg hs ho ih
 | tup hs _ ih=>exact .tup hs ih
 | sl0=>exact .sl0
 | sl hb hX hc hl ho _ ih=>exact .sl (hk _ _ _ _ hb hX) (fun hc=>hX (hx _ (lt_of_block hb) hc)) hc hl ho ih
 | ref hb hX hc ho _ ih=>exact .ref (hk _ _ _ _ hb hX) (fun hc=>hX (hx _ (lt_of_block hb) hc)) hc ho ih
 | own h=>exact .own h
 | osl h hv=>exact .osl h hv
 | oslOld h hl hv=>exact .oslOld h hl hv
 | ownAt h=>exact .ownAt h
 | ownAtOld h hl hv=>exact .ownAtOld h hl hv
 | win h hl ha h0=>exact .win h hl ha h0
 | nilsl=>exact .nilsl
 | slN _ ih=>exact .slN ih
 | con=>exact .con
 | pin h=>exact .pin h
 | part h hl=>exact .part h hl
 | partOld h hl hv=>exact .partOld h hl hv
 | omap h=>exact .omap h
 | omapOld h hl=>exact .omapOld h hl
 | winOld h hl hv=>exact .winOld h hl hv
 | slP hb hX hc hl ho _ ih=>exact .slP (hk _ _ _ _ hb hX) (fun hc=>hX (hx _ (lt_of_block hb) hc)) hc hl ho ih
 | refP hb hX hc ho _ ih=>exact .refP (hk _ _ _ _ hb hX) (fun hc=>hX (hx _ (lt_of_block hb) hc)) hc ho ih
 | ifc ho _ ih=>exact .ifc ho ih
theorem b82 {w:World}{X:Nat->Prop}{E:Env}{s:SV}{v:Value}(h:R w X E s v):ae8 s->∀ E',R w X E' s v:=by
 induction h with
 | any=>intro _ E'; exact .any
 | int=>intro _ E'; exact .int
 | bool=>intro _ E'; exact .bool
 | lit=>intro _ E'; exact .lit
 | str=>intro _ E'; exact .str
 | nilfn=>intro _ E'; exact .nilfn
 | cap0=>intro _ E'; exact .cap0
 | fn hs _ ih=>intro hn E'; exact .fn hs fun i hi=>ih i hi (hn i) E'
 | fnb hs _ ih=>intro hn E'; exact .fnb hs fun i hi=>ih i hi (hn i) E'
 | agg hs ho _ ih=>intro hn E'; exact .agg hs ho fun i hi=>ih i hi (hn i) E'
 | tup hs _ ih=>intro hn E'; exact .tup hs fun i hi=>ih i hi (hn i) E'
 | sl0=>intro _ E'; exact .sl0
 | sl hb hX hc hl ho h _=>intro _ E'; exact .sl hb hX hc hl ho h
 | ref hb hX hc ho h _=>intro _ E'; exact .ref hb hX hc ho h
 | own=>intro hn; exact hn.elim
 | osl=>intro hn; exact hn.elim
 | oslOld=>intro hn; exact hn.elim
 | ownAt=>intro hn; exact hn.elim
 | ownAtOld=>intro hn; exact hn.elim
 | win=>intro hn; exact hn.elim
 | nilsl=>intro _ E'; exact .nilsl
 | slN=>intro hn; exact hn.elim
 | con=>intro _ E'; exact .con
 | pin=>intro hn; exact hn.elim
 | part=>intro hn; exact hn.elim
 | partOld=>intro hn; exact hn.elim
 | omap=>intro hn; exact hn.elim
 | omapOld=>intro hn; exact hn.elim
 | winOld=>intro hn; exact hn.elim
 | slP=>intro hn; exact hn.elim
 | refP=>intro hn; exact hn.elim
 | ifc ho _ ih=>intro hn E'; exact .ifc ho (ih (hn 0) E')
structure GF:Type where
 n:Nat
 b:Nat->Nat
 c:Nat->Option Nat
 hd:Nat->Nat->SV
 m:Nat->Nat
 p:Nat->Nat->SV
 ho:Option Nat
 hv:Nat->Value
 mv:Nat->Value
def GF.blk (F:GF) (x:Nat):Prop:=∃ i,i<F.n/\F.ho≠some i/\(F.b i=x\/F.c i=some x)
def One (TG TM:TypeId) (w:World) (X:Nat->Prop) (b:Nat) (c:Option Nat) (hd:Nat->SV) (m:Nat) (p:Nat->SV):Prop:=
 ∃ vs,w.heap[b]?=some (.cells vs TG (0,0))/\vs.size=37/\(∀ j,j<36->ab0 (vs.getD j undef)/\R w X E0 (hd j) (vs.getD j undef))/\ac8 (vs.getD 36 undef)=c/\ar0 w X 1 TM (vs.getD 36 undef) m (fun a _=>p a)
structure GF.Ok (TG TM:TypeId) (F:GF) (w:World) (X:Nat->Prop) (b0:Nat):Prop where
 pos:0<F.n
 head:F.b 0=b0
 one:∀ i,i<F.n->F.ho≠some i->One TG TM w X (F.b i) (F.c i) (F.hd i) (F.m i) (F.p i)
 hole:∀ h,F.ho=some h->(∀ j,j<36->ab0 (F.hv j)/\R w X E0 (F.hd h j) (F.hv j))/\∀ a,a<F.m h->ab0 (F.mv a)/\R w X E0 (F.p h a) (F.mv a)
 inj:∀ i i',i<F.n->i'<F.n->F.ho≠some i->F.ho≠some i'->F.b i=F.b i'->i=i'
 apart:∀ i i' x,i<F.n->i'<F.n->F.ho≠some i->F.ho≠some i'->F.b i=x->F.c i'=some x->False
 inj2:∀ i i' x,i<F.n->i'<F.n->F.ho≠some i->F.ho≠some i'->F.c i=some x->F.c i'=some x->i=i'
theorem One.mono {TG TM w w' X X' b c hd m p} (hk:∀ b c T fr,w.heap[b]?=some (.cells c T fr)->¬ X b->w'.heap[b]?=some (.cells c T fr)) (hx:∀ b,b<w.heap.size->X' b->X b)
  (ho:∀ x cs T fr,(b=x\/c=some x)->w.heap[x]?=some (.cells cs T fr)->w'.heap[x]?=some (.cells cs T fr)) (h:One TG TM w X b c hd m p):One TG TM w' X' b c hd m p:=by
 obtain ⟨vs,h1,h2,h3,h4,ys,h5,h6⟩:=h;refine ⟨vs,ho b _ _ _ (.inl rfl) h1,h2,fun j hj=>⟨(h3 j hj).1,aW9 hk hx (h3 j hj).2⟩,h4,ys,?_,fun i j hi hj=>⟨(h6 i j hi hj).1,aW9 hk hx (h6 i j hi hj).2⟩⟩;rcases h5 with h | ⟨b',cap,cur,e1,e2,e3⟩
 ·exact .inl h
 ·refine .inr ⟨b',cap,cur,e1,ho b' _ _ _ (.inr ?_) e2,e3⟩;rw [<-h4,e1]; rfl
theorem One.weak {TG TM w X X' b c hd m p} (hx:∀ b,X' b->X b) (h:One TG TM w X b c hd m p):One TG TM w X' b c hd m p:=h.mono (fun _ _ _ _ h _=>h) (fun b _ h=>hx b h) (fun _ _ _ _ _ h=>h)
def gfQ (TG TM:TypeId) (F:GF):Cus where
 blk:=F.blk
 ok:=F.Ok TG TM
 mono:=fun {w w' X X' b0} hk hx h=>⟨h.pos,h.head,fun i hi hh=>(h.one i hi hh).mono (fun b c T fr e hX=>hk b c T fr e (.inr hX)) hx (fun x cs T fr hx e=>hk x cs T fr e (.inl ⟨i,hi,hh,hx⟩)),fun h' hh=>⟨fun j hj=>⟨((h.hole h' hh).1 j hj).1,aW9 (fun b c T fr e hX=>hk b c T fr e (.inr hX)) hx ((h.hole h' hh).1 j hj).2⟩,fun a ha=>⟨((h.hole h' hh).2 a ha).1,aW9 (fun b c T fr e hX=>hk b c T fr e (.inr hX)) hx ((h.hole h' hh).2 a ha).2⟩⟩,h.inj,h.apart,h.inj2⟩
 lt:=fun {w X b0 b} h hb=>by
  obtain ⟨i,hi,hh,hb⟩:=hb;obtain ⟨vs,h1,h2,h3,h4,ys,h5,h6⟩:=h.one i hi hh;rcases hb with rfl | hb
  ·exact ⟨_,_,_,h1⟩
  ·rcases h5 with ⟨a,e1,_⟩ | ⟨b',cap,cur,e1,e2,_⟩
   ·rw [e1] at h4; rw [<-h4] at hb; cases a<;>simp [ac8] at hb
   ·rw [e1] at h4;have:b'=b:=by rw [<-h4] at hb; simpa [ac8] using hb
    subst this;exact ⟨_,_,_,e2⟩
def topC (hv:Nat->Value) (K:Nat) (j:Nat):SV:=bif Nat.beq j 36 then .osl K 0 else .con (hv j)
def GF.take (F:GF) (i:Nat) (hv mv:Nat->Value):GF:={ F with ho:=some i,hv:=hv,mv:=mv }
theorem Rep.b63 {w0 X0 H E w} {TG TM:TypeId}{F:GF}(hrep:Rep w0 X0 H E w) {k b0 i:Nat}(hk:H.getD k .dead = .cus (gfQ TG TM F)) (he:E k=some (.blk b0)) (hho:F.ho=none) (hi:i<F.n) :
  ∃ E2 hv mv,E.le E2/\E2 H.length=some (.blk (F.b i))/\Rep w0 X0 (H.set k (.cus (gfQ TG TM (F.take i hv mv)))++[.cells 37 (topC hv (H.length+1)) TG,.row 0 (F.m i) 1 (fun a _=> .con (mv a)) TM]) E2 w/\
   ∀ b,Xo X0 E2 (H.set k (.cus (gfQ TG TM (F.take i hv mv)))++[.cells 37 (topC hv (H.length+1)) TG,.row 0 (F.m i) 1 (fun a _=> .con (mv a)) TM]) b->Xo X0 E H b:=by
 have hkl:k<H.length:=hrep.dom k _ he;have hok:=hrep.ok k _ he;rw [hk] at hok;have hok:F.Ok TG TM w (Xo X0 E H) b0:=hok;have nn:∀ i,F.ho≠some i:=fun i=>by rw [hho]; simp
 obtain ⟨vs,o1,o2,o3,o4,ys,o5,o6⟩:=hok.one i hi (nn i);refine ⟨(E.put H.length (.blk (F.b i))).put (H.length+1) (.slc 0 (vs.getD 36 undef) (fun _=>none)),fun j=>vs.getD j undef,fun a=>ys.getD a undef,?_⟩;generalize hhv:(fun j=>vs.getD j undef)=hv;generalize hmv:(fun a=>ys.getD a undef)=mv;generalize hH2:H.set k (.cus (gfQ TG TM (F.take i hv mv)))++[.cells 37 (topC hv (H.length+1)) TG,.row 0 (F.m i) 1 (fun a _=> .con (mv a)) TM]=H2;have hlen:H2.length=H.length+2:=by rw [<-hH2]; simp
 have gk:H2.getD k .dead = .cus (gfQ TG TM (F.take i hv mv)):=by rw [<-hH2,aa8 (by simpa using hkl),ab1 hkl]
 have g1:H2.getD H.length .dead = .cells 37 (topC hv (H.length+1)) TG:=by
  rw [<-hH2]; simp [la]
 have g2:H2.getD (H.length+1) .dead = .row 0 (F.m i) 1 (fun a _=> .con (mv a)) TM:=by
  rw [<-hH2]; simp [la]
 have gj:∀ j,j<H.length->j≠k->H2.getD j .dead=H.getD j .dead:=fun j h1 h2=>by
  rw [<-hH2,aa8 (by simpa using h1),aa1 h2]
 have hn1:E H.length=none:=hrep.known;have hn2:E (H.length+1)=none:=by
  cases hc:E (H.length+1) with
  | none=>rfl
  | some e=>have:=hrep.dom _ _ hc; omega
 generalize hE2:(E.put H.length (.blk (F.b i))).put (H.length+1) (.slc 0 (vs.getD 36 undef) (fun _=>none))=E2;have e1:E2 H.length=some (.blk (F.b i)):=by rw [<-hE2,Env.ac5 (by omega),Env.aa7]
 have e2:E2 (H.length+1)=some (.slc 0 (vs.getD 36 undef) (fun _=>none)):=by rw [<-hE2,Env.aa7]
 have ej:∀ j,j<H.length->E2 j=E j:=fun j hj=>by rw [<-hE2,Env.ac5 (by omega),Env.ac5 (by omega)]
 have hle:E.le E2:=by
  rw [<-hE2];exact Env.le_trans (Env.ax6 hn1) (Env.ax6 (by rw [Env.ac5 (by omega)]; exact hn2))
 have edom:∀ j e,E2 j=some e->j<H.length\/j=H.length\/j=H.length+1:=fun j e hj=>by
  by_cases h1:j=H.length
  ·exact .inr (.inl h1)
  ·by_cases h2:j=H.length+1
   ·exact .inr (.inr h2)
   ·rw [<-hE2,Env.ac5 h2,Env.ac5 h1] at hj;exact .inl (hrep.dom _ _ hj)
 have hsrc:∀ j e b,E2 j=some e->holds e (H2.getD j .dead) b->(j=k/\∃ i',i'<F.n/\i'≠i/\(F.b i'=b\/F.c i'=some b))\/(j=H.length/\F.b i=b)\/(j=H.length+1/\F.c i=some b)\/(j≠k/\E j=some e/\holds e (H.getD j .dead) b):=by
  intro j e b hj hb;rcases edom j e hj with h1 | h1 | h1
  ·by_cases h2:j=k
   ·subst h2;rw [ej j h1,he] at hj;cases hj;rw [gk] at hb;obtain ⟨i',a1,a2,a3⟩:=hb;exact .inl ⟨rfl,i',a1,fun hc=>a2 (by rw [hc]; rfl),a3⟩
   ·rw [gj j h1 h2] at hb;exact .inr (.inr (.inr ⟨h2,(ej j h1)▸hj,hb⟩))
  ·subst h1;rw [e1] at hj;cases hj;rw [g1] at hb;exact .inr (.inl ⟨rfl,hb⟩)
  ·subst h1;rw [e2] at hj;cases hj;rw [g2] at hb;exact .inr (.inr (.inl ⟨rfl,by rw [<-o4]; exact hb⟩))
 have hk2:∀ i' b,i'<F.n->(F.b i'=b\/F.c i'=some b)->holds (.blk b0) (H.getD k .dead) b:=fun i' b a1 a2=>by
  rw [hk]; exact ⟨i',a1,nn i',a2⟩
 have other:∀ {j e i' b},j≠k->E j=some e->holds e (H.getD j .dead) b->i'<F.n->(F.b i'=b\/F.c i'=some b)->False:=fun h1 h2 h3 h4 h5=>h1 (hrep.inj _ _ _ _ _ h2 he h3 (hk2 _ _ h4 h5))
 have same:∀ {i1 i2 b},i1<F.n->i2<F.n->(F.b i1=b\/F.c i1=some b)->(F.b i2=b\/F.c i2=some b)->i1=i2:=fun {i1 i2 b} a1 a2 a3 a4=>by
  rcases a3 with a3 | a3<;>rcases a4 with a4 | a4
  ·exact hok.inj i1 i2 a1 a2 (nn _) (nn _) (a3.trans a4.symm)
  ·exact (hok.apart i1 i2 b a1 a2 (nn _) (nn _) a3 a4).elim
  ·exact (hok.apart i2 i1 b a2 a1 (nn _) (nn _) a4 a3).elim
  ·exact hok.inj2 i1 i2 b a1 a2 (nn _) (nn _) a3 a4
 obtain ⟨r1,r2⟩:=hrep.redo (H2:=H2) hle (fun j e hj=>by rcases edom j e hj with h | h | h<;>omega) (fun j e b hj hb=>by
   rcases hsrc j e b hj hb with ⟨rfl,i',a1,_,a3⟩ | ⟨rfl,a3⟩ | ⟨rfl,a3⟩ | ⟨_,a1,a2⟩
   ·exact ⟨_,_,he,hk2 i' b a1 a3⟩
   ·exact ⟨_,_,he,hk2 i b hi (.inl a3)⟩
   ·exact ⟨_,_,he,hk2 i b hi (.inr a3)⟩
   ·exact ⟨_,_,a1,a2⟩) (fun hx j e hj=>by
   rcases edom j e hj with h1 | h1 | h1
   ·by_cases h2:j=k
    ·subst h2;rw [ej j h1,he] at hj;cases hj;rw [gk];refine ⟨hok.pos,hok.head,fun i' a1 _=>(hok.one i' a1 (nn _)).weak hx,fun h' hh=>?_,fun i1 i2 a1 a2 _ _=>hok.inj i1 i2 a1 a2 (nn _) (nn _),fun i1 i2 x a1 a2 _ _=>hok.apart i1 i2 x a1 a2 (nn _) (nn _),fun i1 i2 x a1 a2 _ _=>hok.inj2 i1 i2 x a1 a2 (nn _) (nn _)⟩;have:i=h':=by simpa [GF.take] using hh
     subst this;refine ⟨fun j hj=>?_,fun a ha=>?_⟩
     ·have:=o3 j hj
      rw [show (F.take i hv mv).hv j=vs.getD j undef by rw [<-hhv]; rfl];exact ⟨this.1,ah4 hx this.2⟩
     ·have:=o6 a 0 ha Nat.one_pos
      rw [show a*1+0=a by omega] at this;rw [show (F.take i hv mv).mv a=ys.getD a undef by rw [<-hmv]; rfl];exact ⟨this.1,ah4 hx this.2⟩
    ·rw [gj j h1 h2];rw [ej j h1] at hj;exact (hrep.ok j e hj).mono (fun _ _ _=>rfl) (fun b _ hb=>hx b hb) hle fun _ _=>rfl
   ·subst h1;rw [e1] at hj;cases hj;rw [g1];refine ⟨vs,o1,o2,fun j hj=>?_⟩;by_cases h36:j=36
    ·subst h36;obtain ⟨x1,x2,x3,x4⟩:=o5.slice;refine ⟨by rw [x4]; rfl,?_⟩;exact .osl e2 o5.slice
    ·have hb:topC hv (H.length+1) j = .con (vs.getD j undef):=by
      rw [<-hhv];unfold topC; rw [show Nat.beq j 36=false by cases hc:Nat.beq j 36 with | true=>exact absurd (lx hc) h36 | false=>rfl]; rfl
     rw [hb];exact ⟨(o3 j (by omega)).1,.con⟩
   ·subst h1;rw [e2] at hj;cases hj;rw [g2];refine ⟨rfl,ys,o5,fun i' j' a1 a2=>⟨(o6 i' j' a1 a2).1,?_⟩⟩;obtain rfl:j'=0:=by omega
    rw [<-hmv,show i'*1+0=i' by omega];exact .con) (fun j j' e e' b hj hj' hb hb'=>by
   have n1:∀ j e,E j=some e->j≠H.length/\j≠H.length+1:=fun j e h=>by have:=hrep.dom j e h; omega
   rcases hsrc j e b hj hb with ⟨r1,i1,a1,a2,a3⟩ | ⟨r1,a3⟩ | ⟨r1,a3⟩ | ⟨r1,a1,a2⟩<;>rcases hsrc j' e' b hj' hb' with ⟨q1,i2,b1,b2,b3⟩ | ⟨q1,b3⟩ | ⟨q1,b3⟩ | ⟨q1,b1,b2⟩
   ·rw [r1,q1]
   ·exact (a2 (same a1 hi a3 (.inl b3))).elim
   ·exact (a2 (same a1 hi a3 (.inr b3))).elim
   ·exact (other q1 b1 b2 a1 a3).elim
   ·exact (b2 (same b1 hi b3 (.inl a3))).elim
   ·rw [r1,q1]
   ·exact (hok.apart i i b hi hi (nn _) (nn _) a3 b3).elim
   ·exact (other q1 b1 b2 hi (.inl a3)).elim
   ·exact (b2 (same b1 hi b3 (.inr a3))).elim
   ·exact (hok.apart i i b hi hi (nn _) (nn _) b3 a3).elim
   ·rw [r1,q1]
   ·exact (other q1 b1 b2 hi (.inr a3)).elim
   ·exact (other r1 a1 a2 b1 b3).elim
   ·exact (other r1 a1 a2 hi (.inl b3)).elim
   ·exact (other r1 a1 a2 hi (.inr b3)).elim
   ·exact hrep.inj _ _ _ _ _ a1 b1 a2 b2)
 exact ⟨hle,e1,r1,r2⟩
def GF.put (F:GF) (h:Nat) (c:Option Nat) (m:Nat) (p:Nat->SV):GF:=
 { F with ho:=none,c:=fun i=>if i=h then c else F.c i,m:=fun i=>if i=h then m else F.m i,p:=fun i=>if i=h then (fun a=>if a<F.m h then F.p h a else p a) else F.p i }
theorem Rep.gput {w0 X0 H E w} {TG TM:TypeId}{F:GF}(hrep:Rep w0 X0 H E w) {k b0 h K1 K2 ver m:Nat}{g:Nat->SV}{p:Nat->Nat->SV}(hk:H.getD k .dead = .cus (gfQ TG TM F)) (he:E k=some (.blk b0)) (hho:F.ho=some h) (hh:h<F.n)
  (h1:H.getD K1 .dead = .cells 37 g TG) (he1:E K1=some (.blk (F.b h))) (h2:H.getD K2 .dead = .row ver m 1 p TM) (hg:g 36 = .osl K2 ver) (hhd:∀ j,j<36->g j = .con (F.hv j)) (hp:∀ a,a<F.m h->p a 0 = .con (F.mv a)) :
  ∃ c,Rep w0 X0 (((H.set k (.cus (gfQ TG TM (F.put h c m (fun a=>p a 0))))).set K1 .dead).set K2 .dead) E w/\
   ∀ b,Xo X0 E (((H.set k (.cus (gfQ TG TM (F.put h c m (fun a=>p a 0))))).set K1 .dead).set K2 .dead) b->Xo X0 E H b:=by
 have hkl:k<H.length:=hrep.dom k _ he;have hok:=hrep.ok k _ he;rw [hk] at hok;have hok:F.Ok TG TM w (Xo X0 E H) b0:=hok;have ok1:=hrep.ok K1 _ he1;rw [h1] at ok1;obtain ⟨vs,o1,o2,o3⟩:=ok1;have nk1:k≠K1:=fun hc=>by rw [<-hc,hk] at h1; cases h1
 have nk2:k≠K2:=fun hc=>by rw [<-hc,hk] at h2; cases h2
 have n12:K1≠K2:=fun hc=>by rw [<-hc,h1] at h2; cases h2
 have o36:=(o3 36 (by omega)).2;rw [hg] at o36;obtain ⟨us,he2⟩:∃ us,E K2=some (.slc ver (vs.getD 36 undef) us):=by
  generalize vs.getD 36 undef=v36 at o36;cases o36 with
  | osl q1 q2=>exact ⟨_,q1⟩
  | oslOld q1 q2 q3=>
   have:=hrep.ok K2 _ q1
   rw [h2] at this;have:=this.1
   omega
 have ok2:=hrep.ok K2 _ he2;rw [h2] at ok2;obtain ⟨_,xs,o5,o6⟩:=ok2;refine ⟨ac8 (vs.getD 36 undef),?_⟩;generalize hH2:((H.set k (.cus (gfQ TG TM (F.put h (ac8 (vs.getD 36 undef)) m (fun a=>p a 0))))).set K1 .dead).set K2 .dead=H2;have hlen:H2.length=H.length:=by rw [<-hH2]; simp
 have gk:H2.getD k .dead = .cus (gfQ TG TM (F.put h (ac8 (vs.getD 36 undef)) m (fun a=>p a 0))):=by
  rw [<-hH2,aa1 nk2,aa1 nk1,ab1 hkl]
 have g1:H2.getD K1 .dead = .dead:=by
  rw [<-hH2,aa1 n12,ab1 (by simpa using hrep.dom _ _ he1)]
 have g2:H2.getD K2 .dead = .dead:=by
  rw [<-hH2,ab1 (by simpa using hrep.dom _ _ he2)]
 have gj:∀ j,j≠k->j≠K1->j≠K2->H2.getD j .dead=H.getD j .dead:=fun j a1 a2 a3=>by
  rw [<-hH2,aa1 a3,aa1 a2,aa1 a1]
 have nh:∀ i,i≠h->F.ho≠some i:=fun i hi=>by rw [hho]; simp [xH hi]
 have hc1:∀ i,i≠h->(F.put h (ac8 (vs.getD 36 undef)) m (fun a=>p a 0)).c i=F.c i:=fun i hi=>lb hi
 have hch:(F.put h (ac8 (vs.getD 36 undef)) m (fun a=>p a 0)).c h=ac8 (vs.getD 36 undef):=lg rfl;have hsrc:∀ j e b,E j=some e->holds e (H2.getD j .dead) b->(j=k/\((∃ i,i<F.n/\i≠h/\(F.b i=b\/F.c i=some b))\/F.b h=b\/ac8 (vs.getD 36 undef)=some b))\/(j≠k/\j≠K1/\j≠K2/\holds e (H.getD j .dead) b):=by
  intro j e b hj hb;by_cases a1:j=k
  ·subst a1;rw [he] at hj;cases hj;rw [gk] at hb;obtain ⟨i,b1,_,b3⟩:=hb;by_cases hi:i=h
   ·subst hi;rw [hch] at b3;exact .inl ⟨rfl,.inr b3⟩
   ·rw [hc1 i hi] at b3;exact .inl ⟨rfl,.inl ⟨i,b1,hi,b3⟩⟩
  ·by_cases a2:j=K1
   ·subst a2; rw [g1] at hb; cases e<;>exact hb.elim
   ·by_cases a3:j=K2
    ·subst a3; rw [g2] at hb; cases e<;>exact hb.elim
    ·rw [gj j a1 a2 a3] at hb;exact .inr ⟨a1,a2,a3,hb⟩
 have hold0:∀ i b,i<F.n->i≠h->(F.b i=b\/F.c i=some b)->holds (.blk b0) (H.getD k .dead) b:=fun i b a1 a2 a3=>by rw [hk]; exact ⟨i,a1,nh i a2,a3⟩
 have hold1:∀ b,F.b h=b->holds (.blk (F.b h)) (H.getD K1 .dead) b:=fun b hb=>by rw [h1]; exact hb
 have hold2:∀ b,ac8 (vs.getD 36 undef)=some b->holds (.slc ver (vs.getD 36 undef) us) (H.getD K2 .dead) b:=fun b hb=>by rw [h2]; exact hb
 have ib:∀ i,i<F.n->i≠h->∀ b,(F.b i=b\/F.c i=some b)->F.b h=b->False:=fun i a1 a2 b a3 a4=>nk1 (hrep.inj _ _ _ _ b he he1 (hold0 i b a1 a2 a3) (hold1 b a4))
 have ic:∀ i,i<F.n->i≠h->∀ b,(F.b i=b\/F.c i=some b)->ac8 (vs.getD 36 undef)=some b->False:=fun i a1 a2 b a3 a4=>nk2 (hrep.inj _ _ _ _ b he he2 (hold0 i b a1 a2 a3) (hold2 b a4))
 have ibc:∀ b,F.b h=b->ac8 (vs.getD 36 undef)=some b->False:=fun b a3 a4=>n12 (hrep.inj _ _ _ _ b he1 he2 (hold1 b a3) (hold2 b a4))
 exact hrep.redo (H2:=H2) (Env.le_refl _) (fun j e hj=>by rw [hlen]; exact hrep.dom j e hj) (fun j e b hj hb=>by
   rcases hsrc j e b hj hb with ⟨rfl,⟨i,a1,a2,a3⟩ | a | a⟩ | ⟨_,_,_,a⟩
   ·exact ⟨_,_,he,hold0 i b a1 a2 a3⟩
   ·exact ⟨_,_,he1,hold1 b a⟩
   ·exact ⟨_,_,he2,hold2 b a⟩
   ·exact ⟨_,_,hj,a⟩) (fun hx j e hj=>by
   by_cases a1:j=k
   ·subst a1;rw [he] at hj;cases hj;rw [gk];refine ⟨hok.pos,hok.head,fun i a1 _=>?_,fun h' hh'=>(nomatch hh'),fun i i' a1 a2 _ _ e1=>?_,fun i i' x a1 a2 _ _ e1 e2=>?_,fun i i' x a1 a2 _ _ e1 e2=>?_⟩
    ·by_cases hi:i=h
     ·subst hi;refine ⟨vs,o1,o2,fun j hj=>⟨(o3 j (by omega)).1,?_⟩,hch.symm,xs,?_,fun a c ha hc=>?_⟩
      ·have:=(o3 j (by omega)).2
       rw [hhd j hj] at this;generalize vs.getD j undef=y at this;cases this;exact ah4 hx ((hok.hole i hho).1 j hj).2
      ·simp only [GF.put,xI]; exact o5
      ·simp only [GF.put,xI] at ha ⊢;obtain rfl:c=0:=by omega
       refine ⟨(o6 a 0 ha hc).1,?_⟩;have:=(o6 a 0 ha hc).2
       split
       ·rename_i ham;rw [hp a ham] at this;generalize xs.getD (a*1+0) undef=y at this;cases this;exact ah4 hx ((hok.hole i hho).2 a ham).2
       ·exact ah4 hx this
     ·have:=hok.one i a1 (nh i hi)
      simp only [GF.put,lb hi];exact this.weak hx
    ·by_cases hi:i=h<;>by_cases hi':i'=h
     ·omega
     ·subst hi; exact (ib i' a2 hi' _ (.inl e1.symm) rfl).elim
     ·subst hi'; exact (ib i a1 hi _ (.inl e1) rfl).elim
     ·exact hok.inj i i' a1 a2 (nh _ hi) (nh _ hi') e1
    ·by_cases hi:i=h<;>by_cases hi':i'=h
     ·subst hi; subst hi'; rw [hch] at e2; exact ibc x e1 e2
     ·subst hi; rw [hc1 i' hi'] at e2; exact ib i' a2 hi' x (.inr e2) e1
     ·subst hi'; rw [hch] at e2; exact ic i a1 hi x (.inl e1) e2
     ·rw [hc1 i' hi'] at e2; exact hok.apart i i' x a1 a2 (nh _ hi) (nh _ hi') e1 e2
    ·by_cases hi:i=h<;>by_cases hi':i'=h
     ·omega
     ·subst hi; rw [hch] at e1; rw [hc1 i' hi'] at e2; exact (ic i' a2 hi' x (.inr e2) e1).elim
     ·subst hi'; rw [hch] at e2; rw [hc1 i hi] at e1; exact (ic i a1 hi x (.inr e1) e2).elim
     ·rw [hc1 i hi] at e1; rw [hc1 i' hi'] at e2; exact hok.inj2 i i' x a1 a2 (nh _ hi) (nh _ hi') e1 e2
   ·by_cases a2:j=K1
    ·subst a2; rw [g1]; cases e<;>trivial
    ·by_cases a3:j=K2
     ·subst a3; rw [g2]; cases e<;>trivial
     ·rw [gj j a1 a2 a3];exact (hrep.ok j e hj).mono (fun _ _ _=>rfl) (fun b _ hb=>hx b hb) (Env.le_refl _) fun _ _=>rfl) (fun j j' e e' b hj hj' hb hb'=>by
   have src:∀ j e,E j=some e->holds e (H2.getD j .dead) b->j=k\/(j≠k/\j≠K1/\j≠K2/\holds e (H.getD j .dead) b):=fun j e hj hb=>by
    rcases hsrc j e b hj hb with ⟨a,_⟩ | a
    ·exact .inl a
    ·exact .inr a
   have mix:∀ j e,E j=some e->j≠k->j≠K1->j≠K2->holds e (H.getD j .dead) b->∀ e',E k=some e'->holds e' (H2.getD k .dead) b->False:=fun j e hj a1 a2 a3 a4 e' hj' hb'=>by
    rcases hsrc k e' b hj' hb' with ⟨_,⟨i,b1,b2,b3⟩ | a | a⟩ | ⟨a,_⟩
    ·exact a1 (hrep.inj _ _ _ _ b hj he a4 (hold0 i b b1 b2 b3))
    ·exact a2 (hrep.inj _ _ _ _ b hj he1 a4 (hold1 b a))
    ·exact a3 (hrep.inj _ _ _ _ b hj he2 a4 (hold2 b a))
    ·exact a rfl
   rcases src j e hj hb with a | ⟨a1,a2,a3,a4⟩<;>rcases src j' e' hj' hb' with c | ⟨c1,c2,c3,c4⟩
   ·rw [a,c]
   ·subst a; exact (mix j' e' hj' c1 c2 c3 c4 e hj hb).elim
   ·subst c; exact (mix j e hj a1 a2 a3 a4 e' hj' hb').elim
   ·exact hrep.inj _ _ _ _ _ hj hj' a4 c4)
def GF.add (F:GF) (b:Nat) (g:Nat->SV):GF:=
 { F with n:=F.n+1,b:=fun i=>if i=F.n then b else F.b i,c:=fun i=>if i=F.n then none else F.c i,hd:=fun i=>if i=F.n then g else F.hd i,m:=fun i=>if i=F.n then 0 else F.m i,p:=fun i=>if i=F.n then fun _=> .any else F.p i }
theorem b76 (a:Option Addr):ac8 (.slice a 0 0)=none:=by cases a<;>rfl
theorem One.fresh {w X E b TG TM g} {X':Nat->Prop}(hx:∀ b,X' b->X b) (h:∃ vs,w.heap[b]?=some (.cells vs TG (0,0))/\vs.size=37/\∀ i,i<37->ab0 (vs.getD i undef)/\R w X E (g i) (vs.getD i undef)) (hg:∀ j,j<36->ae8 (g j)) (hz:g 36 = .cap0):One TG TM w X' b none g 0 (fun _=> .any):=by
 obtain ⟨vs,o1,o2,o3⟩:=h;have h36:=(o3 36 (by omega)).2;rw [hz] at h36;obtain ⟨a,ha⟩:∃ a,vs.getD 36 undef = .slice a 0 0:=by
  generalize vs.getD 36 undef=v36 at h36;cases h36;exact ⟨_,rfl⟩
 refine ⟨vs,o1,o2,fun j hj=>⟨(o3 j (by omega)).1,ah4 hx (b82 (o3 j (by omega)).2 (hg j hj) E0)⟩,by rw [ha]; exact b76 a,[],.inl ⟨a,ha,rfl,rfl⟩,fun i j hi=>absurd hi (lj _)⟩
theorem Rep.gadd {w0 X0 H E w} {TG TM:TypeId}{F:GF}(hrep:Rep w0 X0 H E w) {k b0 b1 K:Nat}{g:Nat->SV}(hk:H.getD k .dead = .cus (gfQ TG TM F)) (he:E k=some (.blk b0)) (hho:F.ho=none)
  (h1:H.getD K .dead = .cells 37 g TG) (he1:E K=some (.blk b1)) (hg:∀ j,j<36->ae8 (g j)) (hz:g 36 = .cap0) :
  Rep w0 X0 ((H.set k (.cus (gfQ TG TM (F.add b1 g)))).set K .dead) E w/\∀ b,Xo X0 E ((H.set k (.cus (gfQ TG TM (F.add b1 g)))).set K .dead) b->Xo X0 E H b:=by
 have hkl:k<H.length:=hrep.dom k _ he;have hok:=hrep.ok k _ he;rw [hk] at hok;have hok:F.Ok TG TM w (Xo X0 E H) b0:=hok;have ok1:=hrep.ok K _ he1;rw [h1] at ok1;have nk1:k≠K:=fun hc=>by rw [<-hc,hk] at h1; cases h1
 generalize hH2:(H.set k (.cus (gfQ TG TM (F.add b1 g)))).set K .dead=H2;have hlen:H2.length=H.length:=by rw [<-hH2]; simp
 have gk:H2.getD k .dead = .cus (gfQ TG TM (F.add b1 g)):=by rw [<-hH2,aa1 nk1,ab1 hkl]
 have g1:H2.getD K .dead = .dead:=by rw [<-hH2,ab1 (by simpa using hrep.dom _ _ he1)]
 have gj:∀ j,j≠k->j≠K->H2.getD j .dead=H.getD j .dead:=fun j a1 a2=>by rw [<-hH2,aa1 a2,aa1 a1]
 have nn:∀ i,F.ho≠some i:=fun i=>by rw [hho]; simp
 have an:∀ i,i<F.n->(F.add b1 g).b i=F.b i/\(F.add b1 g).c i=F.c i:=fun i hi=>⟨lb (by omega),lb (by omega)⟩
 have ab:(F.add b1 g).b F.n=b1:=lg rfl;have ac:(F.add b1 g).c F.n=none:=lg rfl;have hold0:∀ i b,i<F.n->(F.b i=b\/F.c i=some b)->holds (.blk b0) (H.getD k .dead) b:=fun i b a1 a3=>by rw [hk]; exact ⟨i,a1,nn i,a3⟩
 have hold1:holds (.blk b1) (H.getD K .dead) b1:=by rw [h1]; rfl
 have hsrc:∀ j e b,E j=some e->holds e (H2.getD j .dead) b->(j=k/\((∃ i,i<F.n/\(F.b i=b\/F.c i=some b))\/b1=b))\/(j≠k/\j≠K/\holds e (H.getD j .dead) b):=by
  intro j e b hj hb;by_cases a1:j=k
  ·subst a1;rw [he] at hj;cases hj;rw [gk] at hb;obtain ⟨i,c1,_,c3⟩:=hb;by_cases hi:i=F.n
   ·subst hi;rw [ab,ac] at c3;exact .inl ⟨rfl,.inr (c3.elim id fun h=>(nomatch h))⟩
   ·have hi:i<F.n:=by have:i<F.n+1:=c1; omega
    rw [(an i hi).1,(an i hi).2] at c3;exact .inl ⟨rfl,.inl ⟨i,hi,c3⟩⟩
  ·by_cases a2:j=K
   ·subst a2; rw [g1] at hb; cases e<;>exact hb.elim
   ·rw [gj j a1 a2] at hb;exact .inr ⟨a1,a2,hb⟩
 have ib:∀ i,i<F.n->(F.b i=b1\/F.c i=some b1)->False:=fun i a1 a3=>nk1 (hrep.inj _ _ _ _ b1 he he1 (hold0 i b1 a1 a3) hold1)
 exact hrep.redo (H2:=H2) (Env.le_refl _) (fun j e hj=>by rw [hlen]; exact hrep.dom j e hj) (fun j e b hj hb=>by
   rcases hsrc j e b hj hb with ⟨rfl,⟨i,a1,a3⟩ | rfl⟩ | ⟨_,_,a⟩
   ·exact ⟨_,_,he,hold0 i b a1 a3⟩
   ·exact ⟨_,_,he1,hold1⟩
   ·exact ⟨_,_,hj,a⟩) (fun hx j e hj=>by
   by_cases a1:j=k
   ·subst a1;rw [he] at hj;cases hj;rw [gk];have lt:∀ {i},i<F.n+1->i≠F.n->i<F.n:=fun h1 h2=>by omega
    refine ⟨xG _,(an 0 hok.pos).1.trans hok.head,fun i a1 _=>?_,fun h' hh'=>absurd (show F.ho=some h' from hh') (nn h'),fun i i' a1 a2 _ _ e1=>?_,fun i i' x a1 a2 _ _ e1 e2=>?_,fun i i' x a1 a2 _ _ e1 e2=>?_⟩
    ·by_cases hi:i=F.n
     ·subst hi;rw [ab,ac];simp only [GF.add,xI];exact One.fresh hx ok1 hg hz
     ·have:=hok.one i (lt a1 hi) (nn i)
      simp only [GF.add,lb hi];exact this.weak hx
    ·by_cases hi:i=F.n<;>by_cases hi':i'=F.n
     ·omega
     ·subst hi; rw [ab,(an i' (lt a2 hi')).1] at e1; exact (ib i' (lt a2 hi') (.inl e1.symm)).elim
     ·subst hi'; rw [ab,(an i (lt a1 hi)).1] at e1; exact (ib i (lt a1 hi) (.inl e1)).elim
     ·rw [(an i (lt a1 hi)).1,(an i' (lt a2 hi')).1] at e1; exact hok.inj i i' (lt a1 hi) (lt a2 hi') (nn _) (nn _) e1
    ·by_cases hi':i'=F.n
     ·subst hi'; rw [ac] at e2; cases e2
     ·rw [(an i' (lt a2 hi')).2] at e2;by_cases hi:i=F.n
      ·subst hi; rw [ab] at e1; subst e1; exact ib i' (lt a2 hi') (.inr e2)
      ·rw [(an i (lt a1 hi)).1] at e1; exact hok.apart i i' x (lt a1 hi) (lt a2 hi') (nn _) (nn _) e1 e2
    ·by_cases hi:i=F.n
     ·subst hi; rw [ac] at e1; cases e1
     ·by_cases hi':i'=F.n
      ·subst hi'; rw [ac] at e2; cases e2
      ·rw [(an i (lt a1 hi)).2] at e1; rw [(an i' (lt a2 hi')).2] at e2; exact hok.inj2 i i' x (lt a1 hi) (lt a2 hi') (nn _) (nn _) e1 e2
   ·by_cases a2:j=K
    ·subst a2; rw [g1]; cases e<;>trivial
    ·rw [gj j a1 a2];exact (hrep.ok j e hj).mono (fun _ _ _=>rfl) (fun b _ hb=>hx b hb) (Env.le_refl _) fun _ _=>rfl) (fun j j' e e' b hj hj' hb hb'=>by
   have mix:∀ j e,E j=some e->j≠k->j≠K->holds e (H.getD j .dead) b->((∃ i,i<F.n/\(F.b i=b\/F.c i=some b))\/b1=b)->False:=fun j e hj a1 a2 a4 a=>by
    rcases a with ⟨i,c1,c3⟩ | rfl
    ·exact a1 (hrep.inj _ _ _ _ b hj he a4 (hold0 i b c1 c3))
    ·exact a2 (hrep.inj _ _ _ _ _ hj he1 a4 hold1)
   rcases hsrc j e b hj hb with ⟨a,a'⟩ | ⟨a1,a2,a4⟩<;>rcases hsrc j' e' b hj' hb' with ⟨c,c'⟩ | ⟨c1,c2,c4⟩
   ·rw [a,c]
   ·exact (mix j' e' hj' c1 c2 c4 a').elim
   ·exact (mix j e hj a1 a2 a4 c').elim
   ·exact hrep.inj _ _ _ _ _ hj hj' a4 c4)
def GF.mk1 (b:Nat) (g:Nat->SV):GF:=⟨1,fun _=>b,fun _=>none,fun _=>g,fun _=>0,fun _ _=> .any,none,fun _=>undef,fun _=>undef⟩
theorem Rep.gnew {w0 X0 H E w} {TG:TypeId}(TM:TypeId) (hrep:Rep w0 X0 H E w) {b1 K:Nat}{g:Nat->SV}(h1:H.getD K .dead = .cells 37 g TG) (he1:E K=some (.blk b1)) (hg:∀ j,j<36->ae8 (g j)) (hz:g 36 = .cap0) :
  Rep w0 X0 (H.set K (.cus (gfQ TG TM (.mk1 b1 g)))) E w/\∀ b,Xo X0 E (H.set K (.cus (gfQ TG TM (.mk1 b1 g)))) b->Xo X0 E H b:=by
 have hkl:K<H.length:=hrep.dom K _ he1;have ok1:=hrep.ok K _ he1;rw [h1] at ok1;generalize hH2:H.set K (.cus (gfQ TG TM (.mk1 b1 g)))=H2;have gk:H2.getD K .dead = .cus (gfQ TG TM (.mk1 b1 g)):=by rw [<-hH2,ab1 hkl]
 have gj:∀ j,j≠K->H2.getD j .dead=H.getD j .dead:=fun j a2=>by rw [<-hH2,aa1 a2]
 have hsrc:∀ j e b,E j=some e->holds e (H2.getD j .dead) b->holds e (H.getD j .dead) b:=by
  intro j e b hj hb;by_cases a1:j=K
  ·subst a1;rw [he1] at hj;cases hj;rw [gk] at hb;obtain ⟨i,c1,_,c3⟩:=hb;rw [h1];exact c3.elim id fun h=>(nomatch h)
  ·rw [gj j a1] at hb; exact hb
 refine hrep.redo (H2:=H2) (Env.le_refl _) (fun j e hj=>by rw [<-hH2]; simpa using hrep.dom j e hj) (fun j e b hj hb=>⟨_,_,hj,hsrc j e b hj hb⟩) (fun hx j e hj=>?_) (fun j j' e e' b hj hj' hb hb'=>hrep.inj _ _ _ _ _ hj hj' (hsrc _ _ _ hj hb) (hsrc _ _ _ hj' hb'));by_cases a1:j=K
 ·subst a1;rw [he1] at hj;cases hj;rw [gk];exact ⟨Nat.one_pos,rfl,fun i _ _=>One.fresh hx ok1 hg hz,fun h' hh'=>(nomatch hh'),fun i i' a1 a2 _ _ _=>by have:i<1:=a1; have:i'<1:=a2; omega,fun _ _ _ _ _ _ _ _ e2=>(nomatch e2),fun _ _ _ _ _ _ _ e1=>(nomatch e1)⟩
 ·rw [gj j a1];exact (hrep.ok j e hj).mono (fun _ _ _=>rfl) (fun b _ hb=>hx b hb) (Env.le_refl _) fun _ _=>rfl
def gC (TP TF:TypeId) (hd:Nat->Nat->SV) (m:Nat->Nat) (lf:Nat->Nat->Nat->SV) (kid:Nat->Nat->Option Nat):Nat->Nat->Nat->SV
 | 0,_=>fun _=> .any
 | f+1,i=>fun j=>bif Nat.beq j 36 then .sl (m i) 1 (fun a _=> .ifc ((kid i a).elim TF fun _=>TP) (fun _=> .ref 37 ((kid i a).elim (lf i a) (gC TP TF hd m lf kid f)))) else hd i j
theorem gC_R {w:World}{X:Nat->Prop}{TG TM:TypeId}{F:GF}{b0:Nat}(hok:F.Ok TG TM w X b0) (hho:F.ho=none) (hX:∀ i,i<F.n->¬ X (F.b i)/\∀ x,F.c i=some x->¬ X x) {TP TF:TypeId}{kid:Nat->Nat->Option Nat}{lf:Nat->Nat->Nat->SV}
  (hkid:∀ i a k,i<F.n->a<F.m i->kid i a=some k->k<F.n/\F.p i a = .ifc TP (fun _=> .con (.pointer (some ⟨F.b k,0,none⟩))))
  (hlf:∀ i a,i<F.n->a<F.m i->kid i a=none->F.p i a = .ifc TF (fun _=> .ref 37 (lf i a))) :
  ∀ f i,i<F.n->R w X E0 (.ref 37 (gC TP TF F.hd F.m lf kid f i)) (.pointer (some ⟨F.b i,0,none⟩)):=by
 have nn:∀ i,F.ho≠some i:=fun i=>by rw [hho]; simp
 have one:∀ i,i<F.n->∀ {g:Nat->SV},(∀ vs,w.heap[F.b i]?=some (.cells vs TG (0,0))->(∀ j,j<36->R w X E0 (F.hd i j) (vs.getD j undef))->ac8 (vs.getD 36 undef)=F.c i->ar0 w X 1 TM (vs.getD 36 undef) (F.m i) (fun a _=>F.p i a)->∀ j,j<37->R w X E0 (g j) (vs.getD j undef))->R w X E0 (.ref 37 g) (.pointer (some ⟨F.b i,0,none⟩)):=by
  intro i hi g hg;obtain ⟨vs,o1,o2,o3,o4,ys,o5,o6⟩:=hok.one i hi (nn i);refine .ref o1 (hX i hi).1 (by omega) (fun j hj=>?_) (fun j hj=>?_)
  ·rw [lu];by_cases h36:j=36
   ·subst h36;obtain ⟨x1,x2,x3,x4⟩:=o5.slice;rw [x4]; rfl
   ·exact (o3 j (by omega)).1
  ·rw [lu];exact hg vs o1 (fun j hj=>(o3 j hj).2) o4 ⟨ys,o5,o6⟩ j hj
 intro f;induction f with
 | zero=>intro i hi; exact one i hi fun _ _ _ _ _ _ _=> .any
 | succ f ih=>
  intro i hi;refine one i hi fun vs _ o3 o4 hin j hj=>?_
  obtain ⟨ys,o5,o6⟩:=hin;by_cases h36:j=36
  ·subst h36;show R w X E0 (.sl (F.m i) 1 _) _;rcases o5 with ⟨a,e1,e2,e3⟩ | ⟨b',cap,cur,e1,e2,e3,e4,e5,e6,e7⟩
   ·rw [e1,e2]; exact .sl0
   ·rw [e1];have am6:∀ a,a<F.m i->cur.getD a undef=ys.getD a undef:=fun a ha=>by
     rw [<-e6,lc,la,xU,lg (by omega),lF]
    refine .sl e2 ((hX i hi).2 b' (by rw [<-o4,e1]; rfl)) (by omega) e3 (fun a c ha hc=>?_) (fun a c ha hc=>?_)
    ·obtain rfl:c=0:=by omega
     have:=(o6 a 0 ha Nat.one_pos).1
     rw [show 0+a*1+0=a by omega,am6 a ha];rwa [show a*1+0=a by omega] at this
    ·obtain rfl:c=0:=by omega
     have:=(o6 a 0 ha Nat.one_pos).2
     rw [show 0+a*1+0=a by omega,am6 a ha];rw [show a*1+0=a by omega] at this;have this:R w X E0 (F.p i a) (ys.getD a undef):=this;cases hkk:kid i a with
     | none=>rw [hlf i a hi ha hkk] at this; exact this
     | some k=>
      obtain ⟨q1,q2⟩:=hkid i a k hi ha hkk;rw [q2] at this;show R w X E0 (.ifc TP (fun _=> .ref 37 (gC TP TF F.hd F.m lf kid f k))) _;generalize ys.getD a undef=y at this;cases this with
      | ifc r1 r2=>
       cases r2;exact .ifc rfl (ih k q1)
  ·have hb:gC TP TF F.hd F.m lf kid (f+1) i j=F.hd i j:=by
    show (bif Nat.beq j 36 then _ else F.hd i j)=F.hd i j;rw [show Nat.beq j 36=false by cases hc:Nat.beq j 36 with | true=>exact absurd (lx hc) h36 | false=>rfl]; rfl
   rw [hb];exact o3 j (by omega)
theorem Rep.ggive {w0 X0 H E w} {TG TM:TypeId}{F:GF}(hrep:Rep w0 X0 H E w) {k b0:Nat}(hk:H.getD k .dead = .cus (gfQ TG TM F)) (he:E k=some (.blk b0)) (hho:F.ho=none) :
  (Rep w0 X0 (H.set k .dead) E w/\∀ b,Xo X0 E (H.set k .dead) b->Xo X0 E H b)/\F.Ok TG TM w (Xo X0 E (H.set k .dead)) b0/\∀ i,i<F.n->¬ Xo X0 E (H.set k .dead) (F.b i)/\∀ x,F.c i=some x->¬ Xo X0 E (H.set k .dead) x:=by
 have hkl:k<H.length:=hrep.dom k _ he;have hok:=hrep.ok k _ he;rw [hk] at hok;have hok:F.Ok TG TM w (Xo X0 E H) b0:=hok;have nn:∀ i,F.ho≠some i:=fun i=>by rw [hho]; simp
 generalize hH2:H.set k .dead=H2;have gk:H2.getD k .dead = .dead:=by rw [<-hH2,ab1 hkl]
 have gj:∀ j,j≠k->H2.getD j .dead=H.getD j .dead:=fun j a2=>by rw [<-hH2,aa1 a2]
 have hsrc:∀ j e b,E j=some e->holds e (H2.getD j .dead) b->j≠k/\holds e (H.getD j .dead) b:=by
  intro j e b hj hb;by_cases a1:j=k
  ·subst a1; rw [gk] at hb; cases e<;>exact hb.elim
  ·rw [gj j a1] at hb; exact ⟨a1,hb⟩
 have hr:=hrep.redo (H2:=H2) (Env.le_refl _) (fun j e hj=>by rw [<-hH2]; simpa using hrep.dom j e hj) (fun j e b hj hb=>⟨_,_,hj,(hsrc j e b hj hb).2⟩) (fun hx j e hj=>by
   by_cases a1:j=k
   ·subst a1; rw [gk]; cases e<;>trivial
   ·rw [gj j a1];exact (hrep.ok j e hj).mono (fun _ _ _=>rfl) (fun b _ hb=>hx b hb) (Env.le_refl _) fun _ _=>rfl) (fun j j' e e' b hj hj' hb hb'=>hrep.inj _ _ _ _ _ hj hj' (hsrc _ _ _ hj hb).2 (hsrc _ _ _ hj' hb').2)
 refine ⟨hr,⟨hok.pos,hok.head,fun i a1 a2=>(hok.one i a1 a2).weak hr.2,fun h' hh'=>absurd hh' (nn h'),hok.inj,hok.apart,hok.inj2⟩,?_⟩;have key:∀ i x,i<F.n->(F.b i=x\/F.c i=some x)->¬ Xo X0 E H2 x:=fun i x hi hx hc=>by
  have h0:holds (.blk b0) (H.getD k .dead) x:=by rw [hk]; exact ⟨i,hi,nn i,hx⟩
  rcases hc with hc | ⟨j,e,hj,hh⟩
  ·rcases hrep.low k _ x he h0 with h | h
   ·have:=(hrep.x0 x hc).1; omega
   ·exact (hrep.x0 x hc).2 h
  ·obtain ⟨a1,a2⟩:=hsrc j e x hj hh;exact a1 (hrep.inj _ _ _ _ x hj he a2 h0)
 exact fun i hi=>⟨key i _ hi (.inl rfl),fun x hx=>key i x hi (.inr hx)⟩
theorem Rep.gle {w0 X0 H E w} (hrep:Rep w0 X0 H E w) {k:Nat}{Q Q':Cus}(hk:H.getD k .dead = .cus Q) (hle:CusLe Q Q'):Rep w0 X0 (H.set k (.cus Q')) E w/\∀ b,Xo X0 E (H.set k (.cus Q')) b->Xo X0 E H b:=by
 have hkl:k<H.length:=lC fun hc=>by rw [ad9 hc] at hk; cases hk
 have gk:(H.set k (.cus Q')).getD k .dead = .cus Q':=ab1 hkl;have gj:∀ j,j≠k->(H.set k (.cus Q')).getD j .dead=H.getD j .dead:=fun j a2=>aa1 a2
 have hsrc:∀ j e b,E j=some e->holds e ((H.set k (.cus Q')).getD j .dead) b->holds e (H.getD j .dead) b:=by
  intro j e b hj hb;by_cases a1:j=k
  ·subst a1;rw [gk] at hb;rw [hk];cases e with
   | blk=>exact hle.blk b hb
   | slc=>exact hb.elim
  ·rw [gj j a1] at hb; exact hb
 refine hrep.redo (Env.le_refl _) (fun j e hj=>by simpa using hrep.dom j e hj) (fun j e b hj hb=>⟨_,_,hj,hsrc j e b hj hb⟩) (fun hx j e hj=>?_) (fun j j' e e' b hj hj' hb hb'=>hrep.inj _ _ _ _ _ hj hj' (hsrc _ _ _ hj hb) (hsrc _ _ _ hj' hb'));have hok:=hrep.ok j e hj;by_cases a1:j=k
 ·subst a1;rw [hk] at hok;rw [gk];cases e with
  | slc=>exact hok.elim
  | blk=>exact Q'.mono (fun _ _ _ _ h _=>h) (fun b _ hb=>hx b hb) (hle.ok _ _ _ hok)
 ·rw [gj j a1];exact hok.mono (fun _ _ _=>rfl) (fun b _ hb=>hx b hb) (Env.le_refl _) fun _ _=>rfl
theorem GF.same {TG TM:TypeId}{F F':GF}(hn:F'.n=F.n) (h0:F.ho=none) (h0':F'.ho=none) (hb:∀ i,i<F.n->F'.b i=F.b i) (hc:∀ i,i<F.n->F'.c i=F.c i)
  (hh:∀ i j,i<F.n->j<36->F'.hd i j=F.hd i j) (hm:∀ i,i<F.n->F'.m i=F.m i) (hp:∀ i a,i<F.n->a<F.m i->F'.p i a=F.p i a):CusLe (gfQ TG TM F) (gfQ TG TM F'):=by
 have nn:∀ i,F.ho≠some i:=fun i=>by rw [h0]; simp
 refine ⟨fun w X b0 (h:F.Ok TG TM w X b0)=>show F'.Ok TG TM w X b0 from ⟨by rw [hn]; exact h.pos,(hb 0 h.pos).trans h.head,fun i hi _=>?_,fun h' hh'=>(nomatch h0'.symm.trans hh'),fun i i' a1 a2 _ _ e=>?_,fun i i' x a1 a2 _ _ e e'=>?_,fun i i' x a1 a2 _ _ e e'=>?_⟩,fun b (h:F'.blk b)=>show F.blk b from ?_⟩
 ·rw [hn] at hi;obtain ⟨vs,o1,o2,o3,o4,ys,o5,o6⟩:=h.one i hi (nn i);refine ⟨vs,by rw [hb i hi]; exact o1,o2,fun j hj=>⟨(o3 j hj).1,by rw [hh i j hi hj]; exact (o3 j hj).2⟩,o4.trans (hc i hi).symm,ys,by rw [hm i hi]; exact o5,fun a c ha hcc=>?_⟩;rw [hm i hi] at ha;have:=o6 a c ha hcc
  exact ⟨this.1,by show R w X E0 (F'.p i a) _; rw [hp i a hi ha]; exact this.2⟩
 ·rw [hn] at a1 a2; rw [hb i a1,hb i' a2] at e; exact h.inj i i' a1 a2 (nn _) (nn _) e
 ·rw [hn] at a1 a2; rw [hb i a1] at e; rw [hc i' a2] at e'; exact h.apart i i' x a1 a2 (nn _) (nn _) e e'
 ·rw [hn] at a1 a2; rw [hc i a1] at e; rw [hc i' a2] at e'; exact h.inj2 i i' x a1 a2 (nn _) (nn _) e e'
 ·obtain ⟨i,h1,_,h3⟩:=h;rw [hn] at h1;rw [hb i h1,hc i h1] at h3;exact ⟨i,h1,nn i,h3⟩
theorem ak4 {w X E k off v} (h:R w X E (.own k off) v):∃ b,E k=some (.blk b)/\v = .pointer (some ⟨b,off,none⟩):=by
 cases h with
 | own h=>exact ⟨_,h,rfl⟩
theorem ap0 {w X E u v} (h:R w X E (.con u) v):v=u:=by
 cases h; rfl
theorem StR.mk1 {w0 X0 N H H2 E E2 w a τ k s s'} (htr:TR (X0.n0 w0) w (Xo X0 E H) E N ((k,s)::τ) a) (hr:Rep w0 X0 H2 E2 w) (hx:∀ b,Xo X0 E2 H2 b->Xo X0 E H b) (le:E.le E2)
  (h:R w (Xo X0 E2 H2) E2 s' (a.tmps.getD k undef)):StR w0 X0 N ⟨(k,s')::τ,H2⟩ a w:=by
 have h0:=htr.mono (w':=w) (fun _ _ _=>rfl) (fun b _ hb=>hx b hb) le;refine ⟨E2,hr,h0.1,h0.2.1,fun t ht=>?_⟩;have ht:=h0.2.2 t ht;simp only [ac7] at ht ⊢;by_cases hk:k=t
 ·subst hk; rw [lg rfl]; exact h
 ·rw [lb hk] at ht ⊢; exact ht
theorem StR.mk2 {w0 X0 N H H2 E E2 w a τ k s s' k2 s2 s2'} (htr:TR (X0.n0 w0) w (Xo X0 E H) E N ((k,s)::(k2,s2)::τ) a) (hr:Rep w0 X0 H2 E2 w) (hx:∀ b,Xo X0 E2 H2 b->Xo X0 E H b) (le:E.le E2)
  (h:R w (Xo X0 E2 H2) E2 s' (a.tmps.getD k undef)) (h2:R w (Xo X0 E2 H2) E2 s2' (a.tmps.getD k2 undef)):StR w0 X0 N ⟨(k,s')::(k2,s2')::τ,H2⟩ a w:=by
 have h0:=htr.mono (w':=w) (fun _ _ _=>rfl) (fun b _ hb=>hx b hb) le;refine ⟨E2,hr,h0.1,h0.2.1,fun t ht=>?_⟩;have ht:=h0.2.2 t ht;simp only [ac7] at ht ⊢;by_cases hk:k=t
 ·subst hk; rw [lg rfl]; exact h
 ·rw [lb hk] at ht ⊢;by_cases hk2:k2=t
  ·subst hk2; rw [lg rfl]; exact h2
  ·rw [lb hk2] at ht ⊢; exact ht
end Sx
set_option linter.unusedSimpArgs false
set_option linter.unusedVariables false
namespace Lsg
open Go.RowKit Sx Num Aff Afi Img Imh Rga Ble
set_option maxRecDepth 100000
structure Stp where
 pos:Int
 ink:Ink
def stpL (s:Stp):List SV:= .int .i64 s.pos::inkL s.ink
structure Src where
 kind:Int
 ink:Ink
 fx:Int
 fy:Int
 tx:Int
 ty:Int
 rad:Int
 ns:Nat
 st:Nat->Stp
 img:ImgG
def srcL (s:Src):List SV:= .int .i64 s.kind::(inkL s.ink++(.int .i64 s.fx:: .int .i64 s.fy:: .int .i64 s.tx:: .int .i64 s.ty:: .int .i64 s.rad:: .sl s.ns 9 (fun i=>lst (stpL (s.st i)))::imgL s.img))
def srcS (s:Src):SV:= .agg 27 (lst (srcL s))
def stpD:SV->Nat->Stp
 | .sl _ _ f=>fun i=>⟨Sx.intOf (f i 0),inkD (fun j=>f i (1+j))⟩
 | _=>fun _=>⟨0,⟨0,0,0,0,0,0,0,0⟩⟩
def srcD (g:Nat->SV):Src:=⟨Sx.intOf (g 0),inkD (fun j=>g (1+j)),Sx.intOf (g 9),Sx.intOf (g 10),Sx.intOf (g 11),Sx.intOf (g 12),Sx.intOf (g 13),ai9 (g 14),stpD (g 14),imgD (fun j=>g (15+j))⟩
theorem aH6 {P:Program}{f:FuncId}{γ γ0:Type}{dec:List SV->Option γ}{args:γ->List SV}{pre pre1:γ->Prop}{res:γ->SV}{dec0:List SV->Option γ0}{args0:γ0->List SV}{pre0:γ0->Prop}{res0:γ0->SV}
  (h1:aa2 P (aa3 f dec args pre1 res)) (h0:aa2 P (aa3 f dec0 args0 pre0 res0))
  (hc:∀ g,pre g->pre1 g\/∃ g0,dec0 (args0 g0)=some g0/\aJ1 (args0 g0)/\(args0 g0).all (ac6 6)=true/\pre0 g0/\args g=args0 g0/\res g=res0 g0):aa2 P (aa3 f dec args pre res):=by
 refine ⟨h1.1,fun args H HF nm y _ _ h=>h,fun l H nm y hrun hp w0 X0 E w hrep hf vals ha=>?_⟩;simp only [aa3] at hrun;split at hrun
 case h_2=>cases hrun
 rename_i hpu;split at hrun
 case h_2=>cases hrun
 rename_i g hdec;cases hrun;obtain ⟨hle,⟨hpre⟩⟩:=hp;rcases hc g hpre with h | ⟨g0,e1,e2,e3,e4,e5,e6⟩
 ·refine h1.2.2 l H nm ⟨aa3.leArgs l (args g)/\Sx.Ask (pre1 g),res g,.keep⟩ ?_ ⟨hle,⟨h⟩⟩ w0 X0 E w hrep hf vals ha;simp only [aa3,hpu,hdec]
 ·obtain ⟨hll,hle⟩:=an9 hle;have hr:=aM1 ha hpu;have hsz:=ha.1;have h:=h0.2.2 (args0 g0) H nm ⟨aa3.leArgs (args0 g0) (args0 g0)/\Sx.Ask (pre0 g0),res0 g0,.keep⟩ (by simp only [aa3,e3,e1]) ⟨av7 e2,⟨e4⟩⟩ w0 X0 E w hrep hf vals
   ⟨by rw [<-e5]; omega,fun i hi=>by
    rw [<-e5] at hi ⊢;exact up (bl6 (fun _ hb=>hb) (hle i hi) (hr i (by omega)))⟩
  rw [e6];exact h
theorem br7 {P:Program}{f:FuncId}{γ γ0:Type}{dec:List SV->Option γ}{args:γ->List SV}{pre0:γ0->Prop}{res:γ->SV}{dec0:List SV->Option γ0}{args0:γ0->List SV}{res0:γ0->SV}
  (h0:aa2 P (aa3 f dec0 args0 pre0 res0)):aa2 P (aa3 f dec args (fun _=>False) res):=by
 refine ⟨h0.1,fun args H HF nm y _ _ h=>h,fun l H nm y hrun hp w0 X0 E w hrep hf vals ha=>?_⟩;simp only [aa3] at hrun;split at hrun
 case h_2=>cases hrun
 split at hrun
 case h_2=>cases hrun
 cases hrun;exact hp.2.out.elim
def srcW (k:Int):Nat:=if k=3 then 1 else 27
def srcN (k:Int):FuncId:=if k=0 then 79 else if k=3 then 82 else 83
def atS (g:ImgG):SV:= .fnb 81 1 (lst [.agg 18 (lst (imgL g++matL (invM g.m)))])
def srcG (s:Src):Nat->SV:=if s.kind=3 then lst [atS s.img] else lst (srcL s)
def srcF (s:Src):SV:= .fn (srcN s.kind) 1 (lst [.ref (srcW s.kind) (srcG s)])
def sp0:FSpec:=aa3 59 (γ:=Src) (fun | [.agg _ g]=>some (srcD g) | _=>none) (fun s=>[srcS s]) (fun s=>s.kind=0) (fun s=> .fn 79 1 (lst [.ref 27 (lst (srcL s))]))
theorem ok_0:aa2 Tryz.prog sp0:=by
 refine ssW (specs:=[bE2]) (⟨bv9,trivial⟩) Tryz.func59 (fun g=>A0) ?_;rintro g hg;refine ab2 (B:=let A:=Sx.Ask;let z5:=(g.img.rep=g.img.rep);let z2:=(IntKind.i64=IntKind.i64);let q2:=fun p:Int=>A z2/\A (p=p);let z1:=(IntKind.u8=IntKind.u8);let q1:=fun p:Int=>A z1/\A (p=p);let z0:=((((((((((((((((((((((((((True/\q2 g.kind)/\q1 g.ink.c0)/\q1 g.ink.c1)/\q1 g.ink.c2)/\q1 g.ink.c3)/\q1 g.ink.c4)/\q1 g.ink.c5)/\q1 g.ink.c6)/\q1 g.ink.c7)/\q2 g.fx)/\q2 g.fy)/\q2 g.tx)/\q2 g.ty)/\q2 g.rad)/\A (g.ns=g.ns)/\∀ i:Nat,i<g.ns->((((((((True/\q2 ((g.st i).pos))/\q1 ((g.st i).ink.c0))/\q1 ((g.st i).ink.c1))/\q1 ((g.st i).ink.c2))/\q1 ((g.st i).ink.c3))/\q1 ((g.st i).ink.c4))/\q1 ((g.st i).ink.c5))/\q1 ((g.st i).ink.c6))/\q1 ((g.st i).ink.c7))/\q2 g.img.w)/\q2 g.img.h)/\A (g.img.n=g.img.n)/\∀ i:Nat,let z3:=(g.img.px i); i<g.img.n->(((((((True/\q1 z3.c0)/\q1 z3.c1)/\q1 z3.c2)/\q1 z3.c3)/\q1 z3.c4)/\q1 z3.c5)/\q1 z3.c6)/\q1 z3.c7)/\A (g.img.sn=g.img.sn)/\∀ i:Nat,i<g.img.sn->True/\q1 (g.img.sf i))/\q2 g.img.m.a)/\q2 g.img.m.b)/\q2 g.img.m.c)/\q2 g.img.m.d)/\q2 g.img.m.e)/\q2 g.img.m.f)/\A (g.img.smooth=g.img.smooth));True/\True/\True/\True/\True/\True/\Br (decide (g.kind=(0:Int))) (True/\True/\True/\A ((79:Nat)=(79:Go.FuncId))/\True/\z0/\A z5) (True/\True/\Br (decide (g.kind=(3:Int))) (True/\True/\((((((((((((((True/\q2 g.img.w)/\q2 g.img.h)/\A (g.img.n=g.img.n)/\∀ i:Nat,let z4:=(g.img.px i); i<g.img.n->(((((((True/\q1 z4.c0)/\q1 z4.c1)/\q1 z4.c2)/\q1 z4.c3)/\q1 z4.c4)/\q1 z4.c5)/\q1 z4.c6)/\q1 z4.c7)/\A (g.img.sn=g.img.sn)/\∀ i:Nat,i<g.img.sn->True/\q1 (g.img.sf i))/\q2 g.img.m.a)/\q2 g.img.m.b)/\q2 g.img.m.c)/\q2 g.img.m.d)/\q2 g.img.m.e)/\q2 g.img.m.f)/\A (g.img.smooth=g.img.smooth))/\A z5)/\True)/\A True)/\True/\True/\True/\True/\True/\True/\A ((82:Nat)=(79:Go.FuncId))/\True/\False) (True/\True/\True/\A ((83:Nat)=(79:Go.FuncId))/\True/\z0/\A z5))) (by kernel_rfl) ?_;simp only [cln];omega
def sp3:FSpec:=aa3 59 (γ:=Src) (fun | [.agg _ g]=>some (srcD g) | _=>none) (fun s=>[srcS s]) (fun s=>s.kind=3) (fun s=> .fn 82 1 (lst [.ref 1 (lst [atS s.img])]))
theorem ok_3:aa2 Tryz.prog sp3:=by
 refine ssW (specs:=[bE2]) (⟨bv9,trivial⟩) Tryz.func59 (fun g=>A0) ?_;rintro g hg;refine ab2 (B:=let A:=Sx.Ask;let z3:=(invM g.img.m);let z2:=(IntKind.u8=IntKind.u8);let q2:=fun p:Int=>A z2/\A (p=p);let z1:=(IntKind.i64=IntKind.i64);let q1:=fun p:Int=>A z1/\A (p=p);let z0:=((((((((((((True/\q1 g.img.w)/\q1 g.img.h)/\A (g.img.n=g.img.n)/\∀ i:Nat,let z4:=(g.img.px i); i<g.img.n->(((((((True/\q2 z4.c0)/\q2 z4.c1)/\q2 z4.c2)/\q2 z4.c3)/\q2 z4.c4)/\q2 z4.c5)/\q2 z4.c6)/\q2 z4.c7)/\A (g.img.sn=g.img.sn)/\∀ i:Nat,i<g.img.sn->True/\q2 (g.img.sf i))/\q1 g.img.m.a)/\q1 g.img.m.b)/\q1 g.img.m.c)/\q1 g.img.m.d)/\q1 g.img.m.e)/\q1 g.img.m.f)/\A (g.img.smooth=g.img.smooth))/\A (g.img.rep=g.img.rep));True/\True/\True/\True/\True/\True/\Br (decide (g.kind=(0:Int))) (True/\True/\True/\A ((79:Nat)=(82:Go.FuncId))/\True/\True/\False) (True/\True/\Br (decide (g.kind=(3:Int))) (True/\True/\((z0/\True)/\A True)/\True/\True/\True/\True/\True/\True/\A ((82:Nat)=(82:Go.FuncId))/\True/\True/\A ((81:Nat)=(81:Go.FuncId))/\True/\(((((z0/\q1 z3.a)/\q1 z3.b)/\q1 z3.c)/\q1 z3.d)/\q1 z3.e)/\q1 z3.f) (True/\True/\True/\A ((83:Nat)=(82:Go.FuncId))/\True/\True/\False))) (by kernel_rfl) ?_;simp only [cln];omega
def sp12:FSpec:=aa3 59 (γ:=Src) (fun | [.agg _ g]=>some (srcD g) | _=>none) (fun s=>[srcS s]) (fun s=>s.kind≠0/\s.kind≠3) (fun s=> .fn 83 1 (lst [.ref 27 (lst (srcL s))]))
theorem ok_12:aa2 Tryz.prog sp12:=by
 refine ssW (specs:=[bE2]) (⟨bv9,trivial⟩) Tryz.func59 (fun g=>A0) ?_;rintro g ⟨h1,h2⟩;refine ab2 (B:=let A:=Sx.Ask;let z5:=(g.img.rep=g.img.rep);let z2:=(IntKind.i64=IntKind.i64);let q2:=fun p:Int=>A z2/\A (p=p);let z1:=(IntKind.u8=IntKind.u8);let q1:=fun p:Int=>A z1/\A (p=p);let z0:=((((((((((((((((((((((((((True/\q2 g.kind)/\q1 g.ink.c0)/\q1 g.ink.c1)/\q1 g.ink.c2)/\q1 g.ink.c3)/\q1 g.ink.c4)/\q1 g.ink.c5)/\q1 g.ink.c6)/\q1 g.ink.c7)/\q2 g.fx)/\q2 g.fy)/\q2 g.tx)/\q2 g.ty)/\q2 g.rad)/\A (g.ns=g.ns)/\∀ i:Nat,i<g.ns->((((((((True/\q2 ((g.st i).pos))/\q1 ((g.st i).ink.c0))/\q1 ((g.st i).ink.c1))/\q1 ((g.st i).ink.c2))/\q1 ((g.st i).ink.c3))/\q1 ((g.st i).ink.c4))/\q1 ((g.st i).ink.c5))/\q1 ((g.st i).ink.c6))/\q1 ((g.st i).ink.c7))/\q2 g.img.w)/\q2 g.img.h)/\A (g.img.n=g.img.n)/\∀ i:Nat,let z3:=(g.img.px i); i<g.img.n->(((((((True/\q1 z3.c0)/\q1 z3.c1)/\q1 z3.c2)/\q1 z3.c3)/\q1 z3.c4)/\q1 z3.c5)/\q1 z3.c6)/\q1 z3.c7)/\A (g.img.sn=g.img.sn)/\∀ i:Nat,i<g.img.sn->True/\q1 (g.img.sf i))/\q2 g.img.m.a)/\q2 g.img.m.b)/\q2 g.img.m.c)/\q2 g.img.m.d)/\q2 g.img.m.e)/\q2 g.img.m.f)/\A (g.img.smooth=g.img.smooth));True/\True/\True/\True/\True/\True/\Br (decide (g.kind=(0:Int))) (True/\True/\True/\A ((79:Nat)=(83:Go.FuncId))/\True/\z0/\A z5) (True/\True/\Br (decide (g.kind=(3:Int))) (True/\True/\((((((((((((((True/\q2 g.img.w)/\q2 g.img.h)/\A (g.img.n=g.img.n)/\∀ i:Nat,let z4:=(g.img.px i); i<g.img.n->(((((((True/\q1 z4.c0)/\q1 z4.c1)/\q1 z4.c2)/\q1 z4.c3)/\q1 z4.c4)/\q1 z4.c5)/\q1 z4.c6)/\q1 z4.c7)/\A (g.img.sn=g.img.sn)/\∀ i:Nat,i<g.img.sn->True/\q1 (g.img.sf i))/\q2 g.img.m.a)/\q2 g.img.m.b)/\q2 g.img.m.c)/\q2 g.img.m.d)/\q2 g.img.m.e)/\q2 g.img.m.f)/\A (g.img.smooth=g.img.smooth))/\A z5)/\True)/\A True)/\True/\True/\True/\True/\True/\True/\A ((82:Nat)=(83:Go.FuncId))/\True/\False) (True/\True/\True/\A ((83:Nat)=(83:Go.FuncId))/\True/\z0/\A z5))) (by kernel_rfl) ?_;simp only [cln];omega
theorem ac0 {l:List SV}(h:∀ s∈l,ae8 s):∀ i,ae8 (lst l i):=by
 refine aZ6 ?_;induction l with
 | nil=>trivial
 | cons a l ih=>exact ⟨h a lO,ih fun s hs=>h s (lW _ hs)⟩
theorem aU2 (k:Ink):∀ s∈inkL k,ae8 s:=by intro s hs; simp only [inkL,lP,lJ,uk] at hs; rcases hs with rfl | rfl | rfl | rfl | rfl | rfl | rfl | rfl<;>trivial
theorem bD5 (k:Stp):∀ s∈stpL k,ae8 s:=by
 intro s hs;rcases lP.1 hs with rfl | hs
 ·trivial
 ·exact aU2 _ s hs
theorem bh4 (k:ImgG):∀ s∈imgL k,ae8 s:=by
 intro s hs;simp only [imgL,lP,lJ,uk] at hs;rcases hs with rfl | rfl | rfl | rfl | rfl | rfl | rfl | rfl | rfl | rfl | rfl | rfl
 case inr.inr.inl=>exact fun i j=>ac0 (aU2 _) j
 case inr.inr.inr.inl=>exact fun i j=>trivial
 all_goals trivial
theorem aS7 (k:Src):∀ s∈srcL k,ae8 s:=by
 intro s hs;simp only [srcL,lP,xa] at hs;rcases hs with rfl | h | rfl | rfl | rfl | rfl | rfl | rfl | h
 case inr.inl=>exact aU2 _ s h
 case inr.inr.inr.inr.inr.inr.inr.inl=>exact fun i j=>ac0 (bD5 _) j
 case inr.inr.inr.inr.inr.inr.inr.inr=>exact bh4 _ s h
 all_goals trivial
def be4:FSpec:=aa3 59 (γ:=Src) (fun | [.agg _ g]=>some (srcD g) | _=>none) (fun s=>[srcS s]) (fun _=>True) srcF
theorem bv3:aa2 Tryz.prog be4:=by
 have hown:∀ g,aJ1 [srcS g]:=fun g=>⟨fun i=>ac0 (aS7 g) i,trivial⟩
 have h1:aa2 Tryz.prog (aa3 59 (γ:=Src) (fun | [.agg _ g]=>some (srcD g) | _=>none) (fun s=>[srcS s]) (fun s=>s.kind=0) srcF):=
  aH6 (br7 ok_0) ok_0 fun g hg=> .inr ⟨g,rfl,hown g,rfl,hg,rfl,by simp [srcF,srcN,srcW,srcG,hg]⟩
 have h2:aa2 Tryz.prog (aa3 59 (γ:=Src) (fun | [.agg _ g]=>some (srcD g) | _=>none) (fun s=>[srcS s]) (fun s=>s.kind=0\/s.kind=3) srcF):=
  aH6 h1 ok_3 fun g hg=>hg.elim .inl fun h=> .inr ⟨g,rfl,hown g,rfl,h,rfl,by simp [srcF,srcN,srcW,srcG,h]⟩
 refine aH6 h2 ok_12 fun g _=>?_
 by_cases h:g.kind=0\/g.kind=3
 ·exact .inl h
 ·exact .inr ⟨g,rfl,hown g,rfl,⟨fun hc=>h (.inl hc),fun hc=>h (.inr hc)⟩,rfl,by simp [srcF,srcN,srcW,srcG,show ¬ g.kind=0 from fun hc=>h (.inl hc),show ¬ g.kind=3 from fun hc=>h (.inr hc)]⟩
structure It where
 kind:Int
 nr:Nat
 runs:Nat->Rn
 src:Src
 alpha:Int
 blend:Int
 over:Bool
 iso:Bool
 knock:Bool
def qI (P:Prop) (k l:Ink):Prop:=((((((((P/\Sx.Ask (IntKind.u8=IntKind.u8)/\Sx.Ask (k.c0=l.c0))/\Sx.Ask (IntKind.u8=IntKind.u8)/\Sx.Ask (k.c1=l.c1))/\Sx.Ask (IntKind.u8=IntKind.u8)/\Sx.Ask (k.c2=l.c2))/\Sx.Ask (IntKind.u8=IntKind.u8)/\Sx.Ask (k.c3=l.c3))/\Sx.Ask (IntKind.u8=IntKind.u8)/\Sx.Ask (k.c4=l.c4))/\Sx.Ask (IntKind.u8=IntKind.u8)/\Sx.Ask (k.c5=l.c5))/\Sx.Ask (IntKind.u8=IntKind.u8)/\Sx.Ask (k.c6=l.c6))/\Sx.Ask (IntKind.u8=IntKind.u8)/\Sx.Ask (k.c7=l.c7))
def qM (P:Prop) (k l:Mat):Prop:=((((((P/\Sx.Ask (IntKind.i64=IntKind.i64)/\Sx.Ask (k.a=l.a))/\Sx.Ask (IntKind.i64=IntKind.i64)/\Sx.Ask (k.b=l.b))/\Sx.Ask (IntKind.i64=IntKind.i64)/\Sx.Ask (k.c=l.c))/\Sx.Ask (IntKind.i64=IntKind.i64)/\Sx.Ask (k.d=l.d))/\Sx.Ask (IntKind.i64=IntKind.i64)/\Sx.Ask (k.e=l.e))/\Sx.Ask (IntKind.i64=IntKind.i64)/\Sx.Ask (k.f=l.f))
def qG (P:Prop) (k l:ImgG):Prop:=((qM ((((P/\Sx.Ask (IntKind.i64=IntKind.i64)/\Sx.Ask (k.w=l.w))/\Sx.Ask (IntKind.i64=IntKind.i64)/\Sx.Ask (k.h=l.h))/\Sx.Ask (k.n=l.n)/\∀ i:Nat,i<l.n->qI True (k.px i) (l.px i))/\Sx.Ask (k.sn=l.sn)/\∀ i:Nat,i<l.sn->True/\Sx.Ask (IntKind.u8=IntKind.u8)/\Sx.Ask (k.sf i=l.sf i)) k.m l.m/\Sx.Ask (k.smooth=l.smooth))/\Sx.Ask (k.rep=l.rep))
def qS (P:Prop) (k l:Src):Prop:=qG ((((((qI (P/\Sx.Ask (IntKind.i64=IntKind.i64)/\Sx.Ask (k.kind=l.kind)) k.ink l.ink/\Sx.Ask (IntKind.i64=IntKind.i64)/\Sx.Ask (k.fx=l.fx))/\Sx.Ask (IntKind.i64=IntKind.i64)/\Sx.Ask (k.fy=l.fy))/\Sx.Ask (IntKind.i64=IntKind.i64)/\Sx.Ask (k.tx=l.tx))/\Sx.Ask (IntKind.i64=IntKind.i64)/\Sx.Ask (k.ty=l.ty))/\Sx.Ask (IntKind.i64=IntKind.i64)/\Sx.Ask (k.rad=l.rad))/\Sx.Ask (k.ns=l.ns)/\∀ i:Nat,i<l.ns->qI (True/\Sx.Ask (IntKind.i64=IntKind.i64)/\Sx.Ask ((k.st i).pos=(l.st i).pos)) (k.st i).ink (l.st i).ink) k.img l.img
def qT (P:Prop) (k l:It):Prop:=(((((qS ((P/\Sx.Ask (IntKind.i64=IntKind.i64)/\Sx.Ask (k.kind=l.kind))/\Sx.Ask (k.nr=l.nr)/\∀ i:Nat,i<l.nr->((True/\Sx.Ask (IntKind.i64=IntKind.i64)/\Sx.Ask ((k.runs i).y=(l.runs i).y))/\Sx.Ask (IntKind.i64=IntKind.i64)/\Sx.Ask ((k.runs i).x0=(l.runs i).x0))/\Sx.Ask (IntKind.i64=IntKind.i64)/\Sx.Ask ((k.runs i).x1=(l.runs i).x1)) k.src l.src/\Sx.Ask (IntKind.u8=IntKind.u8)/\Sx.Ask (k.alpha=l.alpha))/\Sx.Ask (IntKind.i64=IntKind.i64)/\Sx.Ask (k.blend=l.blend))/\Sx.Ask (k.over=l.over))/\Sx.Ask (k.iso=l.iso))/\Sx.Ask (k.knock=l.knock))
def qV (P:Prop) (f g:Nat->SV):Prop:=(((((((((((((((((((((((((((((((((((((P/\SVle [] [] (f 0) (g 0))/\SVle [] [] (f 1) (g 1))/\SVle [] [] (f 2) (g 2))/\SVle [] [] (f 3) (g 3))/\SVle [] [] (f 4) (g 4))/\SVle [] [] (f 5) (g 5))/\SVle [] [] (f 6) (g 6))/\SVle [] [] (f 7) (g 7))/\SVle [] [] (f 8) (g 8))/\SVle [] [] (f 9) (g 9))/\SVle [] [] (f 10) (g 10))/\SVle [] [] (f 11) (g 11))/\SVle [] [] (f 12) (g 12))/\SVle [] [] (f 13) (g 13))/\SVle [] [] (f 14) (g 14))/\SVle [] [] (f 15) (g 15))/\SVle [] [] (f 16) (g 16))/\SVle [] [] (f 17) (g 17))/\SVle [] [] (f 18) (g 18))/\SVle [] [] (f 19) (g 19))/\SVle [] [] (f 20) (g 20))/\SVle [] [] (f 21) (g 21))/\SVle [] [] (f 22) (g 22))/\SVle [] [] (f 23) (g 23))/\SVle [] [] (f 24) (g 24))/\SVle [] [] (f 25) (g 25))/\SVle [] [] (f 26) (g 26))/\SVle [] [] (f 27) (g 27))/\SVle [] [] (f 28) (g 28))/\SVle [] [] (f 29) (g 29))/\SVle [] [] (f 30) (g 30))/\SVle [] [] (f 31) (g 31))/\SVle [] [] (f 32) (g 32))/\SVle [] [] (f 33) (g 33))/\SVle [] [] (f 34) (g 34))/\SVle [] [] (f 35) (g 35))/\SVle [] [] (f 36) (g 36))
def itL (x:It):List SV:= .int .i64 x.kind:: .sl x.nr 3 (fun i=>lst (rnL (x.runs i)))::(srcL x.src++[.int .u8 x.alpha,.int .i64 x.blend,.bool x.over,.bool x.iso,.bool x.knock])
def rgfD:SV->Nat->Rn
 | .sl _ _ f=>fun i=>rnD (f i)
 | _=>fun _=>⟨0,0,0⟩
def itD (g:Nat->SV):It:=⟨Sx.intOf (g 0),ai9 (g 1),rgfD (g 1),srcD (fun j=>g (2+j)),Sx.intOf (g 29),Sx.intOf (g 30),au7 (g 31),au7 (g 32),au7 (g 33)⟩
structure LsG where
 w:Int
 h:Int
 ni:Nat
 nm:Nat->ByteArray
 n:Nat
 it:Nat->It
def strOf:SV->ByteArray
 | .str s=>s
 | _=>ByteArray.empty
def nmD:SV->Nat->ByteArray
 | .sl _ _ f=>fun i=>strOf (f i 0)
 | _=>fun _=>ByteArray.empty
def itsD:SV->Nat->It
 | .sl _ _ f=>fun i=>itD (f i)
 | _=>fun _=>itD (fun _=> .any)
def lsL (g:LsG):List SV:=[.int .i64 g.w,.int .i64 g.h,.sl g.ni 1 (fun i _=> .str (g.nm i)),.sl g.n 34 (fun i=>lst (itL (g.it i)))]
def lsS (g:LsG):SV:= .agg 4 (lst (lsL g))
def lsD (g:Nat->SV):LsG:=⟨Sx.intOf (g 0),Sx.intOf (g 1),ai9 (g 2),nmD (g 2),ai9 (g 3),itsD (g 3)⟩
end Lsg
set_option linter.unusedSimpArgs false
set_option linter.unusedVariables false
namespace Lta
open Go.RowKit Sx Num Aff Afi Img Imh Rga Blend Ble Lsg
set_option maxRecDepth 100000
structure Bld where
 n:Nat
 d:Nat
 it:Nat->Nat
 m:Nat->Nat
 kid:Nat->Nat->Option Nat
 leaf:Nat->Nat->Nat
 stk:Nat->Nat
def Bld.top (B:Bld):Nat:=B.stk (B.d-1)
def Bld.push (B:Bld) (k:Option Nat) (i:Nat):Bld:=
 { B with m:=fun g=>if g=B.top then B.m g+1 else B.m g,kid:=fun g a=>if g=B.top/\a=B.m g then k else B.kid g a,leaf:=fun g a=>if g=B.top/\a=B.m g then i else B.leaf g a }
def Bld.bgn (B:Bld) (i:Nat):Bld:=
 { n:=B.n+1,d:=B.d+1,it:=fun g=>if g=B.n then i else B.it g,m:=fun g=>if g=B.n then 0 else (B.push (some B.n) i).m g,kid:=(B.push (some B.n) i).kid,leaf:=(B.push (some B.n) i).leaf,stk:=fun j=>if j=B.d then B.n else B.stk j }
def aH3 (B:Bld) (k:Int) (i:Nat):Bld:=if k=0 then B.push none i else if k=1 then B.bgn i else { B with d:=B.d-1 }
def bld (L:LsG):Nat->Bld
 | 0=>⟨1,1,fun _=>0,fun _=>0,fun _ _=>none,fun _ _=>0,fun _=>0⟩
 | i+1=>aH3 (bld L i) (L.it i).kind i
structure BldOK (B:Bld) (i:Nat):Prop where
 d1:1<=B.d
 d2:B.d<=i+1
 n1:1<=B.n
 n2:B.n<=i+1
 stk:∀ j,j<B.d->B.stk j<B.n
 m:∀ g,g<B.n->B.m g<=i
 kid:∀ g a k,g<B.n->a<B.m g->B.kid g a=some k->g<k/\k<B.n
structure LsOK (L:LsG):Prop where
 n:L.n<=5000
 kind:∀ i,i<L.n->0<=(L.it i).kind/\(L.it i).kind<=2
 blend:∀ i,i<L.n->0<=(L.it i).blend/\(L.it i).blend<=11
 deep:∀ i,i<L.n->(L.it i).kind=2->2<=(bld L i).d
theorem BldOK.top {B i} (h:BldOK B i):B.top<B.n:=h.stk _ (by have:=h.d1; omega)
theorem BldOK.push {B:Bld}{i k j} (h:BldOK B i) (hk:∀ q,k=some q->B.top<q/\q<B.n):BldOK (B.push k j) (i+1):=by
 refine ⟨h.d1,by have:=h.d2; show B.d<=_; omega,h.n1,by have:=h.n2; show B.n<=_; omega,h.stk,fun g hg=>?_,fun g a q hg ha hq=>?_⟩
 ·have:=h.m g hg
  simp only [Bld.push];split<;>omega
 ·simp only [Bld.push] at ha hq;split at hq
  ·rename_i hc;rw [hc.1];exact hk q hq
  ·rename_i hc;refine h.kid g a q hg ?_ hq;split at ha
   ·rename_i hg';have:a≠B.m g:=fun e=>hc ⟨hg',e⟩
    omega
   ·exact ha
theorem BldOK.bgn {B:Bld}{i j} (h:BldOK B i):BldOK (B.bgn j) (i+1):=by
 have ht:=h.top;refine ⟨xG _,by have:=h.d2; show B.d+1<=_; omega,xG _,by have:=h.n2; show B.n+1<=_; omega,fun q hq=>?_,fun g hg=>?_,fun g a q hg ha hq=>?_⟩
 ·show (if q=B.d then B.n else B.stk q)<B.n+1;have hq:q<B.d+1:=hq;split
  ·omega
  ·have:=h.stk q (by omega); omega
 ·show (if g=B.n then 0 else (B.push (some B.n) j).m g)<=i+1;split
  ·omega
  ·have hg:g<B.n+1:=hg;have:=h.m g (by omega)
   simp only [Bld.push];split<;>omega
 ·have ha:a<(if g=B.n then 0 else (B.push (some B.n) j).m g):=ha;have hg:g<B.n+1:=hg;split at ha
  ·omega
  ·have hq:(B.push (some B.n) j).kid g a=some q:=hq;show g<q/\q<B.n+1;simp only [Bld.push] at ha hq;split at hq
   ·rename_i hc;cases hq;omega
   ·rename_i hc;have:=h.kid g a q (by omega) (by
     split at ha
     ·rename_i hg';have:a≠B.m g:=fun e=>hc ⟨hg',e⟩
      omega
     ·exact ha) hq
    omega
theorem ak9 {L:LsG}(h:LsOK L):∀ i,i<=L.n->BldOK (bld L i) i
 | 0,_=>⟨lh _,lh _,lh _,lh _,fun _ _=>Nat.one_pos,fun _ _=>lm _,fun _ _ _ _ ha=>absurd ha (lj _)⟩
 | i+1,hi=>by
  have hb:=ak9 h i (by omega);simp only [bld,aH3];split
  ·exact hb.push fun q hq=>(nomatch hq)
  ·split
   ·exact hb.bgn
   ·rename_i h0 h1;have hk:=h.kind i (by omega);have hd:=h.deep i (by omega) (by omega);exact ⟨by show 1<=(bld L i).d-1; omega,by have:=hb.d2; show (bld L i).d-1<=_; omega,hb.n1,by have:=hb.n2; show (bld L i).n<=_; omega,fun j hj=>hb.stk j (by have hj:j<(bld L i).d-1:=hj; omega),fun g hg=>by have:=hb.m g hg; show (bld L i).m g<=_; omega,hb.kid⟩
abbrev TG:TypeId:=127
abbrev TM:TypeId:=137
abbrev TPg:TypeId:=73
abbrev TPf:TypeId:=129
def ptrV (b:Nat):Value:= .pointer (some ⟨b,0,none⟩)
def zSrc:Src:=⟨0,⟨0,0,0,0,0,0,0,0⟩,0,0,0,0,0,0,fun _=>⟨0,⟨0,0,0,0,0,0,0,0⟩⟩,⟨0,0,0,fun _=>⟨0,0,0,0,0,0,0,0⟩,0,fun _=>0,⟨0,0,0,0,0,0⟩,false,false⟩⟩
def zIt:It:=⟨0,0,fun _=>⟨0,0,0⟩,zSrc,0,0,false,false,false⟩
def mixS (x:It):SV:=bh3 (aa4 x.blend.toNat)
def bm3:List SV:=itL zIt++[.int .i64 (-1),.nilfn]
def grpL (L:LsG) (t:Nat):List SV:=itL (L.it t)++[.int .i64 t,mixS (L.it t)]
def bI2 (L:LsG) (t:Nat):List SV:=itL (L.it t)++[.int .i64 t,srcF (L.it t).src,mixS (L.it t)]
def av9 (L:LsG) (t:Nat):SV:= .ref 37 (lst (bI2 L t))
def hdF (L:LsG) (B:Bld) (g j:Nat):SV:=lst (if g=0 then bm3 else grpL L (B.it g)) j
def pF (L:LsG) (B:Bld) (b:Nat->Nat) (g a:Nat):SV:=match B.kid g a with
 | some k=> .ifc TPg (fun _=> .con (ptrV (b k)))
 | none=> .ifc TPf (fun _=>av9 L (B.leaf g a))
def fam (L:LsG) (B:Bld) (b:Nat->Nat) (c:Nat->Option Nat):GF:=⟨B.n,b,c,hdF L B,B.m,pF L B b,none,fun _=>undef,fun _=>undef⟩
def lfC (L:LsG) (B:Bld) (g a:Nat):Nat->SV:=lst (bI2 L (B.leaf g a))
def grpC (L:LsG) (B:Bld) (f g:Nat):Nat->SV:=gC TPg TPf (hdF L B) B.m (lfC L B) B.kid f g
def grpS (L:LsG) (B:Bld) (f g:Nat):SV:= .ref 37 (grpC L B f g)
def lsO (L:LsG):SO:= .cells 4 (lst (lsL L)) 25
def tau (L:LsG) (i:Nat) (b:Nat->Nat):Tmps:=[(14,.sl L.n 34 (fun i=>lst (itL (L.it i)))),(15,.int .i64 L.n),(16,.int .i64 i),(10,.own 1 0),(3,.con (ptrV (b 0))),(4,.osl 2 0)]
def opn (B:Bld) (b:Nat->Nat) (j:Nat):Nat:=if j<B.d then b (B.stk j) else 0
def au1 (B:Bld) (b:Nat->Nat):SO:= .row 0 B.d 1 (fun j _=> .con (ptrV (opn B b j))) TPg
def itO (L:LsG) (i:Nat):SO:= .cells 34 (lst (itL (L.it i))) 50
def famO (F:GF):SO:= .cus (gfQ TG TM F)
structure TrG where
 i:Nat
 b:Nat->Nat
 c:Nat->Option Nat
def lpI (L:LsG):Inv:=⟨TrG,fun g=>g.i<=L.n,fun g=>⟨tau L g.i g.b,[.dead,famO (fam L (bld L g.i) g.b g.c),au1 (bld L g.i) g.b]⟩,fun g=>L.n-g.i⟩
def A1 (L:LsG):Inv:=⟨Unit,fun _=>True,fun _=>⟨(3,.own 1 0)::[(10,.own 1 0),(1,.own 0 0)],[lsO L,.cells 37 (lst (bm3++[.cap0])) TG]⟩,fun _=>0⟩
def A2 (L:LsG):Inv:=⟨Nat,fun _=>True,fun b=>⟨(3,.con (ptrV b))::[(10,.own 1 0),(1,.own 0 0)],[lsO L,famO (fam L (bld L 0) (fun _=>b) (fun _=>none))]⟩,fun _=>0⟩
def B1 (L:LsG) (q:Nat):Inv:=⟨TrG,fun g=>(g.i=q/\g.i<L.n)/\(L.it g.i).kind=0,fun g=>⟨(7,.con (ptrV (g.b (bld L g.i).top)))::(26,.con (ptrV (g.b (bld L g.i).top)))::((5,.int .i64 g.i)::(6,.own 3 0)::tau L g.i g.b),[.dead,famO (fam L (bld L g.i) g.b g.c),au1 (bld L g.i) g.b,itO L g.i]⟩,fun _=>0⟩
structure TkG where
 t:TrG
 hv:Nat->Value
 mv:Nat->Value
def B2 (L:LsG) (q:Nat):Inv:=⟨TkG,fun g=>(g.t.i=q/\g.t.i<L.n)/\(L.it g.t.i).kind=0,fun g=>⟨(7,.own 4 0)::(26,.pin 4 (g.t.b (bld L g.t.i).top))::((5,.int .i64 g.t.i)::(6,.own 3 0)::tau L g.t.i g.t.b),
 [.dead,famO ((fam L (bld L g.t.i) g.t.b g.t.c).take (bld L g.t.i).top g.hv g.mv),au1 (bld L g.t.i) g.t.b,itO L g.t.i,.cells 37 (topC g.hv 5) TG,.row 0 ((bld L g.t.i).m (bld L g.t.i).top) 1 (fun a _=> .con (g.mv a)) TM]⟩,fun _=>0⟩
def memP (m:Nat) (mv:Nat->Value) (x:SV) (a:Nat):SV:=if a<m then .con (mv a) else x
def C1 (L:LsG) (q:Nat):Inv:=⟨TkG,fun g=>(g.t.i=q/\g.t.i<L.n)/\(L.it g.t.i).kind=0,fun g=>⟨(26,.pin 4 (g.t.b (bld L g.t.i).top))::tau L g.t.i g.t.b,
 [.dead,famO ((fam L (bld L g.t.i) g.t.b g.t.c).take (bld L g.t.i).top g.hv g.mv),au1 (bld L g.t.i) g.t.b,.dead,.cells 37 (topC g.hv 5) TG,.row 0 ((bld L g.t.i).m (bld L g.t.i).top+1) 1 (fun a _=>memP ((bld L g.t.i).m (bld L g.t.i).top) g.mv (.ifc TPf (fun _=>av9 L g.t.i)) a) TM]⟩,fun _=>0⟩
def C2 (L:LsG) (q:Nat):Inv:=⟨TrG,fun g=>(g.i=q/\g.i<L.n)/\(L.it g.i).kind=0,fun g=>⟨(26,.any)::tau L g.i g.b,[.dead,famO (fam L (bld L (g.i+1)) g.b g.c),au1 (bld L (g.i+1)) g.b,.dead,.dead,.dead]⟩,fun _=>0⟩
theorem as5 (x:It):∀ s∈itL x,ae8 s:=by
 intro s hs;simp only [itL,lP,xa,lJ,uk] at hs;rcases hs with rfl | rfl | h | rfl | rfl | rfl | rfl | rfl
 case inr.inl=>exact fun i j=>ac0 (fun s hs=>by simp only [rnL,lP,lJ,uk] at hs; rcases hs with rfl | rfl | rfl<;>trivial) j
 case inr.inr.inl=>exact aS7 _ s h
 all_goals trivial
theorem ba2 {l m:List SV}{j:Nat}(h:j<l.length):lst (l++m) j=lst l j:=by
 induction l generalizing j with
 | nil=>exact absurd h (lj _)
 | cons a l ih=>cases j with
  | zero=>rfl
  | succ j=>exact ih (Nat.lt_of_succ_lt_succ h)
theorem handA (L:LsG):ak5 82 0 (A1 L) [A2 L]:=by
 rintro _ _ w0 X0 a w _ ⟨E,hrep,htr⟩;obtain ⟨b,h1,h2⟩:=ak4 (show R w _ E (.own 1 0) (a.tmps.getD 10 undef) from htr.2.2 10 (by omega));obtain ⟨b',h3,h4⟩:=ak4 (show R w _ E (.own 1 0) (a.tmps.getD 3 undef) from htr.2.2 3 (by omega));have:b=b':=by rw [h1] at h3; cases h3; rfl
 subst this;obtain ⟨r1,r2⟩:=hrep.gnew (K:=1) TM rfl h1 (g:=lst (bm3++[.cap0])) (fun j hj=>by
  refine ac0 (fun s hs=>?_) j;simp only [bm3,xj,xa,lP,lJ,uk] at hs;rcases hs with hs | (rfl | rfl) | rfl
  ·exact as5 _ s hs
  all_goals trivial) rfl
 obtain ⟨q1,q2⟩:=r1.gle (k:=1) rfl (GF.same (F':=fam L (bld L 0) (fun _=>b) (fun _=>none)) rfl rfl rfl (fun _ _=>rfl) (fun _ _=>rfl) (fun i j hi hj=>by
  have hi:i<1:=hi;have h0:i=0:=by omega
  subst h0;exact (ba2 (l:=bm3) hj).symm) (fun _ _=>rfl) (fun i a _ ha=>absurd ha (lj _)))
 refine ⟨A2 L,lG.2 rfl,b,trivial,StR.mk1 htr q1 (fun b hb=>r2 b (q2 b hb)) (Env.le_refl _) ?_⟩;rw [h4];exact .con
theorem handB (L:LsG) (h:LsOK L) (q:Nat):ak5 82 0 (B1 L q) [B2 L q]:=by
 rintro g hg0 w0 X0 a w _ ⟨E,hrep,htr⟩;have hg:g.i<L.n:=hg0.1.2;have hb:=ak9 h g.i (by omega);obtain ⟨b,h1,h2⟩:=ak4 (show R w _ E (.own 1 0) (a.tmps.getD 10 undef) from htr.2.2 10 (by omega));have h7:=ap0 (show R w _ E (.con (ptrV (g.b (bld L g.i).top))) (a.tmps.getD 7 undef) from htr.2.2 7 (by omega));have h26:=ap0 (show R w _ E (.con (ptrV (g.b (bld L g.i).top))) (a.tmps.getD 26 undef) from htr.2.2 26 (by omega));obtain ⟨E2,hv,mv,hle,e1,r1,r2⟩:=hrep.b63 (k:=1) (i:=(bld L g.i).top) rfl h1 rfl hb.top;refine ⟨B2 L q,lG.2 rfl,⟨g,hv,mv⟩,hg0,StR.mk2 htr r1 r2 hle ?_ ?_⟩
 ·rw [h7]; exact .own e1
 ·rw [h26]; exact .pin e1
theorem a69 {w X E k b v} (h:R w X E (.pin k b) v):E k=some (.blk b):=by
 cases h with
 | pin h=>exact h
theorem bR3 {L:LsG}{B:Bld}{b:Nat->Nat}{k:Option Nat}{t g a:Nat}(h:¬ (g=B.top/\a=B.m g)):pF L (B.push k t) b g a=pF L B b g a:=by
 simp only [pF,Bld.push,lb h]
theorem bF2 {L:LsG}{B:Bld}{b:Nat->Nat}{t:Nat}:pF L (B.push none t) b B.top (B.m B.top) = .ifc TPf (fun _=>av9 L t):=by
 simp only [pF,Bld.push,ud,xI]
theorem bW4 {L:LsG}{B B':Bld}{b:Nat->Nat}{c:Nat->Option Nat}{c1:Option Nat}{hv mv:Nat->Value}{x:SV}(hn:B'.n=B.n) (hit:B'.it=B.it) (hm:∀ g,g<B.n->B'.m g=if g=B.top then B.m g+1 else B.m g)
  (hp:∀ g a,g<B.n->¬ (g=B.top/\a=B.m g)->pF L B' b g a=pF L B b g a) (hx:pF L B' b B.top (B.m B.top)=x) :
  CusLe (gfQ TG TM (((fam L B b c).take B.top hv mv).put B.top c1 (B.m B.top+1) (fun a=>memP (B.m B.top) mv x a))) (gfQ TG TM (fam L B' b (fun i=>if i=B.top then c1 else c i))):=by
 refine GF.same hn rfl rfl (fun _ _=>rfl) (fun _ _=>rfl) (fun i j hi hj=>by show hdF L B' i j=hdF L B i j; simp only [hdF,hit]) (fun i hi=>?_) (fun i a hi ha=>?_)
 ·show B'.m i=if i=B.top then B.m B.top+1 else B.m i
  rw [hm i hi];split
  ·rename_i he; rw [he]
  ·rfl
 ·have ha:a<(if i=B.top then B.m B.top+1 else B.m i):=ha;have hi:i<B.n:=hi;show pF L B' b i a=(if i=B.top then (fun a=>if a<B.m B.top then pF L B b B.top a else memP (B.m B.top) mv x a) else pF L B b i) a;by_cases hit:i=B.top
  ·subst hit;rw [lg rfl] at ha ⊢;by_cases ham:a<B.m B.top
   ·simp only [lg ham];exact hp _ _ hi (fun hc=>by omega)
   ·have:a=B.m B.top:=by omega
    subst this;simp only [lb ham,memP];exact hx
  ·rw [lb hit];exact hp _ _ hi (fun hc=>hit hc.1)
theorem bd9 (hv:Nat->Value) (K:Nat) (j:Nat) (hj:j<36):topC hv K j = .con (hv j):=by
 unfold topC;rw [show Nat.beq j 36=false by cases hc:Nat.beq j 36 with | true=>exact absurd (lx hc) (by omega) | false=>rfl]; rfl
theorem handC (L:LsG) (h:LsOK L) (q:Nat):ak5 82 0 (C1 L q) [C2 L q]:=by
 rintro ⟨g,hv,mv⟩ ⟨hg0,hk⟩ w0 X0 a w _ ⟨E,hrep,htr⟩;have hg:g.i<L.n:=hg0.2;have hk:(L.it g.i).kind=0:=hk;have hb:=ak9 h g.i (by omega);obtain ⟨b,h1,h2⟩:=ak4 (show R w _ E (.own 1 0) (a.tmps.getD 10 undef) from htr.2.2 10 (by omega));have h26:=a69 (show R w _ E (.pin 4 (g.b (bld L g.i).top)) (a.tmps.getD 26 undef) from htr.2.2 26 (by omega));obtain ⟨c,r1,r2⟩:=hrep.gput (k:=1) (K1:=4) (K2:=5) (ver:=0) (h:=(bld L g.i).top) rfl h1 rfl hb.top rfl h26 rfl rfl (fun j hj=>bd9 hv 5 j hj) (fun a ha=>lg ha);have hbld:bld L (g.i+1)=(bld L g.i).push none g.i:=by simp only [bld,aH3,hk,xI]
 obtain ⟨q1,q2⟩:=r1.gle (k:=1) rfl (bW4 (B':=bld L (g.i+1)) (by rw [hbld]; rfl) (by rw [hbld]; rfl) (fun _ _=>by rw [hbld]; rfl) (fun _ _ _ hc=>by rw [hbld]; exact bR3 hc) (by rw [hbld]; exact bF2));refine ⟨C2 L q,lG.2 rfl,⟨g.i,g.b,fun i=>if i=(bld L g.i).top then c else g.c i⟩,⟨hg0,hk⟩,?_⟩;have:=StR.mk1 (s':= .any) htr q1 (fun b hb=>r2 b (q2 b hb)) (Env.le_refl _) .any
 have e1:au1 (bld L (g.i+1)) g.b=au1 (bld L g.i) g.b:=by rw [hbld]; rfl
 show StR w0 X0 82 ⟨(26,.any)::tau L g.i g.b,[.dead,famO (fam L (bld L (g.i+1)) g.b (fun i=>if i=(bld L g.i).top then c else g.c i)),au1 (bld L (g.i+1)) g.b,.dead,.dead,.dead]⟩ a w;rw [e1];exact this
def newL (L:LsG) (t:Nat):List SV:=grpL L t++[.cap0]
def D1 (L:LsG) (q:Nat):Inv:=⟨TrG,fun g=>(g.i=q/\g.i<L.n)/\(L.it g.i).kind=1,fun g=>⟨(8,.own 4 0)::(7,.con (ptrV (g.b (bld L g.i).top)))::(26,.con (ptrV (g.b (bld L g.i).top)))::tau L g.i g.b,[.dead,famO (fam L (bld L g.i) g.b g.c),au1 (bld L g.i) g.b,.dead,.cells 37 (lst (newL L g.i)) TG]⟩,fun _=>0⟩
structure AdG where
 t:TrG
 b1:Nat
 hv:Nat->Value
 mv:Nat->Value
def fam1 (L:LsG) (g:AdG):GF:=((fam L (bld L g.t.i) g.t.b g.t.c).add g.b1 (lst (newL L g.t.i))).take (bld L g.t.i).top g.hv g.mv
def D2 (L:LsG) (q:Nat):Inv:=⟨AdG,fun g=>(g.t.i=q/\g.t.i<L.n)/\(L.it g.t.i).kind=1,fun g=>⟨(8,.con (ptrV g.b1))::(7,.own 5 0)::(26,.pin 5 (g.t.b (bld L g.t.i).top))::tau L g.t.i g.t.b,
 [.dead,famO (fam1 L g),au1 (bld L g.t.i) g.t.b,.dead,.dead,.cells 37 (topC g.hv 6) TG,.row 0 ((bld L g.t.i).m (bld L g.t.i).top) 1 (fun a _=> .con (g.mv a)) TM]⟩,fun _=>0⟩
def E1 (L:LsG) (q:Nat):Inv:=⟨AdG,fun g=>(g.t.i=q/\g.t.i<L.n)/\(L.it g.t.i).kind=1,fun g=>⟨(26,.pin 5 (g.t.b (bld L g.t.i).top))::(8,.con (ptrV g.b1))::tau L g.t.i g.t.b,
 [.dead,famO (fam1 L g),au1 (bld L g.t.i) g.t.b,.dead,.dead,.cells 37 (topC g.hv 6) TG,.row 0 ((bld L g.t.i).m (bld L g.t.i).top+1) 1 (fun a _=>memP ((bld L g.t.i).m (bld L g.t.i).top) g.mv (.ifc TPg (fun _=> .con (ptrV g.b1))) a) TM]⟩,fun _=>0⟩
def E2 (L:LsG) (q:Nat):Inv:=⟨TrG,fun g=>(g.i=q/\g.i<L.n)/\(L.it g.i).kind=1,fun g=>⟨(26,.any)::(8,.con (ptrV (g.b (bld L g.i).n)))::tau L g.i g.b,[.dead,famO (fam L (bld L (g.i+1)) g.b g.c),au1 (bld L g.i) g.b,.dead,.dead,.dead,.dead]⟩,fun _=>0⟩
theorem StR.mk3 {w0 X0 N H H2 E E2 w a τ k s s' k2 s2 s2' k3 s3 s3'} (htr:TR (X0.n0 w0) w (Xo X0 E H) E N ((k,s)::(k2,s2)::(k3,s3)::τ) a) (hr:Rep w0 X0 H2 E2 w) (hx:∀ b,Xo X0 E2 H2 b->Xo X0 E H b) (le:E.le E2)
  (h:R w (Xo X0 E2 H2) E2 s' (a.tmps.getD k undef)) (h2:R w (Xo X0 E2 H2) E2 s2' (a.tmps.getD k2 undef)) (h3:R w (Xo X0 E2 H2) E2 s3' (a.tmps.getD k3 undef)):StR w0 X0 N ⟨(k,s')::(k2,s2')::(k3,s3')::τ,H2⟩ a w:=by
 have h0:=htr.mono (w':=w) (fun _ _ _=>rfl) (fun b _ hb=>hx b hb) le;refine ⟨E2,hr,h0.1,h0.2.1,fun t ht=>?_⟩;have ht:=h0.2.2 t ht;simp only [ac7] at ht ⊢;by_cases hk:k=t
 ·subst hk; rw [lg rfl]; exact h
 ·rw [lb hk] at ht ⊢;by_cases hk2:k2=t
  ·subst hk2; rw [lg rfl]; exact h2
  ·rw [lb hk2] at ht ⊢;by_cases hk3:k3=t
   ·subst hk3; rw [lg rfl]; exact h3
   ·rw [lb hk3] at ht ⊢; exact ht
theorem ax5 (x:It):ae8 (mixS x):=by
 intro i;refine ac0 (fun s hs=>?_) i;cases lG.1 hs;intro i;refine ac0 (fun s hs=>?_) i;cases lG.1 hs;intro i;refine ac0 (fun s hs=>?_) i;cases lG.1 hs;intro i;refine ac0 (fun s hs=>?_) i;cases lG.1 hs;intro i;trivial
theorem bH0 (L:LsG) (t j:Nat):ae8 (lst (newL L t) j):=by
 refine ac0 (fun s hs=>?_) j;simp only [newL,grpL,xj,xa,lP,lJ,uk] at hs;rcases hs with hs | (rfl | rfl) | rfl
 ·exact as5 _ s hs
 ·trivial
 ·exact ax5 _
 ·trivial
theorem handD (L:LsG) (h:LsOK L) (q:Nat):ak5 82 0 (D1 L q) [D2 L q]:=by
 rintro g hg0 w0 X0 a w _ ⟨E,hrep,htr⟩;have hg:g.i<L.n:=hg0.1.2;have hb:=ak9 h g.i (by omega);obtain ⟨b,h1,h2⟩:=ak4 (show R w _ E (.own 1 0) (a.tmps.getD 10 undef) from htr.2.2 10 (by omega));obtain ⟨b1,h3,h4⟩:=ak4 (show R w _ E (.own 4 0) (a.tmps.getD 8 undef) from htr.2.2 8 (by omega));have h7:=ap0 (show R w _ E (.con (ptrV (g.b (bld L g.i).top))) (a.tmps.getD 7 undef) from htr.2.2 7 (by omega));have h26:=ap0 (show R w _ E (.con (ptrV (g.b (bld L g.i).top))) (a.tmps.getD 26 undef) from htr.2.2 26 (by omega));obtain ⟨r1,r2⟩:=hrep.gadd (k:=1) (K:=4) rfl h1 rfl rfl h3 (fun j _=>bH0 L g.i j) rfl;have ht:(bld L g.i).top<((fam L (bld L g.i) g.b g.c).add b1 (lst (newL L g.i))).n:=uA hb.top;obtain ⟨E2,hv,mv,hle,e1,q1,q2⟩:=r1.b63 (k:=1) (i:=(bld L g.i).top) rfl h1 rfl ht;have hbt:((fam L (bld L g.i) g.b g.c).add b1 (lst (newL L g.i))).b (bld L g.i).top=g.b (bld L g.i).top:=lb (ul hb.top);have hmt:((fam L (bld L g.i) g.b g.c).add b1 (lst (newL L g.i))).m (bld L g.i).top=(bld L g.i).m (bld L g.i).top:=lb (ul hb.top);rw [hbt] at e1;rw [hmt] at q1 q2;refine ⟨D2 L q,lG.2 rfl,⟨g,b1,hv,mv⟩,hg0,StR.mk3 htr q1 (fun b hb=>r2 b (q2 b hb)) hle ?_ ?_ ?_⟩
 ·rw [h4]; exact .con
 ·rw [h7]; exact .own e1
 ·rw [h26]; exact .pin e1
theorem bI3 {L:LsG}{B:Bld}{j t:Nat}(hb:BldOK B j) {b:Nat->Nat}{c:Nat->Option Nat}{c1:Option Nat}{b1:Nat}{hv mv:Nat->Value} :
  CusLe (gfQ TG TM ((((fam L B b c).add b1 (lst (newL L t))).take B.top hv mv).put B.top c1 (B.m B.top+1) (fun a=>memP (B.m B.top) mv (.ifc TPg (fun _=> .con (ptrV b1))) a)))
   (gfQ TG TM (fam L (B.bgn t) (fun i=>if i=B.n then b1 else b i) (fun i=>if i=B.top then c1 else if i=B.n then none else c i))):=by
 have htop:=hb.top;refine GF.same rfl rfl rfl (fun _ _=>rfl) (fun _ _=>rfl) (fun i j hi hj=>?_) (fun i hi=>?_) (fun i a hi ha=>?_)
 ·show hdF L (B.bgn t) i j=(if i=B.n then lst (newL L t) else hdF L B i) j;have hi:i<B.n+1:=hi;by_cases hc:i=B.n
  ·rw [lg hc];have:=hb.n1
   simp only [hdF,Bld.bgn,lg hc,lb (show ¬ i=0 by omega)];exact (ba2 (l:=grpL L t) (m:=[.cap0]) hj).symm
  ·rw [lb hc];simp only [hdF,Bld.bgn,lb hc]
 ·show (if i=B.n then 0 else if i=B.top then B.m i+1 else B.m i)=if i=B.top then B.m B.top+1 else if i=B.n then 0 else B.m i
  by_cases hc:i=B.top
  ·subst hc; rw [lb (ul htop),lg rfl,lg rfl]
  ·rw [lb hc,lb hc]
 ·have ha:a<(if i=B.top then B.m B.top+1 else if i=B.n then 0 else B.m i):=ha;have hi:i<B.n+1:=hi;show pF L (B.bgn t) (fun i=>if i=B.n then b1 else b i) i a=(if i=B.top then (fun a=>if a<(if B.top=B.n then 0 else B.m B.top) then (if B.top=B.n then fun _=>SV.any else pF L B b B.top) a else memP (B.m B.top) mv (.ifc TPg (fun _=> .con (ptrV b1))) a) else if i=B.n then fun _=>SV.any else pF L B b i) a;have old:∀ i a,i<B.n->a<B.m i->pF L (B.bgn t) (fun i=>if i=B.n then b1 else b i) i a=pF L B b i a:=fun i a hi ha=>by
   have hne:¬ (i=B.top/\a=B.m i):=fun hc=>by omega
   simp only [pF,Bld.bgn,Bld.push,lb hne];cases hk:B.kid i a with
   | none=>rfl
   | some k=>
    have:=(hb.kid i a k hi ha hk).2
    simp only [lb (ul this)]
  by_cases hc:i=B.top
  ·subst hc;rw [lg rfl] at ha ⊢;rw [lb (ul htop),lb (ul htop)];by_cases ham:a<B.m B.top
   ·simp only [lg ham];exact old _ _ htop ham
   ·have:a=B.m B.top:=by omega
    subst this;simp only [lb ham,memP,pF,Bld.bgn,Bld.push,ud,xI]
  ·rw [lb hc] at ha ⊢;by_cases hn:i=B.n
   ·rw [lg hn] at ha; exact absurd ha (lj _)
   ·rw [lb hn] at ha ⊢;exact old i a (by omega) ha
theorem handE (L:LsG) (h:LsOK L) (q:Nat):ak5 82 0 (E1 L q) [E2 L q]:=by
 rintro ⟨g,b1,hv,mv⟩ ⟨hg0,hk⟩ w0 X0 a w _ ⟨E,hrep,htr⟩;have hg:g.i<L.n:=hg0.2;have hk:(L.it g.i).kind=1:=hk;have hb:=ak9 h g.i (by omega);obtain ⟨b,h1,h2⟩:=ak4 (show R w _ E (.own 1 0) (a.tmps.getD 10 undef) from htr.2.2 10 (by omega));have h26:=a69 (show R w _ E (.pin 5 (g.b (bld L g.i).top)) (a.tmps.getD 26 undef) from htr.2.2 26 (by omega));have h8:=ap0 (show R w _ E (.con (ptrV b1)) (a.tmps.getD 8 undef) from htr.2.2 8 (by omega));have hbt:(fam1 L ⟨g,b1,hv,mv⟩).b (bld L g.i).top=g.b (bld L g.i).top:=lb (ul hb.top);have hmt:(fam1 L ⟨g,b1,hv,mv⟩).m (bld L g.i).top=(bld L g.i).m (bld L g.i).top:=lb (ul hb.top);obtain ⟨c,r1,r2⟩:=hrep.gput (k:=1) (K1:=5) (K2:=6) (ver:=0) (h:=(bld L g.i).top) (F:=fam1 L ⟨g,b1,hv,mv⟩) rfl h1 rfl (uA hb.top) rfl (by rw [hbt]; exact h26) rfl rfl (fun j hj=>bd9 hv 6 j hj) (fun a ha=>by rw [hmt] at ha; exact lg ha);have hbld:bld L (g.i+1)=(bld L g.i).bgn g.i:=by simp only [bld,aH3,hk]; rfl
 obtain ⟨q1,q2⟩:=r1.gle (k:=1) rfl (bI3 (t:=g.i) hb);refine ⟨E2 L q,lG.2 rfl,⟨g.i,fun i=>if i=(bld L g.i).n then b1 else g.b i,fun i=>if i=(bld L g.i).top then c else if i=(bld L g.i).n then none else g.c i⟩,⟨hg0,hk⟩,?_⟩;have:=StR.mk2 (s':= .any) (s2':= .con (ptrV b1)) htr q1 (fun b hb=>r2 b (q2 b hb)) (Env.le_refl _) .any (by rw [h8]; exact .con)
 show StR w0 X0 82 ⟨(26,.any)::(8,.con (ptrV (if (bld L g.i).n=(bld L g.i).n then b1 else g.b (bld L g.i).n)))::tau L g.i (fun i=>if i=(bld L g.i).n then b1 else g.b i),[.dead,famO (fam L (bld L (g.i+1)) (fun i=>if i=(bld L g.i).n then b1 else g.b i) (fun i=>if i=(bld L g.i).top then c else if i=(bld L g.i).n then none else g.c i)),au1 (bld L g.i) (fun i=>if i=(bld L g.i).n then b1 else g.b i),.dead,.dead,.dead,.dead]⟩ a w;have e1:au1 (bld L g.i) (fun i=>if i=(bld L g.i).n then b1 else g.b i)=au1 (bld L g.i) g.b:=by
  simp only [au1,opn];congr 1;funext j _;by_cases hj:j<(bld L g.i).d
  ·rw [lg hj,lg hj,lb (ul (hb.stk j hj))]
  ·rw [lb hj,lb hj]
 have e2:tau L g.i (fun i=>if i=(bld L g.i).n then b1 else g.b i)=tau L g.i g.b:=by
  simp only [tau];rw [lb (show ¬ 0=(bld L g.i).n by have:=hb.n1; omega)]
 rw [e1,e2,hbld,lg rfl];exact this
def G1 (L:LsG):Inv:=⟨TrG,fun _=>True,fun g=>⟨(3,.con (ptrV (g.b 0)))::[(10,.own 1 0)],[.dead,famO (fam L (bld L L.n) g.b g.c)]⟩,fun _=>0⟩
def G2 (L:LsG):Inv:=⟨Unit,fun _=>True,fun _=>⟨(3,grpS L (bld L L.n) (Nat.succ (bld L L.n).n) 0)::[(10,.own 1 0)],[.dead,.dead]⟩,fun _=>0⟩
theorem handG (L:LsG) (h:LsOK L):ak5 82 0 (G1 L) [G2 L]:=by
 rintro g _ w0 X0 a w _ ⟨E,hrep,htr⟩;have hb:=ak9 h L.n (lh _);obtain ⟨b,h1,h2⟩:=ak4 (show R w _ E (.own 1 0) (a.tmps.getD 10 undef) from htr.2.2 10 (by omega));have h3:=ap0 (show R w _ E (.con (ptrV (g.b 0))) (a.tmps.getD 3 undef) from htr.2.2 3 (by omega));obtain ⟨⟨r1,r2⟩,r3,r4⟩:=hrep.ggive (k:=1) rfl h1 rfl;have key:=gC_R (TP:=TPg) (TF:=TPf) (lf:=lfC L (bld L L.n)) (kid:=(bld L L.n).kid) r3 rfl r4 (fun i a k hi ha hk=>⟨(hb.kid i a k hi ha hk).2,by show pF L (bld L L.n) g.b i a=_; simp only [pF,hk]; rfl⟩) (fun i a hi ha hk=>by show pF L (bld L L.n) g.b i a=_; simp only [pF,hk]; rfl) (Nat.succ (bld L L.n).n) 0 hb.n1;refine ⟨G2 L,lG.2 rfl,(),trivial,StR.mk1 htr r1 r2 (Env.le_refl _) ?_⟩;rw [h3];exact key.mono (fun _ _ _=>rfl) (fun _ _ h=>h) (Env.aX0 _)
theorem be1 (x:Src):ae8 (srcF x):=by
 intro i;refine ac0 (fun s hs=>?_) i;cases lG.1 hs;intro j;show ae8 (srcG x j);unfold srcG;split
 ·refine ac0 (fun s hs=>?_) j;cases lG.1 hs;intro i;refine ac0 (fun s hs=>?_) i;cases lG.1 hs;intro i;refine ac0 (fun s hs=>?_) i;rcases xa.1 hs with hs | hs
  ·exact bh4 _ s hs
  ·simp only [matL,lP,lJ,uk] at hs;rcases hs with rfl | rfl | rfl | rfl | rfl | rfl<;>trivial
 ·exact ac0 (aS7 x) j
theorem ba3 (L:LsG) (B:Bld) (g a j:Nat):ae8 (lfC L B g a j):=by
 refine ac0 (fun s hs=>?_) j;simp only [bI2,xa,lP,lJ,uk] at hs;rcases hs with hs | rfl | rfl | rfl
 ·exact as5 _ s hs
 ·trivial
 ·exact be1 _
 ·exact ax5 _
theorem bz0 (L:LsG) (B:Bld) (g j:Nat):ae8 (hdF L B g j):=by
 unfold hdF;refine ac0 (fun s hs=>?_) j;split at hs
 ·simp only [bm3,xa,lP,lJ,uk] at hs;rcases hs with hs | rfl | rfl
  ·exact as5 _ s hs
  all_goals trivial
 ·simp only [grpL,xa,lP,lJ,uk] at hs;rcases hs with hs | rfl | rfl
  ·exact as5 _ s hs
  ·trivial
  ·exact ax5 _
theorem bh6 (L:LsG) (B:Bld):∀ f g j,ae8 (grpC L B f g j)
 | 0,_,_=>trivial
 | f+1,g,j=>by
  show ae8 (bif Nat.beq j 36 then SV.sl (B.m g) 1 (fun a _=> .ifc ((B.kid g a).elim TPf fun _=>TPg) (fun _=> .ref 37 ((B.kid g a).elim (lfC L B g a) (grpC L B f)))) else hdF L B g j);cases Nat.beq j 36 with
  | false=>exact bz0 L B g j
  | true=>
   intro a _ _ j;show ae8 ((B.kid g a).elim (lfC L B g a) (grpC L B f) j);cases B.kid g a with
   | none=>exact ba3 L B g a j
   | some k=>exact bh6 L B f k j
theorem bU7 (L:LsG) (B:Bld) (f g a j:Nat):ae8 ((B.kid g a).elim (lfC L B g a) (grpC L B f) j):=by
 cases B.kid g a with
 | none=>exact ba3 L B g a j
 | some k=>exact bh6 L B f k j
theorem bC1 {f:Nat->SV}(h:∀ j,ae8 (f j)) (n:Nat):allN n fun j=>SVle [] [] (f j) (f j):=aq9 (fun j=>SVle.refl [] [] (h j)) n
theorem bO0 {m i:Nat}{mv:Nat->Value}{x y:SV}(h:SVle [] [] x y):SVle [] [] (bif decide (i<m) then .con (mv i) else x) (memP m mv y i):=by
 unfold memP;by_cases hc:i<m
 ·rw [lk hc,lg hc]; exact ⟨rfl⟩
 ·rw [li hc,lb hc]; exact h
theorem b55 {B B':Bld}{b:Nat->Nat}{t i:Nat}(h:B'=B.bgn t) (hi:i<B'.d):SVle [] [] (bif decide (i<B.d) then .con (ptrV (opn B b i)) else .con (ptrV (b B.n))) (.con (ptrV (opn B' b i))):=by
 subst h;have hi:i<B.d+1:=hi;have e:opn (B.bgn t) b i=b (if i=B.d then B.n else B.stk i):=lg hi;rw [e];by_cases hc:i<B.d
 ·rw [lk hc,lb (by omega)];refine ⟨?_⟩;simp only [opn,lg hc]
 ·rw [li hc,lg (by omega)];exact ⟨rfl⟩
theorem bn5 {T:TypeId}{n:Nat}{f f':Nat->SV}(h:allN n fun j=>f j=f' j) (ho:∀ j,ae8 (f' j)):SVle [] [] (.ifc T fun _=> .ref n f) (.ifc T fun _=> .ref n f'):=by
 refine ⟨⟨rfl⟩,?_⟩;simp only [SVle,xI,lh];have hh:=ae7 h;clear h;suffices ∀ k,k<=n->allN k (fun i=>SVle [] [] (f i) (f' i)) from this n (lh _)
 intro k hk;induction k with
 | zero=>trivial
 | succ k ih=>exact ⟨ih (by omega),by show SVle [] [] (f k) (f' k); rw [hh k (by omega)]; exact SVle.refl [] [] (ho k)⟩
def aY0:FSpec:={ be4 with box:=some 134 }
theorem bm5:aa2 Tryz.prog aY0:=bv3
def bZ2:FSpec:=aa3 39 (γ:=LsG) (fun | [.agg _ g]=>some (lsD g) | _=>none) (fun g=>[lsS g]) LsOK (fun g=>grpS g (bld g g.n) (Nat.succ (bld g g.n).n) 0)
theorem bR5:aa2 Tryz.prog bZ2:=by
 refine ssW (specs:=[aY0,bL2]) (⟨bm5,bS8,trivial⟩) Tryz.func39 (fun g=>(⟨[(4,.nest (lpI g) (fun t=>[(5000010,.hand (B1 g t.i) [B2 g t.i]),(6000010,.hand (C1 g t.i) [C2 g t.i]),(5000013,.hand (D1 g t.i) [D2 g t.i]),(6000013,.hand (E1 g t.i) [E2 g t.i])])),(5000002,.hand (A1 g) [A2 g]),(5000016,.hand (G1 g) [G2 g])],[(1000008,[.shrink 4])]⟩:Ann)) ?_;rintro g hg;refine ab2 (B:=let T3:=fun p:Prop=>True/\True/\True/\p;let V:=fun p:SV=>SVle [] [] p p;let J:=Int.ofNat;let K:=IntKind.i64;let A:=Sx.Ask;let z38:=(nat_lit 0);let z37:=(35:Nat);let z36:=(140737488355328:Nat);let z34:=(nat_lit 82);let z33:=(34:Nat);let z32:=(16:Nat);let z29:=(9223372036854775807:Nat);let z28:=(bld g g.n);let z23:=(9223372036854775807:Int);let z22:=(-9223372036854775808:Int);let z20:=(false=false);let z15:=(1:Int);let z12:=(1:Nat);let z9:=(0:Int);let z7:=(0:Nat);let z17:=(z7=z7);let z6:=(A (g.n=g.n)/\∀ i:Nat,i<g.n->(qT True (g.it i) (g.it i)));let z5:=(IntKind.u8=IntKind.u8);let z4:=(z9=z9);let z3:=(K=K);let q3:=fun p:Int=>A z3/\A (p=p);let z27:=(True/\A z3/\A z4);let z8:=(q3 ((↑g.n:Int)));let z0:=(gC TPg TPf (hdF g z28) z28.m (lfC g z28) z28.kid z28.n);T3 (True/\True/\ak5 z34 z38 (A1 g) [A2 g]/\(∃ g_1:Unit,A ((A1 g).pre g_1)/\(A z17/\A z17/\A z17/\True)/\((((True/\q3 g.w)/\q3 g.h)/\A (g.ni=g.ni)/\∀ i:Nat,i<g.ni->True/\A (g.nm i=g.nm i))/\A (g.n=g.n)/\∀ i:Nat,i<g.n->(qT True (g.it i) (g.it i)))/\((((((((((((((((((((((((((((((((((((z27/\A z17)/\A z3/\A z4)/\A z5/\A z4)/\A z5/\A z4)/\A z5/\A z4)/\A z5/\A z4)/\A z5/\A z4)/\A z5/\A z4)/\A z5/\A z4)/\A z5/\A z4)/\A z3/\A z4)/\A z3/\A z4)/\A z3/\A z4)/\A z3/\A z4)/\A z3/\A z4)/\A z17)/\A z3/\A z4)/\A z3/\A z4)/\A z17)/\A z17)/\A z3/\A z4)/\A z3/\A z4)/\A z3/\A z4)/\A z3/\A z4)/\A z3/\A z4)/\A z3/\A z4)/\A z20)/\A z20)/\A z5/\A z4)/\A z3/\A z4)/\A z20)/\A z20)/\A z20)/\q3 ((-1:Int)))/\True)/\True)/\True)/\(∀ h:Nat,(A2 g).pre h->T3 (T3 (True/\(∃ g_1:TrG,A ((lpI g).pre g_1)/\(z6/\z8/\(A z3/\A (z9=(↑g_1.i:Int)))/\A z17/\A (ptrV h=ptrV (g_1.b z7))/\True/\True)/\True/\CusLe (gfQ TG TM (fam g (bld g z7) (fun (x:Nat)=>h) fun (x:Nat)=>Option.none)) (gfQ TG TM (fam g (bld g g_1.i) g_1.b g_1.c))/\(A (z12=(bld g g_1.i).d)/\∀ i:Nat,i<(bld g g_1.i).d->True/\A (ptrV h=ptrV (opn (bld g g_1.i) g_1.b i)))/\True)/\∀ g_1:TrG,let z19:=(↑g_1.i:Int);let z13:=(bld g g_1.i);let z18:=(gfQ TG TM (fam g z13 g_1.b g_1.c));let z11:=(g.it z19.toNat);let z10:=(↑z13.d:Int);let z25:=(opn z13 g_1.b (z10-z15).toNat); (lpI g).pre g_1->True/\Br (decide (z19<(↑g.n:Int))) (True/\A (z9<=z19/\z19<(↑g.n:Int))/\T3 (T3 (True/\A (z22<=z10-z15/\z10-z15<=z23)/\A (z9<=z10-z15/\z10-z15<z10)/\A ((z10-z15).toNat<z13.d)/\T3 (True/\True/\Br (decide (z11.kind=z9)) (ak5 z34 z38 (B1 g g_1.i) [B2 g g_1.i]/\(∃ g_2:TrG,let z35:=(A z3/\A (z19=(↑g_2.i:Int)));let z30:=(bld g g_2.i); A ((B1 g g_1.i).pre g_2)/\(A (ptrV z25=ptrV (g_2.b z30.top))/\A (ptrV z25=ptrV (g_2.b z30.top))/\z35/\A z17/\z6/\z8/\z35/\A z17/\A (ptrV (g_1.b z7)=ptrV (g_2.b z7))/\True/\True)/\True/\CusLe z18 (gfQ TG TM (fam g z30 g_2.b g_2.c))/\(A (z13.d=z30.d)/\∀ i:Nat,i<z30.d->True/\A (ptrV (opn z13 g_1.b i)=ptrV (opn z30 g_2.b i)))/\(qT True z11 (g.it g_2.i))/\True)/\(∀ h:TkG,let z26:=(g.it h.t.i);let z16:=(bld g h.t.i); (B2 g g_1.i).pre h->T3 (T3 (T3 ((((qS True (z26.src) (z26.src))/\True)/\A True)/\True/\True/\(((q3 z26.blend)/\True)/\A (z9<=z26.blend/\z26.blend<=(11:Int)))/\T3 (True/\A (z16.m z16.top+z12<=z29/\(z16.m z16.top+z12)*z32<=z36)/\T3 (ak5 z34 z38 (C1 g g_1.i) [C2 g g_1.i]/\(∃ g_2:TkG,let z14:=(bld g g_2.t.i); A ((C1 g g_1.i).pre g_2)/\(A (h.t.b z16.top=g_2.t.b z14.top)/\z6/\z8/\(A z3/\A ((↑h.t.i:Int)=(↑g_2.t.i:Int)))/\A z17/\A (ptrV (h.t.b z7)=ptrV (g_2.t.b z7))/\True/\True)/\True/\CusLe (gfQ TG TM ((fam g z16 h.t.b h.t.c).take z16.top h.hv h.mv)) (gfQ TG TM ((fam g z14 g_2.t.b g_2.t.c).take z14.top g_2.hv g_2.mv))/\(A (z16.d=z14.d)/\∀ i:Nat,i<z14.d->True/\A (ptrV (opn z16 h.t.b i)=ptrV (opn z14 g_2.t.b i)))/\True/\(((((((((((((((((((((((((((((((((((((True/\A (h.hv z7=g_2.hv z7))/\A (h.hv z12=g_2.hv z12))/\A (h.hv (2:Nat)=g_2.hv (2:Nat)))/\A (h.hv (3:Nat)=g_2.hv (3:Nat)))/\A (h.hv (4:Nat)=g_2.hv (4:Nat)))/\A (h.hv (5:Nat)=g_2.hv (5:Nat)))/\A (h.hv (6:Nat)=g_2.hv (6:Nat)))/\A (h.hv (7:Nat)=g_2.hv (7:Nat)))/\A (h.hv (8:Nat)=g_2.hv (8:Nat)))/\A (h.hv (9:Nat)=g_2.hv (9:Nat)))/\A (h.hv (10:Nat)=g_2.hv (10:Nat)))/\A (h.hv (11:Nat)=g_2.hv (11:Nat)))/\A (h.hv (12:Nat)=g_2.hv (12:Nat)))/\A (h.hv (13:Nat)=g_2.hv (13:Nat)))/\A (h.hv (14:Nat)=g_2.hv (14:Nat)))/\A (h.hv (15:Nat)=g_2.hv (15:Nat)))/\A (h.hv z32=g_2.hv z32))/\A (h.hv (17:Nat)=g_2.hv (17:Nat)))/\A (h.hv (18:Nat)=g_2.hv (18:Nat)))/\A (h.hv (19:Nat)=g_2.hv (19:Nat)))/\A (h.hv (20:Nat)=g_2.hv (20:Nat)))/\A (h.hv (21:Nat)=g_2.hv (21:Nat)))/\A (h.hv (22:Nat)=g_2.hv (22:Nat)))/\A (h.hv (23:Nat)=g_2.hv (23:Nat)))/\A (h.hv (24:Nat)=g_2.hv (24:Nat)))/\A (h.hv (25:Nat)=g_2.hv (25:Nat)))/\A (h.hv (26:Nat)=g_2.hv (26:Nat)))/\A (h.hv (27:Nat)=g_2.hv (27:Nat)))/\A (h.hv (28:Nat)=g_2.hv (28:Nat)))/\A (h.hv (29:Nat)=g_2.hv (29:Nat)))/\A (h.hv (30:Nat)=g_2.hv (30:Nat)))/\A (h.hv (31:Nat)=g_2.hv (31:Nat)))/\A (h.hv (32:Nat)=g_2.hv (32:Nat)))/\A (h.hv (33:Nat)=g_2.hv (33:Nat)))/\A (h.hv z33=g_2.hv z33))/\A (h.hv z37=g_2.hv z37))/\True)/\(A (z16.m z16.top+z12=z14.m z14.top+z12)/\∀ i:Nat,i<z14.m z14.top+z12->True/\SVle [] [] (bif decide (i<z16.m z16.top) then SV.con (h.mv i) else SV.ifc (129:Nat) fun (x:Nat)=>SV.ref (37:Nat) (updF (updF (updF (updF (ak0 [Go.Value.int K z9,Go.Value.slice Option.none z7 z7,Go.Value.int K z9,Go.Value.int IntKind.u8 z9,Go.Value.int IntKind.u8 z9,Go.Value.int IntKind.u8 z9,Go.Value.int IntKind.u8 z9,Go.Value.int IntKind.u8 z9,Go.Value.int IntKind.u8 z9,Go.Value.int IntKind.u8 z9,Go.Value.int IntKind.u8 z9,Go.Value.int K z9,Go.Value.int K z9,Go.Value.int K z9,Go.Value.int K z9,Go.Value.int K z9,Go.Value.slice Option.none z7 z7,Go.Value.int K z9,Go.Value.int K z9,Go.Value.slice Option.none z7 z7,Go.Value.slice Option.none z7 z7,Go.Value.int K z9,Go.Value.int K z9,Go.Value.int K z9,Go.Value.int K z9,Go.Value.int K z9,Go.Value.int K z9,Go.Value.bool false,Go.Value.bool false,Go.Value.int IntKind.u8 z9,Go.Value.int K z9,Go.Value.bool false,Go.Value.bool false,Go.Value.bool false,Go.Value.int K z9,Go.Value.nilFunc,Go.Value.nilFunc]) z7 z33 fun (j:Nat)=>lst (itL z26) (z7+j)) z33 z12 fun (x:Nat)=>SV.int K (↑h.t.i:Int)) z37 z12 fun (x:Nat)=>SV.fn (srcN z26.src.kind) z12 (lst [SV.ref (srcW z26.src.kind) (srcG z26.src)])) (36:Nat) z12 fun (x:Nat)=>SV.fn (86:Go.FuncId) z12 (lst [SV.ref z12 (lst [bg8 (Blend.aa4 z26.blend.toNat)])]))) (memP (z14.m z14.top) g_2.mv (SV.ifc TPf fun (x:Nat)=>av9 g g_2.t.i) i))/\True)/\(∀ h:TrG,(C2 g g_1.i).pre h->A (z22<=(↑h.i:Int)+z15/\(↑h.i:Int)+z15<=z23)/\True/\∃ (g':TrG),A ((lpI g).pre g')/\((z6/\z8/\(A z3/\A ((↑h.i:Int)+z15=(↑g'.i:Int)))/\A z17/\A (ptrV (h.b z7)=ptrV (g'.b z7))/\True/\True)/\True/\CusLe (gfQ TG TM (fam g (bld g (h.i+z12)) h.b h.c)) (gfQ TG TM (fam g (bld g g'.i) g'.b g'.c))/\(A ((bld g (h.i+z12)).d=(bld g g'.i).d)/\∀ i:Nat,i<(bld g g'.i).d->True/\A (ptrV (opn (bld g (h.i+z12)) h.b i)=ptrV (opn (bld g g'.i) g'.b i)))/\True)/\A ((lpI g).meas g'<(lpI g).meas g_1))/\True))))))/\True) (True/\True/\Br (decide (z11.kind=z15)) (T3 (True/\(((q3 z11.blend)/\True)/\A (z9<=z11.blend/\z11.blend<=(11:Int)))/\T3 (ak5 z34 z38 (D1 g g_1.i) [D2 g g_1.i]/\(∃ g_2:TrG,let z31:=(bld g g_2.i); A ((D1 g g_1.i).pre g_2)/\(A z17/\A (ptrV z25=ptrV (g_2.b z31.top))/\A (ptrV z25=ptrV (g_2.b z31.top))/\z6/\z8/\(A z3/\A (z19=(↑g_2.i:Int)))/\A z17/\A (ptrV (g_1.b z7)=ptrV (g_2.b z7))/\True/\True)/\True/\CusLe z18 (gfQ TG TM (fam g z31 g_2.b g_2.c))/\(A (z13.d=z31.d)/\∀ i:Nat,i<z31.d->True/\A (ptrV (opn z13 g_1.b i)=ptrV (opn z31 g_2.b i)))/\True/\((((qT True z11 (g.it g_2.i))/\A z3/\A (z19=(↑g_2.i:Int)))/\A ((86:Go.FuncId)=(86:Go.FuncId))/\True/\True/\A ((112:Go.FuncId)=(112:Go.FuncId))/\True/\True/\A (Blend.aa4 z11.blend.toNat=Blend.aa4 (g.it g_2.i).blend.toNat)/\True)/\True)/\True)/\(∀ h:AdG,let z24:=(bld g h.t.i); (D2 g g_1.i).pre h->T3 (T3 (True/\True/\A (z24.m z24.top+z12<=z29/\(z24.m z24.top+z12)*z32<=z36)/\T3 (ak5 z34 z38 (E1 g g_1.i) [E2 g g_1.i]/\(∃ g_2:AdG,let z21:=(bld g g_2.t.i); A ((E1 g g_1.i).pre g_2)/\(A (h.t.b z24.top=g_2.t.b z21.top)/\A (ptrV h.b1=ptrV g_2.b1)/\z6/\z8/\(A z3/\A ((↑h.t.i:Int)=(↑g_2.t.i:Int)))/\A z17/\A (ptrV (h.t.b z7)=ptrV (g_2.t.b z7))/\True/\True)/\True/\CusLe (gfQ TG TM (fam1 g h)) (gfQ TG TM (fam1 g g_2))/\(A (z24.d=z21.d)/\∀ i:Nat,i<z21.d->True/\A (ptrV (opn z24 h.t.b i)=ptrV (opn z21 g_2.t.b i)))/\True/\True/\(((((((((((((((((((((((((((((((((((((True/\A (h.hv z7=g_2.hv z7))/\A (h.hv z12=g_2.hv z12))/\A (h.hv (2:Nat)=g_2.hv (2:Nat)))/\A (h.hv (3:Nat)=g_2.hv (3:Nat)))/\A (h.hv (4:Nat)=g_2.hv (4:Nat)))/\A (h.hv (5:Nat)=g_2.hv (5:Nat)))/\A (h.hv (6:Nat)=g_2.hv (6:Nat)))/\A (h.hv (7:Nat)=g_2.hv (7:Nat)))/\A (h.hv (8:Nat)=g_2.hv (8:Nat)))/\A (h.hv (9:Nat)=g_2.hv (9:Nat)))/\A (h.hv (10:Nat)=g_2.hv (10:Nat)))/\A (h.hv (11:Nat)=g_2.hv (11:Nat)))/\A (h.hv (12:Nat)=g_2.hv (12:Nat)))/\A (h.hv (13:Nat)=g_2.hv (13:Nat)))/\A (h.hv (14:Nat)=g_2.hv (14:Nat)))/\A (h.hv (15:Nat)=g_2.hv (15:Nat)))/\A (h.hv z32=g_2.hv z32))/\A (h.hv (17:Nat)=g_2.hv (17:Nat)))/\A (h.hv (18:Nat)=g_2.hv (18:Nat)))/\A (h.hv (19:Nat)=g_2.hv (19:Nat)))/\A (h.hv (20:Nat)=g_2.hv (20:Nat)))/\A (h.hv (21:Nat)=g_2.hv (21:Nat)))/\A (h.hv (22:Nat)=g_2.hv (22:Nat)))/\A (h.hv (23:Nat)=g_2.hv (23:Nat)))/\A (h.hv (24:Nat)=g_2.hv (24:Nat)))/\A (h.hv (25:Nat)=g_2.hv (25:Nat)))/\A (h.hv (26:Nat)=g_2.hv (26:Nat)))/\A (h.hv (27:Nat)=g_2.hv (27:Nat)))/\A (h.hv (28:Nat)=g_2.hv (28:Nat)))/\A (h.hv (29:Nat)=g_2.hv (29:Nat)))/\A (h.hv (30:Nat)=g_2.hv (30:Nat)))/\A (h.hv (31:Nat)=g_2.hv (31:Nat)))/\A (h.hv (32:Nat)=g_2.hv (32:Nat)))/\A (h.hv (33:Nat)=g_2.hv (33:Nat)))/\A (h.hv z33=g_2.hv z33))/\A (h.hv z37=g_2.hv z37))/\True)/\(A (z24.m z24.top+z12=z21.m z21.top+z12)/\∀ i:Nat,i<z21.m z21.top+z12->True/\SVle [] [] (bif decide (i<z24.m z24.top) then SV.con (h.mv i) else SV.ifc (73:Nat) fun (x:Nat)=>SV.con (ptrV h.b1)) (memP (z21.m z21.top) g_2.mv (SV.ifc TPg fun (x:Nat)=>SV.con (ptrV g_2.b1)) i))/\True)/\(∀ h:TrG,let z39:=(bld g h.i); (E2 g g_1.i).pre h->T3 (A (z39.d+z12<=z29/\(z39.d+z12)*(8:Nat)<=z36)/\True/\A (z22<=(↑h.i:Int)+z15/\(↑h.i:Int)+z15<=z23)/\True/\∃ (g':TrG),A ((lpI g).pre g')/\((z6/\z8/\(A z3/\A ((↑h.i:Int)+z15=(↑g'.i:Int)))/\A z17/\A (ptrV (h.b z7)=ptrV (g'.b z7))/\True/\True)/\True/\CusLe (gfQ TG TM (fam g (bld g (h.i+z12)) h.b h.c)) (gfQ TG TM (fam g (bld g g'.i) g'.b g'.c))/\(A (z39.d+z12=(bld g g'.i).d)/\∀ i:Nat,i<(bld g g'.i).d->True/\SVle [] [] (bif decide (i<z39.d) then SV.con (ptrV (opn z39 h.b i)) else SV.con (ptrV (h.b z39.n))) (SV.con (ptrV (opn (bld g g'.i) g'.b i))))/\True)/\A ((lpI g).meas g'<(lpI g).meas g_1)))/\True))))/\True))) (T3 (A (z22<=z10-z15/\z10-z15<=z23)/\A (z9<=J z7/\J z7<=z10-z15/\z10-z15<=J z13.d/\J z13.d<=z10)/\True/\A (z22<=z19+z15/\z19+z15<=z23)/\True/\∃ (g':TrG),A ((lpI g).pre g')/\((z6/\z8/\(A z3/\A (z19+z15=(↑g'.i:Int)))/\A z17/\A (ptrV (g_1.b z7)=ptrV (g'.b z7))/\True/\True)/\True/\CusLe z18 (gfQ TG TM (fam g (bld g g'.i) g'.b g'.c))/\(A ((z10-z15-J z7).toNat=(bld g g'.i).d)/\∀ i:Nat,i<(bld g g'.i).d->True/\A (ptrV (opn z13 g_1.b i)=ptrV (opn (bld g g'.i) g'.b i)))/\True)/\A ((lpI g).meas g'<(lpI g).meas g_1)))))))) (ak5 z34 z38 (G1 g) [G2 g]/\(∃ g_2:TrG,A ((G1 g).pre g_2)/\(A (ptrV (g_1.b z7)=ptrV (g_2.b z7))/\A z17/\True)/\True/\CusLe z18 (gfQ TG TM (fam g z28 g_2.b g_2.c))/\True)/\(∀ h:Unit,(G2 g).pre h->T3 ((((((((((((((((((((((((((((((((((((z27/\A z17/\∀ i:Nat,i<z7->((z27/\A z3/\A z4)/\A z3/\A z4))/\A z3/\A z4)/\A z5/\A z4)/\A z5/\A z4)/\A z5/\A z4)/\A z5/\A z4)/\A z5/\A z4)/\A z5/\A z4)/\A z5/\A z4)/\A z5/\A z4)/\A z3/\A z4)/\A z3/\A z4)/\A z3/\A z4)/\A z3/\A z4)/\A z3/\A z4)/\A z17/\∀ i:Nat,i<z7->((((((((z27/\A z5/\A z4)/\A z5/\A z4)/\A z5/\A z4)/\A z5/\A z4)/\A z5/\A z4)/\A z5/\A z4)/\A z5/\A z4)/\A z5/\A z4))/\A z3/\A z4)/\A z3/\A z4)/\A z17/\∀ i:Nat,i<z7->((((((((True/\A z5/\A z4)/\A z5/\A z4)/\A z5/\A z4)/\A z5/\A z4)/\A z5/\A z4)/\A z5/\A z4)/\A z5/\A z4)/\A z5/\A z4))/\A z17/\∀ i:Nat,i<z7->True/\A z5/\A z4)/\A z3/\A z4)/\A z3/\A z4)/\A z3/\A z4)/\A z3/\A z4)/\A z3/\A z4)/\A z3/\A z4)/\A z20)/\A z20)/\A z5/\A z4)/\A z3/\A z4)/\A z20)/\A z20)/\A z20)/\q3 ((-1:Int)))/\True)/\A (z28.m z7=z28.m z7)/\∀ i:Nat,let z2:=(z28.kid z7 i);let z1:=(lfC g z28 z7 i); i<z28.m z7->True/\A ((z2.elim TPf fun (x:Nat)=>TPg)=z2.elim TPf fun (x:Nat)=>TPg)/\(chp True (fun j:Nat=>V (z2.elim z1 z0 j)) 36)/\V (z2.elim z1 z0 (36:Nat))))/\True))))/\True)) (by kernel_rfl) ?_;simp only [chp];delta qG qI qM qS qT
 simp only [cln];simp only [lw];refine ⟨handA g,⟨(),trivial⟩,fun b0 _=>⟨⟨⟨0,fun _=>b0,fun _=>none⟩,lm _,⟨rfl,rfl⟩,CusLe.refl _,rfl,fun i hi=>?_⟩,fun t ht=>⟨fun hlt=>?_,fun hge=>?_⟩⟩⟩
 ·have h1:i<(bld g 0).d:=hi;simp only [opn,lg h1]
 ·have hn:=hg.n;have ht:t.i<=g.n:=ht;have hb:=ak9 hg t.i ht;have hd1:=hb.d1;have hd2:=hb.d2;have htop:opn (bld g t.i) t.b ((((bld g t.i).d:Nat):Int)-1).toNat=t.b (bld g t.i).top:=by
   have e:((((bld g t.i).d:Nat):Int)-1).toNat=(bld g t.i).d-1:=by omega
   rw [e];exact lg (by omega)
  refine ⟨by omega,by omega,by omega,by omega,fun hk=>?_,fun hk=>⟨fun hk1=>?_,fun hk2=>?_⟩⟩
  ·refine ⟨handB g hg t.i,⟨t,⟨⟨rfl,by omega⟩,hk⟩,⟨by rw [htop],by rw [htop],rfl,rfl,rfl⟩,CusLe.refl _,⟨rfl,fun _ _=>rfl⟩,by simp only [ud,xp]⟩,fun q hq=>?_⟩;obtain ⟨⟨hqi,hqn⟩,hqk⟩:(q.t.i=t.i/\q.t.i<g.n)/\(g.it q.t.i).kind=0:=hq;have hbq:=ak9 hg q.t.i (by omega);have hm:=hbq.m _ hbq.top;refine ⟨hg.blend _ hqn,⟨by omega,by omega⟩,handC g hg t.i,⟨q,⟨⟨hqi,hqn⟩,hqk⟩,⟨rfl,rfl,rfl⟩,CusLe.refl _,⟨rfl,fun _ _=>rfl⟩,by simp only [ud],rfl,fun i hi=>bO0 ?_⟩,fun r hr=>?_⟩
   ·refine bn5 (n:=37) (f':=lst (bI2 g q.t.i)) ?_ (fun j=>ba3 g ⟨0,0,fun _=>0,fun _=>0,fun _ _=>none,fun _ _=>q.t.i,fun _=>0⟩ 0 0 j);simp only [allN];repeat' (first | exact rfl | apply And.intro | trivial)
   ·obtain ⟨⟨hri,hrn⟩,hrk⟩:(r.i=t.i/\r.i<g.n)/\(g.it r.i).kind=0:=hr;exact ⟨by omega,⟨r.i+1,r.b,r.c⟩,(show r.i+1<=g.n by omega),⟨⟨by simp,rfl⟩,CusLe.refl _,rfl,fun _ _=>rfl⟩,(show g.n-(r.i+1)<g.n-t.i by omega)⟩
  ·refine ⟨hg.blend _ (by omega),handD g hg t.i,⟨t,⟨⟨rfl,by omega⟩,hk1⟩,⟨by rw [htop],by rw [htop],rfl,rfl⟩,CusLe.refl _,⟨rfl,fun _ _=>rfl⟩,by simp only [ud,xp]⟩,fun q hq=>?_⟩;obtain ⟨⟨hqi,hqn⟩,hqk⟩:(q.t.i=t.i/\q.t.i<g.n)/\(g.it q.t.i).kind=1:=hq;have hbq:=ak9 hg q.t.i (by omega);have hm:=hbq.m _ hbq.top;refine ⟨⟨by omega,by omega⟩,handE g hg t.i,⟨q,⟨⟨hqi,hqn⟩,hqk⟩,⟨rfl,rfl,rfl,rfl⟩,CusLe.refl _,⟨rfl,fun _ _=>rfl⟩,by simp only [ud],rfl,fun i hi=>bO0 ?_⟩,fun r hr=>?_⟩
   ·exact SVle.refl _ _ (fun _=>trivial)
   ·obtain ⟨⟨hri,hrn⟩,hrk⟩:(r.i=t.i/\r.i<g.n)/\(g.it r.i).kind=1:=hr;have hbld:bld g (r.i+1)=(bld g r.i).bgn r.i:=by simp only [bld,aH3,hrk]; rfl
    have hbr:=(ak9 hg r.i (by omega)).d2;exact ⟨⟨by omega,by omega⟩,by omega,⟨r.i+1,r.b,r.c⟩,(show r.i+1<=g.n by omega),⟨⟨by simp,rfl⟩,CusLe.refl _,by rw [hbld]; rfl,fun i hi=>b55 hbld hi⟩,(show g.n-(r.i+1)<g.n-t.i by omega)⟩
  ·have hkk:=hg.kind t.i (by omega);have hdd:=hg.deep t.i (by omega) (by omega);have hbld:bld g (t.i+1)={ bld g t.i with d:=(bld g t.i).d-1 }:=by simp only [bld,aH3,lb hk,lb hk2]
   refine ⟨by omega,⟨by simp,by simp; omega,by simp; omega,by simp⟩,by omega,⟨t.i+1,t.b,t.c⟩,(show t.i+1<=g.n by omega),⟨⟨by simp,rfl⟩,?_,?_,fun i hi=>?_⟩,(show g.n-(t.i+1)<g.n-t.i by omega)⟩
   ·show CusLe _ (gfQ TG TM (fam g (bld g (t.i+1)) t.b t.c));rw [hbld]; exact CusLe.refl _
   ·show _=(bld g (t.i+1)).d;rw [hbld];show _=(bld g t.i).d-1;simp
   ·have hi:i<(bld g (t.i+1)).d:=hi;show _=ptrV (opn (bld g (t.i+1)) t.b i);rw [hbld] at hi ⊢;have hi:i<(bld g t.i).d-1:=hi;simp only [opn];rw [lg (by omega),lg hi]
 ·have ht:t.i<=g.n:=ht;have e:t.i=g.n:=by omega
  refine ⟨handG g hg,⟨t,trivial,rfl,by rw [e]; exact CusLe.refl _⟩,fun _ _ i hi=>?_⟩;have:=bC1 (bU7 g (bld g g.n) (bld g g.n).n 0 i) 37
  simp only [allN,xD] at this;exact this
end Lta
set_option linter.unusedSimpArgs false
set_option linter.unusedVariables false
namespace Rgl
open Rga
def inR (r:Rn) (y x:Int):Bool:=decide (r.y=y/\r.x0<=x/\x<r.x1)
def mem (L:List Rn) (y x:Int):Bool:=L.any (fun r=>inR r y x)
theorem ai5 (r:Rn) (y x:Int):inR r y x=true<->r.y=y/\r.x0<=x/\x<r.x1:=decide_eq_true_iff
theorem mem_iff (L:List Rn) (y x:Int):mem L y x=true<->∃ r∈L,r.y=y/\r.x0<=x/\x<r.x1:=by
 unfold mem;rw [ug];exact ⟨fun ⟨r,h,e⟩=>⟨r,h,(ai5 _ _ _).1 e⟩,fun ⟨r,h,e⟩=>⟨r,h,(ai5 _ _ _).2 e⟩⟩
theorem mem_cons (r:Rn) (L:List Rn) (y x:Int):mem (r::L) y x=(inR r y x||mem L y x):=rfl
theorem ba0 (L M:List Rn) (y x:Int):mem (L++M) y x=(mem L y x||mem M y x):=by
 unfold mem; rw [List.any_append]
theorem aJ6 (r:Rn) (y x:Int):mem [r] y x=inR r y x:=by
 unfold mem; simp
theorem bp9:vld []:=⟨fun _ h=>(lJ h).elim,List.Pairwise.nil⟩
theorem af1 {r:Rn}{L:List Rn}:vld (r::L)<->okR r/\(∀ s∈L,ltR r s)/\vld L:=by
 unfold vld;rw [uM];constructor
 ·rintro ⟨h1,h2,h3⟩;exact ⟨h1 r (lO ..),h2,fun s hs=>h1 s (lW _ hs),h3⟩
 ·rintro ⟨h1,h2,h3,h4⟩;refine ⟨fun s hs=>?_,h2,h4⟩;rcases lP.1 hs with rfl | hs
  ·exact h1
  ·exact h3 s hs
theorem aF1 {r:Rn}{L:List Rn}:vld (L++[r])<->vld L/\okR r/\∀ s∈L,ltR s r:=by
 unfold vld;rw [List.pairwise_append];constructor
 ·rintro ⟨h1,h2,_,h3⟩;exact ⟨⟨fun s hs=>h1 s (List.mem_append_left _ hs),h2⟩,h1 r (List.mem_append_right _ (lG.2 rfl)),fun s hs=>h3 s hs r (lG.2 rfl)⟩
 ·rintro ⟨⟨h1,h2⟩,h3,h4⟩;refine ⟨fun s hs=>?_,h2,List.pairwise_singleton _ _,fun s hs t ht=>?_⟩
  ·rcases xa.1 hs with hs | hs
   ·exact h1 s hs
   ·rw [lG.1 hs]; exact h3
  ·rw [lG.1 ht]; exact h4 s hs
theorem beyond {r:Rn}{L:List Rn}(h:vld (r::L)) {y x:Int}(hm:mem L y x=true):r.y<y\/(r.y=y/\r.x1<x):=by
 obtain ⟨s,hs,h1,h2,h3⟩:=(mem_iff _ _ _).1 hm;have:=(af1.1 h).2.1 s hs
 unfold ltR at this;omega
theorem aQ4 {r:Rn}{L:List Rn}(h:vld (r::L)) {y x:Int}(hm:mem (r::L) y x=true):r.y<y\/(r.y=y/\r.x0<=x):=by
 rw [mem_cons,xk] at hm;rcases hm with hm | hm
 ·have:=(ai5 _ _ _).1 hm; omega
 ·have:=beyond h hm
  have:=(af1.1 h).1.2
  omega
theorem aG1 {r:Rn}{L:List Rn}(h:vld (r::L)):mem (r::L) r.y r.x0=true:=by
 rw [mem_cons,(ai5 _ _ _).2 ⟨rfl,xN _,(af1.1 h).1.2⟩]; rfl
theorem be0 {r:Rn}{L:List Rn}(h:vld (r::L)) (y x:Int):mem L y x=(mem (r::L) y x&&!inR r y x):=by
 rw [mem_cons];by_cases hr:inR r y x=true
 ·rw [hr];have:mem L y x≠true:=fun hm=>by
   have:=beyond h hm
   have:=(ai5 _ _ _).1 hr
   omega
  simpa using this
 ·rw [lad] at hr;rw [hr]; simp
theorem b48 {r:Rn}{L:List Rn}(h:vld (r::L)):¬ mem (r::L) r.y r.x1=true:=by
 rw [mem_cons,xk];rintro (hm | hm)
 ·have:=(ai5 _ _ _).1 hm; omega
 ·have:=beyond h hm; omega
theorem uniq:∀ (L M:List Rn),vld L->vld M->(∀ y x,mem L y x=mem M y x)->L=M:=by
 intro L;induction L with
 | nil=>
  intro M _ hM h;cases M with
  | nil=>rfl
  | cons s M=>
   have:=aG1 hM
   rw [<-h] at this;cases this
 | cons r L ih=>
  intro M hL hM h;cases M with
  | nil=>
   have:=aG1 hL
   rw [h] at this;cases this
  | cons s M=>
   have h1:=aQ4 hM (by rw [<-h]; exact aG1 hL);have h2:=aQ4 hL (by rw [h]; exact aG1 hM);have ey:r.y=s.y:=by omega
   have ex:r.x0=s.x0:=by omega
   have o1:=(af1.1 hL).1.2;have o2:=(af1.1 hM).1.2;have e1:r.x1=s.x1:=by
    rcases Int.lt_trichotomy r.x1 s.x1 with hlt | he | hlt
    ·exact absurd (by rw [h,ey,mem_cons,(ai5 _ _ _).2 ⟨rfl,by omega,hlt⟩]; rfl) (b48 hL)
    ·exact he
    ·exact absurd (by rw [<-h,<-ey,mem_cons,(ai5 _ _ _).2 ⟨rfl,by omega,hlt⟩]; rfl) (b48 hM)
   have e:r=s:=by cases r; cases s; simp only at ey ex e1; subst ey ex e1; rfl
   subst e;rw [ih M (af1.1 hL).2.2 (af1.1 hM).2.2 (fun y x=>by rw [be0 hL,be0 hM,h])]
def key (r:Rn):Int:=r.y*16385+r.x0
theorem bD0:∀ (L:List Rn) (r:Rn),vld (r::L)->((r::L).length:Int)<=134226112-key r:=by
 intro L;induction L with
 | nil=>
  intro r h;obtain ⟨⟨⟨h1,h2⟩,⟨h3,h4⟩,h5,h6⟩,h7⟩:=(af1.1 h).1;show (1:Int)<=_;unfold key; omega
 | cons s L ih=>
  intro r h;have h0:=ih s (af1.1 h).2.2;have hl:=(af1.1 h).2.1 s (lO ..);obtain ⟨⟨⟨h1,h2⟩,⟨h3,h4⟩,h5,h6⟩,h7⟩:=(af1.1 h).1;obtain ⟨⟨⟨k1,k2⟩,⟨k3,k4⟩,k5,k6⟩,k7⟩:=(af1.1 (af1.1 h).2.2).1;have e:((r::s::L).length:Int)=((s::L).length:Int)+1:=by simp
  rw [e];unfold key ltR at *
  omega
theorem aS0 {L:List Rn}(h:vld L):L.length<=300000000:=by
 cases L with
 | nil=>exact lm _
 | cons r L=>
  have:=bD0 L r h
  obtain ⟨⟨⟨h1,h2⟩,⟨h3,h4⟩,h5,h6⟩,h7⟩:=(af1.1 h).1;unfold key at this;omega
theorem al5 (L:List Rn):L=[]\/∃ P s,L=P++[s]:=by
 rcases List.eq_nil_or_concat L with h | ⟨P,s,h⟩
 ·exact .inl h
 ·exact .inr ⟨P,s,by rw [h,List.concat_eq_append]⟩
theorem az8 (P:List Rn) (s r:Rn):addR (P++[s]) r=if r.x0<r.x1 then (if s.y=r.y/\r.x0<=s.x1 then P++[⟨s.y,s.x0,if r.x1>s.x1 then r.x1 else s.x1⟩] else P++[s]++[r]) else P++[s]:=by
 unfold addR;simp
theorem add_nil (r:Rn):addR [] r=if r.x0<r.x1 then [r] else []:=rfl
def aft (L:List Rn) (y x:Int):Prop:=∀ s,L.getLast?=some s->s.y<y\/(s.y=y/\s.x0<=x)
def aftE (L:List Rn) (y x:Int):Prop:=∀ s,L.getLast?=some s->s.y<y\/(s.y=y/\s.x1<=x)
theorem az6 {P:List Rn}{s:Rn}{y x:Int}:aft (P++[s]) y x<->s.y<y\/(s.y=y/\s.x0<=x):=by
 unfold aft; simp
theorem ao9 {P:List Rn}{s:Rn}{y x:Int}:aftE (P++[s]) y x<->s.y<y\/(s.y=y/\s.x1<=x):=by
 unfold aftE; simp
theorem bX7 {y x:Int}:aft [] y x:=fun s h=>by cases h
theorem b78 {L:List Rn}(hL:vld L) {y x:Int}(h:aftE L y x):aft L y x:=by
 rcases al5 L with rfl | ⟨P,s,rfl⟩
 ·exact bX7
 ·rw [ao9] at h;rw [az6];have:=(aF1.1 hL).2.1.2
  omega
theorem b79 {L:List Rn}(hL:vld L) {r:Rn}(hr:r.x0<r.x1->okR r) (h:aft L r.y r.x0) :
  vld (addR L r)/\(∀ y x,mem (addR L r) y x=(mem L y x||inR r y x))/\(∀ y x,(r.y<y\/(r.y=y/\r.x0<=x))->aft (addR L r) y x):=by
 by_cases hx:r.x0<r.x1
 ·have hr:=hr hx;rcases al5 L with rfl | ⟨P,s,rfl⟩
  ·rw [add_nil,lg hx];refine ⟨af1.2 ⟨hr,fun _ h=>(lJ h).elim,bp9⟩,fun y x=>?_,fun y x hy=>?_⟩
   ·rw [aJ6]; rfl
   ·exact (az6 (P:=[])).2 hy
  ·rw [az8,lg hx];obtain ⟨hP,hs,hPs⟩:=aF1.1 hL;rw [az6] at h;obtain ⟨⟨⟨h1,h2⟩,⟨h3,h4⟩,h5,h6⟩,h7⟩:=hr;obtain ⟨⟨⟨k1,k2⟩,⟨k3,k4⟩,k5,k6⟩,k7⟩:=hs;by_cases hm:s.y=r.y/\r.x0<=s.x1
   ·rw [lg hm];refine ⟨aF1.2 ⟨hP,⟨⟨⟨k1,k2⟩,⟨k3,k4⟩,?_⟩,?_⟩,fun p hp=>hPs p hp⟩,fun y x=>?_,fun y x hy=>?_⟩
    ·show -8192<=(if r.x1>s.x1 then r.x1 else s.x1)/\(if r.x1>s.x1 then r.x1 else s.x1)<=8192;split<;>omega
    ·show s.x0<(if r.x1>s.x1 then r.x1 else s.x1);split<;>omega
    ·rw [ba0,ba0,aJ6,aJ6,Bool.or_assoc];congr 1;rw [Bool.eq_iff_iff,xk,ai5,ai5,ai5];show s.y=y/\s.x0<=x/\x<(if r.x1>s.x1 then r.x1 else s.x1)<->_;split<;>omega
    ·rw [az6];show s.y<y\/(s.y=y/\s.x0<=x);omega
   ·rw [lb hm];refine ⟨aF1.2 ⟨hL,⟨⟨⟨h1,h2⟩,⟨h3,h4⟩,h5,h6⟩,h7⟩,fun p hp=>?_⟩,fun y x=>?_,fun y x hy=>az6.2 hy⟩
    ·have hsr:ltR s r:=by unfold ltR; omega
     rcases xa.1 hp with hp | hp
     ·have:=hPs p hp
      unfold ltR at *
      omega
     ·rw [lG.1 hp]; exact hsr
    ·rw [ba0 _ [r],aJ6]
 ·have e:addR L r=L:=lb hx;rw [e];refine ⟨hL,fun y x=>?_,fun y x hy s hs=>?_⟩
  ·have:inR r y x=false:=by
    rw [<-lad,ai5]; omega
   rw [this,xA]
  ·have:=h s hs
   omega
theorem bX9 {L:List Rn}{r:Rn}(h:aftE L r.y r.x0) (hx:r.x0<=r.x1):aftE (addR L r) r.y r.x1:=by
 by_cases hx':r.x0<r.x1
 ·rcases al5 L with rfl | ⟨P,s,rfl⟩
  ·rw [add_nil,lg hx'];exact (ao9 (P:=[])).2 (.inr ⟨rfl,xN _⟩)
  ·rw [az8,lg hx'];rw [ao9] at h;split
   ·next hm=>
    rw [ao9];show s.y<r.y\/(s.y=r.y/\(if r.x1>s.x1 then r.x1 else s.x1)<=r.x1);split<;>omega
   ·exact ao9.2 (.inr ⟨rfl,xN _⟩)
 ·rw [show addR L r=L from lb hx'];intro s hs;have:=h s hs
  omega
end Rgl
set_option linter.unusedSimpArgs false
set_option linter.unusedVariables false
namespace Lrd
open Go.RowKit Sx Num Aff Afi Img Imh Rga Blend Ble Lsg Lta
set_option maxRecDepth 100000
structure StG where
 y:Int
 x0:Int
 x1:Int
def stL (s:StG):List SV:=[.int .i64 s.y,.int .i64 s.x0,.int .i64 s.x1]
def stS (s:StG):SV:= .agg 3 (lst (stL s))
def stD (g:Nat->SV):StG:=⟨Sx.intOf (g 0),Sx.intOf (g 1),Sx.intOf (g 2)⟩
structure BsG where
 n:Nat
 f:Nat->Rn
 s:StG
def Bfr (r:Rn) (s:StG):Prop:=r.y<s.y\/(r.y=s.y/\r.x1<=s.x0)
instance (r:Rn) (s:StG):Decidable (Bfr r s):=inferInstanceAs (Decidable (_\/_))
def ixB (f:Nat->Rn) (s:StG):Nat->Nat->Nat
 | 0,k=>k
 | m+1,k=>if Bfr (f k) s then ixB f s m (k+1) else k
theorem a06 (f:Nat->Rn) (s:StG):∀ m k,ixB f s m k<=k+m
 | 0,k=>lh k
 | m+1,k=>by
  unfold ixB; split
  ·have:=a06 f s m (k+1); omega
  ·omega
theorem a05 (f:Nat->Rn) (s:StG):∀ m k j,k<=j->j<ixB f s m k->Bfr (f j) s
 | 0,k,j,h1,h2=>by unfold ixB at h2; omega
 | m+1,k,j,h1,h2=>by
  unfold ixB at h2;split at h2
  ·next he=>
   by_cases hk:j=k
   ·subst hk; exact he
   ·exact a05 f s m (k+1) j (by omega) h2
  ·omega
theorem by0 (f:Nat->Rn) (s:StG):∀ m k,ixB f s m k<k+m->¬ Bfr (f (ixB f s m k)) s
 | 0,k,h=>by unfold ixB at h; omega
 | m+1,k,h=>by
  unfold ixB at h ⊢;split at h
  ·next he=>rw [lg he]; exact by0 f s m (k+1) (by omega)
  ·next he=>rw [lb he]; exact he
structure BsOK (g:BsG):Prop where
 n:g.n<=4611686018427387904
 mono:∀ i j,i<=j->j<g.n->Bfr (g.f j) g.s->Bfr (g.f i) g.s
theorem BsOK.below {g:BsG}(h:BsOK g) {j:Nat}(hj:j<g.n) (hb:Bfr (g.f j) g.s):j<ixB g.f g.s g.n 0:=by
 refine uZ.1 fun hc=>?_
 have:=by0 g.f g.s g.n 0 (by omega)
 exact this (h.mono _ _ hc hj hb)
def bM0:FSpec:=aa3 88 (γ:=Rn×StG) (fun | [.agg _ r,.agg _ s]=>some (rnD r,stD s) | _=>none) (fun g=>[rnS g.1,stS g.2]) (fun _=>True) (fun g=> .int .i64 (if Bfr g.1 g.2 then -1 else 1))
theorem bT6:aa2 Tryz.prog bM0:=by
 refine ssW (specs:=[]) trivial Tryz.func88 (fun g=>A0) ?_;rintro g _;refine ab2 (B:=let A:=Sx.Ask;let z2:=((1:Int)=if Bfr g.fst g.snd then (-1:Int) else (1:Int));let z1:=((-1:Int)=if Bfr g.fst g.snd then (-1:Int) else (1:Int));let z0:=(IntKind.i64=IntKind.i64);True/\True/\True/\True/\True/\True/\True/\True/\True/\Br (decide (g.fst.y<g.snd.y)) (True/\True/\True/\A z0/\A z1) (True/\True/\True/\True/\True/\True/\Br (decide (g.fst.y=g.snd.y)) (True/\True/\True/\True/\True/\True/\True/\Br (decide (g.fst.x1<=g.snd.x0)) (True/\True/\A z0/\A z1) (True/\True/\A z0/\A z2)) (True/\True/\True/\True/\A z0/\A z2))) (by kernel_rfl) ?_;simp only [cln];unfold Bfr;omega
def bsI (g:BsG):Inv:=⟨Nat×Nat,fun q=>q.1<=ixB g.f g.s g.n 0/\ixB g.f g.s g.n 0<=q.2/\q.2<=g.n,
 fun q=>⟨[(0,rgS ⟨g.n,g.f⟩),(2,.fn 88 0 (lst [])),(4,.own 0 0),(8,.int .i64 g.n),(9,.int .i64 q.1),(10,.int .i64 q.2)],[.cells 3 (lst (stL g.s)) 99]⟩,fun q=>q.2-q.1⟩
def spBs:FSpec:=aa3 87 (γ:=BsG) (fun | [r,.agg _ s,_]=>some ⟨ai9 r,rgD r,stD s⟩ | _=>none)
 (fun g=>[rgS ⟨g.n,g.f⟩,stS g.s,.fn 88 0 (lst [])]) BsOK (fun g=> .tup 2 (lst [.int .i64 (ixB g.f g.s g.n 0),.bool false]))
theorem bT7:aa2 Tryz.prog spBs:=by
 refine ssW (specs:=[bM0]) (⟨bT6,trivial⟩) Tryz.func87 (fun g=>(⟨[(3,.inv (bsI g))],[]⟩:Ann)) ?_;rintro g hg;refine ab2 (B:=let K:=Int.toNat;let A:=Sx.Ask;let z16:=((0:Nat)=(0:Nat));let z15:=(2:Int);let z14:=(↑g.n:Int);let z13:=(9223372036854775807:Int);let z12:=(-9223372036854775808:Int);let z8:=(1:Int);let z6:=(A ((88:Go.FuncId)=(88:Go.FuncId))/\True);let z0:=(IntKind.i64=IntKind.i64);let q0:=fun p:Int=>A z0/\A (p=p);let z7:=(q0 z14);let z3:=(A (g.n=g.n)/\∀ i:Nat,i<g.n->((True/\q0 ((g.f i).y))/\q0 ((g.f i).x0))/\q0 ((g.f i).x1));let z2:=(((True/\q0 g.s.y)/\q0 g.s.x0)/\q0 g.s.x1);True/\True/\True/\True/\True/\True/\True/\True/\True/\(∃ (g_1:Nat×Nat),A ((bsI g).pre g_1)/\(z3/\z6/\A z16/\z7/\(A z0/\A ((0:Int)=(↑g_1.fst:Int)))/\(A z0/\A (z14=(↑g_1.snd:Int)))/\True)/\z2/\True)/\∀ (g_1:Nat×Nat),let z11:=(↑g_1.snd:Int);let z4:=(↑g_1.fst:Int);let z10:=(g.f z4.toNat);let z9:=(True/\A z0/\A (z4=(↑(ixB g.f g.s g.n (0:Nat)):Int)));let z5:=(z4+z11);let z1:=(g.f (IntKind.u64.wrap z5 / z15 ^ K z8).toNat); (bsI g).pre g_1->True/\True/\True/\Br (decide (z4<z11)) (True/\True/\A (z12<=z4+z11/\z4+z11<=z13)/\A True/\A ((0:Int)<=z8/\z8<=(↑IntKind.u64.bits:Int))/\A (z12<=IntKind.u64.wrap z5 / z15 ^ K z8/\IntKind.u64.wrap z5 / z15 ^ K z8<=z13)/\True/\True/\True/\True/\A ((0:Int)<=IntKind.u64.wrap z5 / z15 ^ K z8/\IntKind.u64.wrap z5 / z15 ^ K z8<z14)/\True/\True/\(((((True/\q0 z1.y)/\q0 z1.x0)/\q0 z1.x1)/\z2/\True)/\A True)/\True/\Br (decide ((if Bfr z1 g.s then (-1:Int) else z8)<(0:Int))) (True/\A (z12<=IntKind.u64.wrap z5 / z15 ^ K z8+z8/\IntKind.u64.wrap z5 / z15 ^ K z8+z8<=z13)/\True/\∃ (g':Nat×Nat),A ((bsI g).pre g')/\((z3/\z6/\A z16/\z7/\(A z0/\A (IntKind.u64.wrap z5 / z15 ^ K z8+z8=(↑g'.fst:Int)))/\(A z0/\A (z11=(↑g'.snd:Int)))/\True)/\z2/\True)/\A ((bsI g).meas g'<(bsI g).meas g_1)) (True/\True/\∃ (g':Nat×Nat),A ((bsI g).pre g')/\((z3/\z6/\A z16/\z7/\(A z0/\A (z4=(↑g'.fst:Int)))/\(A z0/\A (IntKind.u64.wrap z5 / z15 ^ K z8=(↑g'.snd:Int)))/\True)/\z2/\True)/\A ((bsI g).meas g'<(bsI g).meas g_1))) (True/\True/\True/\True/\True/\Br (decide (z4<z14)) (True/\True/\True/\A ((0:Int)<=z4/\z4<z14)/\True/\True/\(((((True/\q0 z10.y)/\q0 z10.x0)/\q0 z10.x1)/\z2/\True)/\A True)/\True/\True/\True/\True/\True/\z9/\A (decide ((if Bfr z10 g.s then (-1:Int) else z8)=(0:Int))=false)) (True/\True/\True/\True/\z9/\A (false=false)))) (by kernel_rfl) ?_;simp only [cln];have hn:=hg.n;have h1:=a06 g.f g.s g.n 0;refine ⟨⟨(0,g.n),⟨lm _,by omega,lh _⟩,rfl,rfl⟩,fun q hq=>?_⟩;obtain ⟨lo,hi⟩:=q;obtain ⟨q1,q2,q3⟩:lo<=ixB g.f g.s g.n 0/\ixB g.f g.s g.n 0<=hi/\hi<=g.n:=hq;have hw:IntKind.u64.wrap ((lo:Int)+(hi:Int)) / 2 ^ Int.toNat 1=(((lo+hi) / 2:Nat):Int):=by
  have:IntKind.u64.wrap ((lo:Int)+(hi:Int))=(lo:Int)+hi:=by
   show ((lo:Int)+hi) % 18446744073709551616=_;omega
  rw [this];show ((lo:Int)+hi) / 2=_;omega
 simp only [hw,lw];refine ⟨fun hlt=>⟨by omega,⟨by omega,by decide⟩,by omega,by omega,fun hc=>?_,fun hc=>?_⟩,fun hge=>⟨fun hl=>⟨by omega,by omega,by split<;>omega⟩,fun hl=>by omega⟩⟩
 ·have hb:Bfr (g.f ((lo+hi) / 2)) g.s:=by
   by_cases h:Bfr (g.f ((lo+hi) / 2)) g.s
   ·exact h
   ·rw [lb h] at hc; omega
  have:=hg.below (by omega) hb
  exact ⟨by omega,((lo+hi) / 2+1,hi),⟨by show (lo+hi) / 2+1<=_; omega,q2,q3⟩,⟨by simp,rfl⟩,by show hi-((lo+hi) / 2+1)<hi-lo; omega⟩
 ·have hb:¬ Bfr (g.f ((lo+hi) / 2)) g.s:=fun h=>by rw [lg h] at hc; omega
  have:ixB g.f g.s g.n 0<=(lo+hi) / 2:=xF.1 fun hc=>hb (a05 g.f g.s g.n 0 _ (lm _) hc)
  exact ⟨(lo,(lo+hi) / 2),⟨q1,this,by show (lo+hi) / 2<=g.n; omega⟩,⟨rfl,rfl⟩,by show (lo+hi) / 2-lo<hi-lo; omega⟩
structure RnG where
 n:Nat
 f:Nat->Rn
 s:StG
structure RnOK (g:RnG):Prop where
 bs:BsOK ⟨g.n,g.f,g.s⟩
 one:g.s.x1=g.s.x0+1
 out:∀ i,i<g.n->(g.f i).y=g.s.y->¬ ((g.f i).x0<=g.s.x0/\g.s.x0<(g.f i).x1)
def setC (c:Nat->SV) (k:Nat) (x:SV) (j:Nat):SV:=bif Nat.beq j k then x else c j
inductive Unc (s:StG):Nat->TypeId->(Nat->SV)->Prop
 | fill {n:Nat}(c:Nat->SV) (m:Nat) (f:Nat->Rn) (hg:RnOK ⟨m,f,s⟩):Unc s n TPf (setC c 1 (rgS ⟨m,f⟩))
 | grp {n:Nat}(c:Nat->SV) (len:Nat) (ty:Nat->TypeId) (cc:Nat->Nat->SV) (hl:len<=4294967296) (hm:∀ a,a<len->Unc s n (ty a) (cc a)) (ho:∀ a,a<len->∀ j,ae8 (cc a j)) :
   Unc s (n+1) TPg (setC c 36 (.sl len 1 (fun a _=> .ifc (ty a) (fun _=> .ref 37 (cc a)))))
structure CvG where
 s:StG
 T:TypeId
 c:Nat->SV
 nm:Nat
 mkf:Nat->Bool
def mkS (n:Nat) (mk:Nat->Bool):SV:= .sl n 1 (fun i _=> .bool (mk i))
def cvI (g:CvG):Inv:=⟨Nat,fun i=>i<=ai9 (g.c 36),fun i=>⟨[(3,.own 0 0),(5,.own 1 0),(28,g.c 36),(29,.int .i64 (ai9 (g.c 36))),(30,.int .i64 i)],
 [.cells 3 (lst (stL g.s)) 99,.cells 1 (lst [mkS g.nm g.mkf]) 149]⟩,fun i=>ai9 (g.c 36)-i⟩
structure CtG where
 n:Nat
 mkf:Nat->Bool
structure CtOK (g:CtG):Prop where
 n:g.n<=4294967296
 no:∀ i,i<g.n->g.mkf i=false
structure NsG where
 s:StG
 c:Nat->SV
 nb:Nat
 bs:Nat->Nat->Int
 ns:Nat
 st:Nat->Nat->Int
def staS (n:Nat) (f:Nat->Nat->Int):SV:= .sl n 9 (fun i j=> .int .u8 (f i j))
structure PtG where
 s:StG
 c:Nat->SV
 ns:Nat
 st:Nat->Nat->Int
inductive UncP (s:StG) (n:Nat):(Nat->SV)->Prop
 | mk (c:Nat->SV) (len:Nat) (ty:Nat->TypeId) (cc:Nat->Nat->SV) (hl:len<=4294967296) (hm:∀ a,a<len->Unc s n (ty a) (cc a)) (ho:∀ a,a<len->∀ j,ae8 (cc a j)) :
   UncP s n (setC (setC c 33 (.bool false)) 36 (.sl len 1 (fun a _=> .ifc (ty a) (fun _=> .ref 37 (cc a)))))
def ptT (g:PtG) (i:Nat):Tmps:=[(3,.ref 3 (lst (stL g.s))),(5,.ref 1 (lst [staS g.ns g.st])),(6,.ref 1 (lst [staS g.ns g.st])),(22,g.c 36),(23,.int .i64 (ai9 (g.c 36))),(24,.int .i64 i)]
def ptI (g:PtG):Inv:=⟨Nat,fun i=>i<=ai9 (g.c 36),fun i=>⟨ptT g i,[]⟩,fun i=>ai9 (g.c 36)-i⟩
structure MbG where
 ty:TypeId
 cc:Nat->SV
def mbI (g:PtG) (n i:Nat):Inv:=⟨MbG,fun m=>Unc g.s n m.ty m.cc/\∀ j,ae8 (m.cc j),fun m=>⟨(28,.ifc m.ty (fun _=> .ref 37 m.cc))::ptT g i,[]⟩,fun _=>0⟩
structure FmG where
 m:Nat
 f:Nat->Rn
 c:Nat->SV
def mbF (g:PtG) (i:Nat):Inv:=⟨FmG,fun m=>RnOK ⟨m.m,m.f,g.s⟩,fun m=>⟨(28,.ifc TPf (fun _=> .ref 37 (setC m.c 1 (rgS ⟨m.m,m.f⟩))))::ptT g i,[]⟩,fun _=>0⟩
def mbJ (g:PtG) (n i:Nat):Inv:=⟨Nat->SV,fun c=>Unc g.s n TPg c/\∀ j,ae8 (c j),fun c=>⟨(28,.ifc TPg (fun _=> .ref 37 c))::ptT g i,[]⟩,fun _=>0⟩
end Lrd
set_option linter.unusedSimpArgs false
set_option linter.unusedVariables false
namespace Lri
open Go.RowKit Sx Num Aff Afi Img Imh Rga Blend Ble Lsg Lta Lrd
set_option maxRecDepth 100000
def sOf (r:Rn):StG:=⟨r.y,r.x0,r.x0+1⟩
structure BrG where
 n:Nat
 f:Nat->Rn
 r:Rn
def BrG.b (g:BrG):BsG:=⟨g.n,g.f,sOf g.r⟩
def spNaN:FSpec:=aa3 67 (γ:=Int) (fun | [.int _ x]=>some x | _=>none) (fun x=>[.int .i64 x]) (fun _=>True) (fun _=> .lit false)
def cmpI (x y:Int):Int:=if x<y then -1 else if y<x then 1 else 0
def spCmpC:FSpec:=aa3 45 (γ:=Int×Int) (fun | [.int _ a,.int _ b]=>some (a,b) | _=>none) (fun g=>[.int .i64 g.1,.int .i64 g.2]) (fun _=>True) (fun g=> .int .i64 (cmpI g.1 g.2))
def spCmpI:FSpec:=aa3 44 (γ:=Rn×Rn) (fun | [.agg _ r,.agg _ s]=>some (rnD r,rnD s) | _=>none) (fun g=>[rnS g.1,rnS g.2]) (fun _=>True) (fun g=> .int .i64 (if Bfr g.1 (sOf g.2) then -1 else 1))
def brI (g:BrG):Inv:=⟨Nat×Nat,fun q=>q.1<=ixB g.f (sOf g.r) g.n 0/\ixB g.f (sOf g.r) g.n 0<=q.2/\q.2<=g.n,
 fun q=>⟨[(0,rgS ⟨g.n,g.f⟩),(2,.fn 44 0 (lst [])),(4,.own 0 0),(8,.int .i64 g.n),(9,.int .i64 q.1),(10,.int .i64 q.2)],[.cells 3 (lst (rnL g.r)) 70]⟩,fun q=>q.2-q.1⟩
def spBr:FSpec:=aa3 43 (γ:=BrG) (fun | [r,.agg _ s,_]=>some ⟨ai9 r,rgD r,rnD s⟩ | _=>none)
 (fun g=>[rgS ⟨g.n,g.f⟩,rnS g.r,.fn 44 0 (lst [])]) (fun g=>BsOK g.b) (fun g=> .tup 2 (lst [.int .i64 (ixB g.f (sOf g.r) g.n 0),.bool false]))
structure InG where
 n:Nat
 f:Nat->Rn
 x:Int
 y:Int
def InG.ix (g:InG):Nat:=ixB g.f (sOf ⟨g.y,g.x,0⟩) g.n 0
def InG.is (g:InG):Prop:=g.ix<g.n/\(g.f g.ix).y=g.y/\(g.f g.ix).x0<=g.x/\g.x<(g.f g.ix).x1
instance (g:InG):Decidable g.is:=inferInstanceAs (Decidable (_/\_))
def spIn:FSpec:=aa3 25 (γ:=InG) (fun | [r,.int _ x,.int _ y]=>some ⟨ai9 r,rgD r,x,y⟩ | _=>none) (fun g=>[rgS ⟨g.n,g.f⟩,.int .i64 g.x,.int .i64 g.y]) (fun g=>BsOK ⟨g.n,g.f,sOf ⟨g.y,g.x,0⟩⟩) (fun g=> .bool (decide g.is))
end Lri
set_option linter.unusedSimpArgs false
set_option linter.unusedVariables false
namespace Luc
open Go.RowKit Sx Num Aff Afi Img Imh Rga Blend Ble Lsg Lta Lrd Lri
structure Vr (n:Nat) (f:Nat->Rn):Prop where
 len:n<=4611686018427387904
 lt:∀ i,i<n->(f i).x0<(f i).x1
 ord:∀ i,i+1<n->(f i).y<(f (i+1)).y\/((f i).y=(f (i+1)).y/\(f i).x1<(f (i+1)).x0)
theorem Vr.mono {n f} (h:Vr n f) (s:StG):BsOK ⟨n,f,s⟩:=by
 refine ⟨h.len,fun i j hij hj hb=>?_⟩;have hj:j<n:=hj;have hb:Bfr (f j) s:=hb;show Bfr (f i) s;induction j with
 | zero=>
  obtain rfl:i=0:=by omega
  exact hb
 | succ j ih=>
  by_cases he:i=j+1
  ·subst he; exact hb
  ·have h1:=h.ord j hj;have h2:=h.lt (j+1) hj;have key:Bfr (f j) s:=by
    unfold Bfr at hb ⊢;omega
   exact ih (by omega) (show j<n by omega) key (by omega) key
theorem Vr.far {n f} (h:Vr n f):∀ j i,i<j->j<n->(f i).y<(f j).y\/((f i).y=(f j).y/\(f i).x1<(f j).x0)
 | 0,i,hi,_=>absurd hi (lj _)
 | j+1,i,hi,hj=>by
  have h1:=h.ord j hj;by_cases he:i=j
  ·subst he; exact h1
  ·have h2:=h.far j i (by omega) (by omega);have h3:=h.lt j (by omega);omega
theorem Vr.out {n f x y} (h:Vr n f) (hin:¬ (InG.mk n f x y).is):RnOK ⟨n,f,⟨y,x,x+1⟩⟩:=by
 refine ⟨h.mono _,rfl,fun i hi hy hc=>hin ?_⟩;have hi:i<n:=hi;have hy:(f i).y=y:=hy;have hc:(f i).x0<=x/\x<(f i).x1:=hc;have hs:sOf ⟨y,x,0⟩=⟨y,x,x+1⟩:=rfl;have hm:=h.mono (sOf ⟨y,x,0⟩);have hle:=a06 f (sOf ⟨y,x,0⟩) n 0;have h1:¬ Bfr (f i) (sOf ⟨y,x,0⟩):=by unfold Bfr sOf; simp only; omega
 have h2:ixB f (sOf ⟨y,x,0⟩) n 0<=i:=xF.1 fun hl=>h1 (a05 f _ n 0 i (lm _) hl)
 have h3:ixB f (sOf ⟨y,x,0⟩) n 0=i:=by
  refine ut h2 (xF.1 fun hl=>?_);have h4:=by0 f (sOf ⟨y,x,0⟩) n 0 (by omega);refine h4 ?_;have:=h.far i _ hl hi
  show (f (ixB f (sOf ⟨y,x,0⟩) n 0)).y<y\/((f (ixB f (sOf ⟨y,x,0⟩) n 0)).y=y/\(f (ixB f (sOf ⟨y,x,0⟩) n 0)).x1<=x);generalize ixB f (sOf ⟨y,x,0⟩) n 0=K at *
  omega
 show ixB f (sOf ⟨y,x,0⟩) n 0<n/\_;refine ⟨by omega,?_,?_,?_⟩
 ·show (f (ixB f (sOf ⟨y,x,0⟩) n 0)).y=y;rw [h3]; exact hy
 ·show (f (ixB f (sOf ⟨y,x,0⟩) n 0)).x0<=x;rw [h3]; exact hc.1
 ·show x<(f (ixB f (sOf ⟨y,x,0⟩) n 0)).x1;rw [h3]; exact hc.2
def bj6 (L:LsG) (B:Bld) (i:Nat):Prop:=∀ g a,g<B.n->a<B.m g->B.kid g a=none->B.leaf g a<i/\(L.it (B.leaf g a)).kind=0
theorem bj6.push {L B i k} (h:bj6 L B i) (hk:k=none->(L.it i).kind=0):bj6 L (B.push k i) (i+1):=by
 intro g a hg ha hn;have hg:g<B.n:=hg;simp only [Bld.push] at ha hn ⊢;by_cases hc:g=B.top/\a=B.m g
 ·rw [lg hc] at hn ⊢;exact ⟨lae _,hk hn⟩
 ·rw [lb hc] at hn ⊢;have ha':a<B.m g:=by
   split at ha
   ·rename_i hg';have:a≠B.m g:=fun e=>hc ⟨hg',e⟩
    omega
   ·exact ha
  have:=h g a hg ha' hn
  exact ⟨by omega,this.2⟩
theorem aT9 {L:LsG}(h:LsOK L):∀ i,i<=L.n->bj6 L (bld L i) i
 | 0,_=>fun _ _ _ ha=>absurd ha (lj _)
 | i+1,hi=>by
  have hb:=aT9 h i (by omega);simp only [bld,aH3];split
  ·rename_i h0;exact hb.push fun _=>h0
  ·split
   ·intro g a hg ha hn;have hp:=hb.push (k:=some (bld L i).n) (fun hc=>(nomatch hc));have ha:a<(if g=(bld L i).n then 0 else ((bld L i).push (some (bld L i).n) i).m g):=ha;split at ha
    ·exact absurd ha (lj _)
    ·have hg:g<(bld L i).n+1:=hg;exact hp g a (by show g<(bld L i).n; omega) ha hn
   ·intro g a hg ha hn;have:=hb g a hg ha hn
    exact ⟨by have:=this.1; show (bld L i).leaf g a<i+1; omega,this.2⟩
end Luc
set_option linter.unusedSimpArgs false
set_option linter.unusedVariables false
namespace Lro
open Go.RowKit Sx Num Aff Afi Img Imh Rga Blend Ble Lsg Lta Lrd Lri Luc
set_option maxRecDepth 100000
def b20 (j:Nat):Int:=if j=0 then 255 else 0
def a84:FSpec:=aa3 40 (γ:=Unit) (fun _=>some ()) (fun _=>[]) (fun _=>True) (fun _=> .agg 9 (fun j=> .int .u8 (b20 j)))
structure RwG where
 c:Nat->SV
 k:Int
 y:Int
 x:Int
end Lro
set_option linter.unusedSimpArgs false
set_option linter.unusedVariables false
namespace Lck
open Go.RowKit Sx Num Aff Afi Img Imh Rga Blend Ble Lsg Lta Lrd Lri Luc
set_option maxRecDepth 100000
def okAt (s:ByteArray) (i:Nat):Prop:=(97<=ao6 s i/\ao6 s i<=122)\/(i≠0/\(ao6 s i=45\/(48<=ao6 s i/\ao6 s i<=57)))
instance (s:ByteArray) (i:Nat):Decidable (okAt s i):=inferInstanceAs (Decidable (_\/_))
def isNm (s:ByteArray):Prop:=(1<=s.size/\s.size<=16)/\∀ i,i<s.size->okAt s i
instance (s:ByteArray):Decidable (isNm s):=inferInstanceAs (Decidable (_/\_))
def nmI (s:ByteArray):Inv:=⟨Nat,fun i=>i<=s.size/\∀ j,j<i->okAt s j,fun i=>⟨[(0,.str s),(15,.int .i64 s.size),(16,.int .i64 i)],[]⟩,fun i=>s.size-i⟩
def bK9:FSpec:=aa3 18 (γ:=ByteArray) (fun | [.str s]=>some s | _=>none) (fun s=>[.str s]) (fun _=>True) (fun s=> .bool (decide (isNm s)))
theorem bS5:aa2 Tryz.prog bK9:=by
 refine ssW (specs:=[]) trivial Tryz.func18 (fun g=>(⟨[(4,.inv (nmI g))],[]⟩:Ann)) ?_;rintro s _;refine ab2 (B:=let T3:=fun p:Prop=>True/\True/\True/\p;let T4:=fun p:Prop=>True/\True/\True/\True/\p;let K:=Br;let A:=Sx.Ask;let z6:=(↑s.size:Int);let z4:=(IntKind.i64=IntKind.i64);let z3:=(false=decide (isNm s));let z7:=(T4 (A z3));let z1:=(A z4/\A (z6=z6));T4 (True/\K (decide (z6<(1:Int))) (T3 (A z3)) (T4 (K (decide ((16:Int)<z6)) (True/\True/\A z3) (T3 ((∃ g:Nat,A ((nmI s).pre g)/\(A (s=s)/\z1/\(A z4/\A ((0:Int)=(↑g:Int)))/\True)/\True)/\∀ g:Nat,let z5:=(↑g:Int);let z2:=((-9223372036854775808:Int)<=z5+(1:Int)/\z5+(1:Int)<=(9223372036854775807:Int));let z0:=(T3 (K (decide (ao6 s z5.toNat≠(45:Int))) (T3 (K (decide (ao6 s z5.toNat<(48:Int))) (T4 (True/\True/\A z3)) (T4 (True/\True/\K (decide ((57:Int)<ao6 s z5.toNat)) (True/\True/\A z3) (A z2/\True/\∃ (g':Nat),A ((nmI s).pre g')/\((A (s=s)/\z1/\(A z4/\A (z5+(1:Int)=(↑g':Int)))/\True)/\True)/\A ((nmI s).meas g'<(nmI s).meas g)))))) (T3 (A z2/\True/\∃ (g':Nat),A ((nmI s).pre g')/\((A (s=s)/\z1/\(A z4/\A (z5+(1:Int)=(↑g':Int)))/\True)/\True)/\A ((nmI s).meas g'<(nmI s).meas g))))); (nmI s).pre g->True/\K (decide (z5<z6)) (T4 (A ((0:Int)<=z5/\z5<z6)/\T4 (K (decide ((97:Int)<=ao6 s z5.toNat)) (T4 (T3 (K (!decide (ao6 s z5.toNat<=(122:Int))) (T3 (K (decide (z5=(0:Int))) z7 z0)) (True/\A z2/\True/\∃ (g':Nat),A ((nmI s).pre g')/\((A (s=s)/\z1/\(A z4/\A (z5+(1:Int)=(↑g':Int)))/\True)/\True)/\A ((nmI s).meas g'<(nmI s).meas g))))) (T4 (T4 (K (decide (z5=(0:Int))) z7 z0)))))) (True/\True/\A (true=decide (isNm s))))))))) (by kernel_rfl) ?_;simp only [cln];simp only [lw,ua,ur,lI,lA];refine ⟨fun h=>(li fun hn=>by have:=hn.1.1; omega).symm,fun h1=>⟨fun h=>(li fun hn=>by have:=hn.1.2; omega).symm,fun h2=>⟨⟨0,⟨lm _,fun j hj=>absurd hj (lj _)⟩,rfl⟩,fun q hq=>⟨fun hlt=>?_,fun hge=>?_⟩⟩⟩⟩
 ·obtain ⟨q1,q2⟩:q<=s.size/\∀ j,j<q->okAt s j:=hq;have hlt:q<s.size:=by omega
  have bad:¬ okAt s q->false=decide (isNm s):=fun h=>(li fun hn=>h (hn.2 q hlt)).symm
  have step:okAt s q->(-9223372036854775808<=(q:Int)+1/\(q:Int)+1<=9223372036854775807)/\∃ g':Nat,(nmI s).pre g'/\(q:Int)+1=(g':Int)/\(nmI s).meas g'<(nmI s).meas q:=fun h=>
   ⟨by omega,q+1,⟨hlt,fun j hj=>by
    by_cases e:j=q
    ·subst e; exact h
    ·exact q2 j (by omega)⟩,by simp,(show s.size-(q+1)<s.size-q by omega)⟩
  unfold okAt at bad step;exact ⟨by omega,⟨fun h97=>⟨fun h122=>⟨fun hz=>bad (by omega),fun hz=>⟨fun h45=>⟨fun h48=>bad (by omega),fun h48=>⟨fun h57=>bad (by omega),fun h57=>step (by omega)⟩⟩,fun h45=>step (by omega)⟩⟩,fun h122=>step (by omega)⟩,
   fun h97=>⟨fun hz=>bad (by omega),fun hz=>⟨fun h45=>⟨fun h48=>bad (by omega),fun h48=>⟨fun h57=>bad (by omega),fun h57=>step (by omega)⟩⟩,fun h45=>step (by omega)⟩⟩⟩⟩
 ·obtain ⟨q1,q2⟩:q<=s.size/\∀ j,j<q->okAt s j:=hq;have:q=s.size:=by omega
  subst this;exact (lk ⟨by omega,q2⟩).symm
def fstE (e:Nat->Int):Nat->Nat->Int
 | 0,_=>0
 | m+1,k=>if e k=0 then fstE e m (k+1) else e k
theorem ay1 {e:Nat->Int}{n i:Nat}(h:i<n):fstE e (n-i) i=if e i=0 then fstE e (n-(i+1)) (i+1) else e i:=by
 rw [show n-i=(n-(i+1))+1 by omega]; rfl
theorem ay0 {e:Nat->Int}:∀ m k,fstE e m k=0->∀ j,k<=j->j<k+m->e j=0
 | 0,k,_,j,h1,h2=>by omega
 | m+1,k,h,j,h1,h2=>by
  unfold fstE at h;split at h
  ·rename_i h0;by_cases hj:j=k
   ·subst hj; exact h0
   ·exact ay0 m (k+1) h j (by omega) (by omega)
  ·rename_i h0; exact absurd h h0
theorem nd_t {A B:Prop} [Decidable A] [Decidable B]:((!(decide A&&decide B))=true)=¬ (A/\B):=by
 by_cases hA:A<;>by_cases hB:B<;>simp [hA,hB]
theorem nd_f {A B:Prop} [Decidable A] [Decidable B]:((!(decide A&&decide B))=false)=(A/\B):=by
 by_cases hA:A<;>by_cases hB:B<;>simp [hA,hB]
def rgE (f:Nat->Rn) (i:Nat):Int:=
 if ¬ ((-8192<=(f i).y/\(f i).y<8192)/\(-8192<=(f i).x0/\(f i).x0<=8192)/\ -8192<=(f i).x1/\(f i).x1<=8192) then 3 else if (f i).x1<=(f i).x0 then 4
 else if i≠0/\(f i).y<=(f (i-1)).y/\((f i).y<(f (i-1)).y\/(f i).x0<=(f (i-1)).x1) then 18 else 0
def aj0 (g:Rg):Int:=fstE (rgE g.f) g.n 0
def rcI (g:Rg):Inv:=⟨Nat,fun i=>i<=g.n/\aj0 g=fstE (rgE g.f) (g.n-i) i,fun i=>⟨[(0,rgS g),(5,rgS g),(6,.int .i64 g.n),(7,.int .i64 i)],[]⟩,fun i=>g.n-i⟩
def bs3:FSpec:=aa3 24 (γ:=Rg) (fun | [s]=>some ⟨ai9 s,rgD s⟩ | _=>none) (fun g=>[rgS g]) (fun g=>g.n<=9223372036854775807) (fun g=> .int .i64 (aj0 g))
theorem bF7:aa2 Tryz.prog bs3:=by
 refine ssW (specs:=[av1,aF3]) (⟨aD3,aI8,trivial⟩) Tryz.func24 (fun g=>(⟨[(2,.inv (rcI g))],[]⟩:Ann)) ?_;rintro g hg;refine ab2 (B:=let T4:=fun p:Prop=>True/\True/\True/\True/\p;let T5:=fun p:Prop=>True/\True/\True/\True/\True/\p;let K:=Br;let A:=Sx.Ask;let z11:=(↑g.n:Int);let z9:=((3:Int)=aj0 g);let z8:=(1:Int);let z1:=(IntKind.i64=IntKind.i64);let q1:=fun p:Int=>A z1/\A (p=p);let z6:=(q1 z11);let z0:=(A (g.n=g.n)/\∀ i:Nat,i<g.n->((True/\q1 ((g.f i).y))/\q1 ((g.f i).x0))/\q1 ((g.f i).x1));T4 ((∃ g_1:Nat,A ((rcI g).pre g_1)/\(z0/\z0/\z6/\(A z1/\A ((0:Int)=(↑g_1:Int)))/\True)/\True)/\∀ g_1:Nat,let z2:=(↑g_1:Int);let z10:=(g.f (z2-z8).toNat);let z7:=((0:Int)<=z2-z8/\z2-z8<z11);let z5:=(g.f z2.toNat);let z4:=((-9223372036854775808:Int)<=z2+z8/\z2+z8<=(9223372036854775807:Int));let z3:=((-9223372036854775808:Int)<=z2-z8/\z2-z8<=(9223372036854775807:Int)); (rcI g).pre g_1->True/\K (decide (z2<z11)) (True/\A ((0:Int)<=z2/\z2<z11)/\T5 (True/\(((q1 z5.y)/\True)/\A True)/\True/\True/\K (!(decide ((-8192:Int)<=z5.y)&&decide (z5.y<(8192:Int)))) (T5 (A z1/\A z9)) (True/\True/\(((q1 z5.x0)/\True)/\A True)/\True/\True/\True/\K (!(decide ((-8192:Int)<=z5.x0)&&decide (z5.x0<=(8192:Int)))) (True/\True/\True/\A z1/\A z9) (True/\True/\(((q1 z5.x1)/\True)/\A True)/\True/\True/\K (!(decide ((-8192:Int)<=z5.x1)&&decide (z5.x1<=(8192:Int)))) (True/\True/\A z1/\A z9) (T5 (K (decide (z5.x1<=z5.x0)) (True/\True/\A z1/\A ((4:Int)=aj0 g)) (True/\True/\True/\K (decide ((0:Int)<z2)) (T4 (A z3/\A z7/\T5 (K (decide (z5.y<=z10.y)) (T4 (A z3/\A z7/\T4 (K (decide (z5.y<z10.y)) (T4 (A z1/\A ((18:Int)=aj0 g))) (T4 (A z3/\A z7/\T5 (K (decide (z5.x0<=z10.x1)) (True/\True/\A z1/\A ((18:Int)=aj0 g)) (A z4/\True/\∃ (g':Nat),A ((rcI g).pre g')/\((z0/\z0/\z6/\(A z1/\A (z2+z8=(↑g':Int)))/\True)/\True)/\A ((rcI g).meas g'<(rcI g).meas g_1)))))))) (True/\A z4/\True/\∃ (g':Nat),A ((rcI g).pre g')/\((z0/\z0/\z6/\(A z1/\A (z2+z8=(↑g':Int)))/\True)/\True)/\A ((rcI g).meas g'<(rcI g).meas g_1))))) (True/\True/\True/\A z4/\True/\∃ (g':Nat),A ((rcI g).pre g')/\((z0/\z0/\z6/\(A z1/\A (z2+z8=(↑g':Int)))/\True)/\True)/\A ((rcI g).meas g'<(rcI g).meas g_1))))))))) (True/\True/\A z1/\A ((0:Int)=aj0 g)))) (by kernel_rfl) ?_;simp only [cln];simp only [lw,nd_t,nd_f];refine ⟨⟨0,⟨lm _,rfl⟩,rfl⟩,fun q hq=>⟨fun hlt=>?_,fun hge=>?_⟩⟩
 ·obtain ⟨q1,q2⟩:q<=g.n/\aj0 g=fstE (rgE g.f) (g.n-q) q:=hq;have hlt:q<g.n:=by omega
  rw [ay1 hlt] at q2;have bad:∀ v:Int,rgE g.f q=v->v≠0->v=aj0 g:=fun v h hv=>by rw [q2,lb (by rw [h]; exact hv),h]
  have step:rgE g.f q=0->(-9223372036854775808<=(q:Int)+1/\(q:Int)+1<=9223372036854775807)/\∃ g':Nat,(rcI g).pre g'/\(q:Int)+1=(g':Int)/\(rcI g).meas g'<(rcI g).meas q:=fun h=>
   ⟨by omega,q+1,⟨hlt,by rw [q2,lg h]⟩,by simp,(show g.n-(q+1)<g.n-q by omega)⟩
  unfold rgE at bad step;refine ⟨by omega,fun h=>bad 3 (lg (by omega)) (by decide),fun ha=>⟨fun h=>bad 3 (lg (by omega)) (by decide),fun hb=>⟨fun h=>bad 3 (lg (by omega)) (by decide),fun hc=>⟨fun h=>bad 4 (by rw [lb (by omega),lg h]) (by decide),fun hd=>⟨fun h0=>?_,fun h0=>step (by rw [lb (by omega),lb hd,lb (by omega)])⟩⟩⟩⟩⟩;have e2:((q:Int)-1).toNat=q-1:=by omega
  rw [e2];have b1 : -9223372036854775808<=(q:Int)-1/\(q:Int)-1<=9223372036854775807:=by clear bad step; omega
  have b2:0<=(q:Int)-1/\(q:Int)-1<(g.n:Int):=by clear bad step; omega
  exact ⟨b1,b2,fun hy=>⟨b1,b2,fun hy2=>bad 18 (by rw [lb (by omega),lb hd,lg (by omega)]) (by decide),fun hy2=>⟨b1,b2,fun hx=>bad 18 (by rw [lb (by omega),lb hd,lg (by omega)]) (by decide),fun hx=>step (by rw [lb (by omega),lb hd,lb (by omega)])⟩⟩,fun hy=>step (by rw [lb (by omega),lb hd,lb (by omega)])⟩
 ·obtain ⟨q1,q2⟩:q<=g.n/\aj0 g=fstE (rgE g.f) (g.n-q) q:=hq;have:q=g.n:=by omega
  subst this;rw [xB] at q2;exact q2.symm
theorem bl0 {g:Rg}(h:aj0 g=0) {i:Nat}(hi:i<g.n):((-8192<=(g.f i).y/\(g.f i).y<8192)/\(-8192<=(g.f i).x0/\(g.f i).x0<=8192)/\ -8192<=(g.f i).x1/\(g.f i).x1<=8192)/\(g.f i).x0<(g.f i).x1/\(i≠0->(g.f (i-1)).y<(g.f i).y\/((g.f (i-1)).y=(g.f i).y/\(g.f (i-1)).x1<(g.f i).x0)):=by
 have h0:=ay0 g.n 0 h i (lm _) (by omega);unfold rgE at h0;split at h0
 ·omega
 rename_i c1;split at h0
 ·omega
 rename_i c2;split at h0
 ·omega
 rename_i c3;exact ⟨xc.1 c1,by omega,fun hz=>by omega⟩
theorem bM6 {g:Rg}(h:aj0 g=0):∀ i,i<g.n->(i:Int)<=((g.f i).y+8192)*32768+((g.f i).x0+8192)
 | 0,hi=>by have:=bl0 h hi; omega
 | i+1,hi=>by
  have h1:=bM6 h i (by omega);have h2:=(bl0 h (i:=i) (by omega))
  have h3:=(bl0 h hi)
  have h4:=h3.2.2 (by omega);rw [show i+1-1=i by omega] at h4;omega
theorem vr_of {g:Rg}(h:aj0 g=0):Vr g.n g.f:=by
 refine ⟨?_,fun i hi=>(bl0 h hi).2.1,fun i hi=>?_⟩
 ·by_cases h0:g.n=0
  ·omega
  ·have h1:=bM6 h (g.n-1) (by omega);have h2:=bl0 h (i:=g.n-1) (by omega);omega
 ·have:=(bl0 h hi).2.2 (by omega)
  rwa [show i+1-1=i by omega] at this
structure SpG where
 n:Nat
 st:Nat->Stp
def spE (f:Nat->Stp) (i:Nat):Int:=if (f i).pos<0\/65536<(f i).pos then 3 else if i≠0/\(f i).pos<(f (i-1)).pos then 18 else 0
def ap9 (g:SpG):Int:=if g.n<1\/16<g.n then 2 else fstE (spE g.st) g.n 0
def spsS (g:SpG):SV:= .sl g.n 9 (fun i=>lst (stpL (g.st i)))
def scI (g:SpG):Inv:=⟨Nat,fun i=>i<=g.n/\ap9 g=fstE (spE g.st) (g.n-i) i,fun i=>⟨[(0,spsS g),(13,spsS g),(14,.int .i64 g.n),(15,.int .i64 i)],[]⟩,fun i=>g.n-i⟩
def bs0:FSpec:=aa3 75 (γ:=SpG) (fun | [s]=>some ⟨ai9 s,stpD s⟩ | _=>none) (fun g=>[spsS g]) (fun _=>True) (fun g=> .int .i64 (ap9 g))
theorem bF5:aa2 Tryz.prog bs0:=by
 refine ssW (specs:=[]) trivial Tryz.func75 (fun g=>(⟨[(4,.inv (scI g))],[]⟩:Ann)) ?_;rintro g _;refine ab2 (B:=let T4:=fun p:Prop=>True/\True/\True/\True/\p;let K:=Br;let A:=Sx.Ask;let z6:=(1:Int);let z5:=(↑g.n:Int);let z1:=(IntKind.i64=IntKind.i64);let z3:=(A z1/\A (z5=z5));let z0:=(A (g.n=g.n)/\∀ i:Nat,i<g.n->(qI (True/\A z1/\A ((g.st i).pos=(g.st i).pos)) ((g.st i).ink) ((g.st i).ink)));T4 (True/\K (decide (z5<z6)) (True/\True/\True/\A z1/\A ((2:Int)=ap9 g)) (T4 (K (decide ((16:Int)<z5)) (True/\True/\A z1/\A ((2:Int)=ap9 g)) (True/\True/\True/\(∃ g_1:Nat,A ((scI g).pre g_1)/\(z0/\z0/\z3/\(A z1/\A ((0:Int)=(↑g_1:Int)))/\True)/\True)/\∀ g_1:Nat,let z2:=(↑g_1:Int);let z4:=((-9223372036854775808:Int)<=z2+z6/\z2+z6<=(9223372036854775807:Int)); (scI g).pre g_1->True/\K (decide (z2<z5)) (True/\A ((0:Int)<=z2/\z2<z5)/\T4 (T4 (K (decide ((g.st z2.toNat).pos<(0:Int))) (True/\True/\True/\A z1/\A ((3:Int)=ap9 g)) (T4 (K (decide ((65536:Int)<(g.st z2.toNat).pos)) (True/\True/\A z1/\A ((3:Int)=ap9 g)) (True/\True/\True/\K (decide ((0:Int)<z2)) (T4 (A ((-9223372036854775808:Int)<=z2-z6/\z2-z6<=(9223372036854775807:Int))/\A ((0:Int)<=z2-z6/\z2-z6<z5)/\T4 (K (decide ((g.st z2.toNat).pos<(g.st (z2-z6).toNat).pos)) (True/\True/\A z1/\A ((18:Int)=ap9 g)) (A z4/\True/\∃ (g':Nat),A ((scI g).pre g')/\((z0/\z0/\z3/\(A z1/\A (z2+z6=(↑g':Int)))/\True)/\True)/\A ((scI g).meas g'<(scI g).meas g_1))))) (True/\A z4/\True/\∃ (g':Nat),A ((scI g).pre g')/\((z0/\z0/\z3/\(A z1/\A (z2+z6=(↑g':Int)))/\True)/\True)/\A ((scI g).meas g'<(scI g).meas g_1)))))))) (True/\True/\A z1/\A ((0:Int)=ap9 g))))))) (by kernel_rfl) ?_;delta qI
 simp only [cln];simp only [lw];refine ⟨fun h=>(lg (.inl (by omega))).symm,fun h1=>⟨fun h=>(lg (.inr (by omega))).symm,fun h2=>?_⟩⟩;have h0:ap9 g=fstE (spE g.st) g.n 0:=lb (by omega);refine ⟨⟨0,⟨lm _,h0⟩,rfl⟩,fun q hq=>⟨fun hlt=>?_,fun hge=>?_⟩⟩
 ·obtain ⟨q1,q2⟩:q<=g.n/\ap9 g=fstE (spE g.st) (g.n-q) q:=hq;have hlt:q<g.n:=by omega
  rw [ay1 hlt] at q2;have bad:∀ v:Int,spE g.st q=v->v≠0->v=ap9 g:=fun v h hv=>by rw [q2,lb (by rw [h]; exact hv),h]
  have step:spE g.st q=0->(-9223372036854775808<=(q:Int)+1/\(q:Int)+1<=9223372036854775807)/\∃ g':Nat,(scI g).pre g'/\(q:Int)+1=(g':Int)/\(scI g).meas g'<(scI g).meas q:=fun h=>
   ⟨by omega,q+1,⟨hlt,by rw [q2,lg h]⟩,by simp,(show g.n-(q+1)<g.n-q by omega)⟩
  unfold spE at bad step;refine ⟨by omega,fun h=>bad 3 (lg (.inl h)) (by decide),fun ha=>⟨fun h=>bad 3 (lg (.inr h)) (by decide),fun hb=>⟨fun hp=>?_,fun hp=>step (by rw [lb (by omega),lb (by omega)])⟩⟩⟩;have e2:((q:Int)-1).toNat=q-1:=by omega
  rw [e2];exact ⟨by clear bad step; omega,by clear bad step; omega,fun hx=>bad 18 (by rw [lb (by omega),lg (by omega)]) (by decide),fun hx=>step (by rw [lb (by omega),lb (by omega)])⟩
 ·obtain ⟨q1,q2⟩:q<=g.n/\ap9 g=fstE (spE g.st) (g.n-q) q:=hq;have:q=g.n:=by omega
  subst this;rw [xB] at q2;exact q2.symm
abbrev eqP:List (TypeId×List CK):=[(39,[.int,.int]),(44,[.int,.int,.int,.int,.int,.int]),(28,[.int,.int,.int,.int,.int,.int,.int,.int])]
theorem aQ9:bd4 Tryz.prog eqP:=⟨aw1 (m:=2) (by kernel_rfl) (by kernel_rfl) rfl (by decide) (by kernel_rfl),aw1 (m:=6) (by kernel_rfl) (by kernel_rfl) rfl (by decide) (by kernel_rfl),aw1 (m:=8) (by kernel_rfl) (by kernel_rfl) rfl (by decide) (by kernel_rfl),trivial⟩
theorem fd {p:Prop} [Decidable p]:(false=decide p)=¬ p:=by by_cases h:p<;>simp [h]
theorem dd {a p:Prop} [Decidable a] [Decidable p]:(decide a=decide p)=(a<->p):=by by_cases h:a<;>by_cases k:p<;>simp [h,k]
def isZ (s:Src):Prop:=(s.fx=0/\s.fy=0)/\(s.tx=0/\s.ty=0)/\s.rad=0/\s.ns=0
instance (s:Src):Decidable (isZ s):=inferInstanceAs (Decidable (_/\_))
def br8:FSpec:=aa3 50 (γ:=Src) (fun | [.agg _ g]=>some (srcD g) | _=>none) (fun s=>[srcS s]) (fun _=>True) (fun s=> .bool (decide (isZ s)))
theorem bv1:aa2 Tryz.prog br8:=by
 refine seW (specs:=[]) trivial (eqs:=eqP) aQ9 Tryz.func50 (fun g=>A0) ?_;rintro s _;refine ab2 (B:=let T7:=fun p:Prop=>True/\True/\True/\True/\True/\True/\True/\p;let A:=Sx.Ask;let z0:=(false=decide (isZ s));T7 (Br (decide (s.fx=(0:Int))&&(decide (s.fy=(0:Int))&&true)) (True/\True/\True/\True/\True/\True/\Br (decide (s.tx=(0:Int))&&(decide (s.ty=(0:Int))&&true)) (True/\True/\True/\True/\True/\Br (decide (s.rad=(0:Int))) (T7 (A (decide ((↑s.ns:Int)=(0:Int))=decide (isZ s)))) (True/\True/\True/\A z0)) (True/\True/\True/\True/\True/\A z0)) (T7 (A z0)))) (by kernel_rfl) ?_;simp only [cln];simp only [fd,dd,uw,lr,xS,lA,lI,isZ];grind
def isNI (g:ImgG):Prop:=(g.w=0/\g.h=0)/\(g.n=0/\g.sn=0)/\(g.m.a=0/\g.m.b=0/\g.m.c=0/\g.m.d=0/\g.m.e=0/\g.m.f=0)/\g.smooth=false/\g.rep=false
instance (g:ImgG):Decidable (isNI g):=inferInstanceAs (Decidable (_/\_))
def a86:FSpec:=aa3 51 (γ:=ImgG) (fun | [.agg _ g]=>some (imgD g) | _=>none) (fun g=>[imgS g]) (fun _=>True) (fun g=> .bool (decide (isNI g)))
theorem bg3:aa2 Tryz.prog a86:=by
 refine seW (specs:=[]) trivial (eqs:=eqP) aQ9 Tryz.func51 (fun g=>A0) ?_;rintro g _;refine ab2 (B:=let T5:=fun p:Prop=>True/\True/\True/\True/\True/\p;let T6:=fun p:Prop=>True/\True/\True/\True/\True/\True/\p;let K:=Br;let A:=Sx.Ask;let z1:=(0:Int);let z0:=(false=decide (isNI g));T6 (K (decide (g.w=z1)) (T5 (K (decide (g.h=z1)) (T6 (K (decide ((↑g.n:Int)=z1)) (T6 (K (decide ((↑g.sn:Int)=z1)) (T6 (K (decide (g.m.a=z1)&&(decide (g.m.b=z1)&&(decide (g.m.c=z1)&&(decide (g.m.d=z1)&&(decide (g.m.e=z1)&&(decide (g.m.f=z1)&&true)))))) (T5 (K (!g.smooth) (T6 (A ((!g.rep)=decide (isNI g)))) (True/\True/\True/\A z0))) (T5 (A z0)))) (T6 (True/\A z0)))) (T6 (True/\True/\True/\A z0)))) (T6 (T5 (A z0))))) (T6 (T6 (True/\A z0))))) (by kernel_rfl) ?_;simp only [cln];cases hs:g.smooth<;>cases hr:g.rep<;>simp only [fd,dd,Bool.not_true,Bool.not_false,uw,lr,xS,lA,lI,isNI,hs,hr,eq_self,uW,xC,lag,xp,true_implies,lL,reduceCtorEq,and_false,uX,eq_comm (a:=true),lA]<;>omega
def noI (k:Ink):Prop:=k.c0=0/\k.c1=0/\k.c2=0/\k.c3=0/\k.c4=0/\k.c5=0/\k.c6=0/\k.c7=0
instance (k:Ink):Decidable (noI k):=inferInstanceAs (Decidable (_/\_))
def isNS (s:Src):Prop:=s.kind=0/\noI s.ink/\isZ s/\isNI s.img
instance (s:Src):Decidable (isNS s):=inferInstanceAs (Decidable (_/\_))
def bs6:FSpec:=aa3 35 (γ:=Src) (fun | [.agg _ g]=>some (srcD g) | _=>none) (fun s=>[srcS s]) (fun _=>True) (fun s=> .bool (decide (isNS s)))
theorem bG1:aa2 Tryz.prog bs6:=by
 refine seW (specs:=[br8,a86]) (⟨bv1,bg3,trivial⟩) (eqs:=eqP) aQ9 Tryz.func35 (fun g=>A0) ?_;rintro s _;refine ab2 (B:=let A:=Sx.Ask;let z1:=(0:Int);let z0:=(false=decide (isNS s));True/\True/\True/\True/\True/\True/\Br (decide (s.kind=z1)) (True/\True/\True/\True/\True/\True/\Br (decide (s.ink.c0=z1)&&(decide (s.ink.c1=z1)&&(decide (s.ink.c2=z1)&&(decide (s.ink.c3=z1)&&(decide (s.ink.c4=z1)&&(decide (s.ink.c5=z1)&&(decide (s.ink.c6=z1)&&(decide (s.ink.c7=z1)&&true)))))))) (True/\(((qS True s s)/\True)/\A True)/\True/\True/\Br (decide (isZ s)) (True/\True/\(((qG True s.img s.img)/\True)/\A True)/\True/\True/\True/\A (decide (isNI s.img)=decide (isNS s))) (True/\True/\True/\A z0)) (True/\True/\True/\True/\True/\A z0)) (True/\True/\True/\True/\True/\True/\True/\A z0)) (by kernel_rfl) ?_;delta qG qI qM qS
 simp only [cln];simp only [fd,dd,uw,lr,xS,lA,lI,isNS,noI];grind
structure WnG where
 n:Nat
 f:Nat->Int
def wnS (g:WnG):SV:= .sl g.n 1 (fun i _=> .int .i64 (g.f i))
def isWn (g:WnG):Prop:=∀ i,i<g.n-> -32767<=g.f i/\g.f i<=32767
instance (g:WnG):Decidable (isWn g):=inferInstanceAs (Decidable (∀ i,i<g.n->_))
def wnI (g:WnG):Inv:=⟨Nat,fun i=>i<=g.n/\∀ j,j<i-> -32767<=g.f j/\g.f j<=32767,fun i=>⟨[(5,wnS g),(6,.int .i64 g.n),(7,.int .i64 i)],[]⟩,fun i=>g.n-i⟩
def spWn:FSpec:=aa3 74 (γ:=WnG) (fun | [s]=>some ⟨ai9 s,bM4 0 s⟩ | _=>none) (fun g=>[wnS g]) (fun g=>g.n<=1000) (fun g=> .bool (decide (isWn g)))
theorem ok_wn:aa2 Tryz.prog spWn:=by
 refine ssW (specs:=[]) trivial Tryz.func74 (fun g=>(⟨[(2,.inv (wnI g))],[]⟩:Ann)) ?_;rintro g hg;refine ab2 (B:=let A:=Sx.Ask;let z0:=(IntKind.i64=IntKind.i64);let z3:=(A z0/\A ((↑g.n:Int)=(↑g.n:Int)));let z1:=(A (g.n=g.n)/\∀ i:Nat,i<g.n->True/\A z0/\A (g.f i=g.f i));True/\True/\True/\True/\(∃ g_1:Nat,A ((wnI g).pre g_1)/\(z1/\z3/\(A z0/\A ((0:Int)=(↑g_1:Int)))/\True)/\True)/\∀ g_1:Nat,let z2:=(↑g_1:Int); (wnI g).pre g_1->True/\Br (decide (z2<(↑g.n:Int))) (A ((0:Int)<=z2/\z2<(↑g.n:Int))/\True/\True/\True/\True/\True/\Br (decide (g.f z2.toNat<(-32767:Int))) (True/\True/\True/\A (false=decide (isWn g))) (True/\True/\True/\Br (decide ((32767:Int)<g.f z2.toNat)) (True/\True/\A (false=decide (isWn g))) (A ((-9223372036854775808:Int)<=z2+(1:Int)/\z2+(1:Int)<=(9223372036854775807:Int))/\True/\∃ (g':Nat),A ((wnI g).pre g')/\((z1/\z3/\(A z0/\A (z2+(1:Int)=(↑g':Int)))/\True)/\True)/\A ((wnI g).meas g'<(wnI g).meas g_1)))) (True/\True/\A (true=decide (isWn g)))) (by kernel_rfl) ?_;simp only [cln];simp only [lw];refine ⟨⟨0,⟨lm _,fun j hj=>absurd hj (lj _)⟩,rfl⟩,fun q hq=>⟨fun hlt=>?_,fun hge=>?_⟩⟩
 ·obtain ⟨q1,q2⟩:q<=g.n/\∀ j,j<q-> -32767<=g.f j/\g.f j<=32767:=hq;have hlt:q<g.n:=by omega
  have bad:¬ (-32767<=g.f q/\g.f q<=32767)->false=decide (isWn g):=fun h=>(li fun hn=>h (hn q hlt)).symm
  refine ⟨by omega,fun h=>bad (by omega),fun h=>⟨fun h2=>bad (by omega),fun h2=>⟨by omega,q+1,⟨hlt,fun j hj=>?_⟩,by simp,(show g.n-(q+1)<g.n-q by omega)⟩⟩⟩;by_cases e:j=q
  ·subst e; omega
  ·exact q2 j (by omega)
 ·obtain ⟨q1,q2⟩:q<=g.n/\∀ j,j<q-> -32767<=g.f j/\g.f j<=32767:=hq;have:q=g.n:=by omega
  subst this;exact (lk (show isWn g from q2)).symm
def bs4:FSpec:=aa3 73 (γ:=ImgG) (fun | [.agg _ g]=>some (imgD g) | _=>none) (fun g=>[imgS g]) (fun _=>True) (fun g=> .bool (decide (isNI g)))
theorem bF8:aa2 Tryz.prog bs4:=by
 refine seW (specs:=[]) trivial (eqs:=eqP) aQ9 Tryz.func73 (fun g=>A0) ?_;rintro g _;refine ab2 (B:=let T5:=fun p:Prop=>True/\True/\True/\True/\True/\p;let T6:=fun p:Prop=>True/\True/\True/\True/\True/\True/\p;let K:=Br;let A:=Sx.Ask;let z1:=(0:Int);let z0:=(false=decide (isNI g));T6 (K (decide (g.w=z1)) (T5 (K (decide (g.h=z1)) (T6 (K (decide ((↑g.n:Int)=z1)) (T6 (K (decide ((↑g.sn:Int)=z1)) (T6 (K (decide (g.m.a=z1)&&(decide (g.m.b=z1)&&(decide (g.m.c=z1)&&(decide (g.m.d=z1)&&(decide (g.m.e=z1)&&(decide (g.m.f=z1)&&true)))))) (T5 (K (!g.smooth) (T6 (A ((!g.rep)=decide (isNI g)))) (True/\True/\True/\A z0))) (T5 (A z0)))) (T6 (True/\A z0)))) (T6 (True/\True/\True/\A z0)))) (T6 (T5 (A z0))))) (T6 (T6 (True/\A z0))))) (by kernel_rfl) ?_;simp only [cln];cases hs:g.smooth<;>cases hr:g.rep<;>simp only [fd,dd,Bool.not_true,Bool.not_false,uw,lr,xS,lA,lI,isNI,hs,hr,eq_self,uW,xC,lag,xp,true_implies,lL,reduceCtorEq,and_false,uX,eq_comm (a:=true),lA]<;>omega
end Lck
set_option linter.unusedSimpArgs false
set_option linter.unusedVariables false
namespace Lgr
open Go.RowKit Sx Num Aff Afi Img Imh Rga Blend Ble Lsg Lta Lrd Lri Luc Lck
set_option maxRecDepth 100000
def grE (s:Src):Int:=
 if s.kind≠1/\s.kind≠2 then 14
 else if ¬ noI s.ink\/¬ isNI s.img\/(s.kind=1/\s.rad≠0)\/(s.kind≠1/\¬ (s.tx=0/\s.ty=0)) then 4
 else if ¬ ((-32767<=s.fx/\s.fx<=32767)/\(-32767<=s.fy/\s.fy<=32767)/\(-32767<=s.tx/\s.tx<=32767)/\ -32767<=s.ty/\s.ty<=32767) then 3
 else if s.kind=1/\s.fx=s.tx/\s.fy=s.ty then 1
 else if s.kind≠1/\(s.rad<1\/32767<s.rad) then 3 else ap9 ⟨s.ns,s.st⟩
def bL5:FSpec:=aa3 53 (γ:=Src) (fun | [.agg _ g]=>some (srcD g) | _=>none) (fun s=>[srcS s]) (fun _=>True) (fun s=> .int .i64 (grE s))
theorem wn4 (a b c d:Int):isWn ⟨4,fun i=>bif decide (i=3) then d else bif decide (i=2) then c else bif decide (i=1) then b else a⟩<->((-32767<=a/\a<=32767)/\(-32767<=b/\b<=32767)/\(-32767<=c/\c<=32767)/\ -32767<=d/\d<=32767):=by
 refine ⟨fun h=>⟨h 0 (show (0:Nat)<4 by decide),h 1 (show (1:Nat)<4 by decide),h 2 (show (2:Nat)<4 by decide),h 3 (show (3:Nat)<4 by decide)⟩,fun ⟨h0,h1,h2,h3⟩ i hi=>?_⟩;have hi:i<4:=hi;match i,hi with
 | 0,_=>exact h0
 | 1,_=>exact h1
 | 2,_=>exact h2
 | 3,_=>exact h3
theorem bT1:aa2 Tryz.prog bL5:=by
 refine seW (specs:=[bs4,giv spWn,bs0]) (⟨bF8,bO6 ok_wn,bF5,trivial⟩) (eqs:=Lck.eqP) aQ9 Tryz.func53 (fun g=>A0) ?_;rintro s _;refine ab2 (B:=let T2:=fun p:Prop=>True/\True/\p;let T5:=fun p:Prop=>True/\True/\True/\True/\True/\p;let T6:=fun p:Prop=>True/\True/\True/\True/\True/\True/\p;let K:=Br;let A:=Sx.Ask;let z17:=(s.kind=(1:Int));let z16:=(ap9 (SpG.mk s.ns s.st)=grE s);let z15:=((4:Int)=grE s);let z14:=(0:Int);let z11:=(!decide z17);let z9:=(!decide (isWn (WnG.mk (4:Nat) fun (i:Nat)=>bif decide (i=(3:Nat)) then s.ty else bif decide (i=(2:Nat)) then s.tx else bif decide (i=(1:Nat)) then s.fy else s.fx)));let z8:=(!(decide (s.ink.c0=z14)&&(decide (s.ink.c1=z14)&&(decide (s.ink.c2=z14)&&(decide (s.ink.c3=z14)&&(decide (s.ink.c4=z14)&&(decide (s.ink.c5=z14)&&(decide (s.ink.c6=z14)&&(decide (s.ink.c7=z14)&&true)))))))));let z5:=(IntKind.i64=IntKind.i64);let z13:=(T6 (True/\A z5/\A z15));let z12:=(T2 (A z5/\A ((3:Int)=grE s)));let z7:=(((A (s.ns=s.ns)/\∀ i:Nat,i<s.ns->(qI (True/\A z5/\A ((s.st i).pos=(s.st i).pos)) ((s.st i).ink) ((s.st i).ink)))/\True)/\A True);let z10:=(T2 (T2 (z7/\T2 (A z5/\A z16))));let z3:=(T2 (T2 (K (decide (s.rad<(1:Int))) (T5 (A z5/\A ((3:Int)=grE s))) (T6 (K (decide ((32767:Int)<s.rad)) z12 (T2 (z7/\T2 (A z5/\A z16))))))));let z2:=(((A ((4:Nat)=(4:Nat))/\∀ i:Nat,i<(4:Nat)->True/\A z5/\A ((bif decide (i=(3:Nat)) then s.ty else bif decide (i=(2:Nat)) then s.tx else bif decide (i=(1:Nat)) then s.fy else s.fx)=bif decide (i=(3:Nat)) then s.ty else bif decide (i=(2:Nat)) then s.tx else bif decide (i=(1:Nat)) then s.fy else s.fx))/\True)/\A ((4:Nat)<=(1000:Nat)));let z0:=(T2 (K (decide z17) (T6 (True/\K (decide (s.fx=s.tx)&&(decide (s.fy=s.ty)&&true)) (T2 (A z5/\A ((1:Int)=grE s))) (T2 (True/\K z11 z3 z10)))) (T5 (K z11 z3 z10))));let z6:=(T6 (T6 (T2 (True/\z2/\T2 (K z9 z12 z0)))));let z4:=(T6 (K (!(decide (s.tx=z14)&&(decide (s.ty=z14)&&true))) (T2 (A z5/\A z15)) (T6 (T6 (True/\z2/\T2 (K z9 z12 z0))))));let z1:=(T2 ((((qG True s.img s.img)/\True)/\A True)/\T2 (True/\K (!decide (isNI s.img)) (T5 (A z5/\A z15)) (T2 (K (decide z17) (T6 (K (decide (s.rad≠z14)) (T2 (True/\A z5/\A z15)) (T2 (True/\K z11 z4 z6)))) (T6 (K z11 z4 z6)))))));T6 (T2 (True/\K z11 (T2 (T2 (K (decide (s.kind≠(2:Int))) (T2 (A z5/\A ((14:Int)=grE s))) (T5 (K z8 z13 z1))))) (T6 (K z8 z13 z1))))) (by kernel_rfl) ?_;delta qG qI qM
 simp only [cln];simp only [wn4,uw,ua,ur,lr,xS,lA,lI];have e14:(s.kind≠1/\s.kind≠2)->14=grE s:=fun h=>by unfold grE; rw [lg h]
 have e4:¬ (s.kind≠1/\s.kind≠2)->(¬ noI s.ink\/¬ isNI s.img\/(s.kind=1/\s.rad≠0)\/(s.kind≠1/\¬ (s.tx=0/\s.ty=0)))->4=grE s:=fun h h2=>by unfold grE; rw [lb h,lg h2]
 have e3:¬ (s.kind≠1/\s.kind≠2)->¬ (¬ noI s.ink\/¬ isNI s.img\/(s.kind=1/\s.rad≠0)\/(s.kind≠1/\¬ (s.tx=0/\s.ty=0)))->¬ ((-32767<=s.fx/\s.fx<=32767)/\(-32767<=s.fy/\s.fy<=32767)/\(-32767<=s.tx/\s.tx<=32767)/\ -32767<=s.ty/\s.ty<=32767)->3=grE s:=fun h h2 h3=>by
  unfold grE; rw [lb h,lb h2,lg h3]
 have rest:¬ (s.kind≠1/\s.kind≠2)->¬ (¬ noI s.ink\/¬ isNI s.img\/(s.kind=1/\s.rad≠0)\/(s.kind≠1/\¬ (s.tx=0/\s.ty=0)))->¬ ¬ ((-32767<=s.fx/\s.fx<=32767)/\(-32767<=s.fy/\s.fy<=32767)/\(-32767<=s.tx/\s.tx<=32767)/\ -32767<=s.ty/\s.ty<=32767)->
   ((s.kind=1/\s.fx=s.tx/\s.fy=s.ty)->1=grE s)/\(¬ (s.kind=1/\s.fx=s.tx/\s.fy=s.ty)->((s.kind≠1/\(s.rad<1\/32767<s.rad))->3=grE s)/\(¬ (s.kind≠1/\(s.rad<1\/32767<s.rad))->ap9 ⟨s.ns,s.st⟩=grE s)):=fun h h2 h3=>by
  unfold grE;rw [lb h,lb h2,lb h3];refine ⟨fun h4=>by rw [lg h4],fun h4=>⟨fun h5=>by rw [lb h4,lg h5],fun h5=>by rw [lb h4,lb h5]⟩⟩
 unfold noI at e4 e3 rest;generalize isNI s.img=I at *
 generalize ap9 ⟨s.ns,s.st⟩=C at *
 generalize grE s=G at *
 by_cases hI:I<;>by_cases k1:s.kind=1<;>simp only [hI,k1,uj,uX,false_and,xD,false_or,uk,true_or,or_true,and_false,xC,uW,lag,xp,true_implies,ne_eq] at e14 e4 e3 rest ⊢
 all_goals grind
end Lgr
end Go.Proofs.YthappngbapbkfaaGreat
