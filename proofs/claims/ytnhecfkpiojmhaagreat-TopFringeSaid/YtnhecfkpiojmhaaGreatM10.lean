import Derived.Test.YtnhecfkpiojmhaaGreatM9
set_option linter.all false
noncomputable section
open Go.ConcN (sumTo upd sumTo_upd upd_ne upd_same)
/- Part 10. -/
namespace Go.Proofs.YtnhecfkpiojmhaaGreat
namespace Hid
open Go.RowKit Go.Conc
structure Area where
 Bx:Nat->Prop
 Wg:Nat
 Ch:Nat
 Shun:Loc->Prop
 n:Nat
def st0(Wg:Nat):Addr:=⟨Wg,0,none⟩
namespace Area
variable (A:Area)
def hid(l:Loc):Prop:=(∃a,l=.cell a/\(A.Bx a.block\/a.block=A.Wg))\/l=.obj A.Ch
def qn(x:Touch):Prop:=(∃a,x.loc=.cell a/\A.Bx a.block/\x.write=false/\x.kind=.plain)\/(∃a,x.loc=.cell a/\a.block=A.Wg/\x.kind=.atomic)\/(x.loc=.obj A.Ch/\x.kind=.atomic)
def q0(x:Touch):Prop:=(∃a,x.loc=.cell a/\A.Bx a.block/\x.write=false/\x.kind=.plain)\/(∃a,x.loc=.cell a/\a.block=A.Wg/\x.kind≠.plain)\/(x.loc=.obj A.Ch/\x.kind=.atomic)
def ok0(x:MemAct):Prop:=(∀b,x.touch?=some b->A.q0 b)/\x≠.mark (.release (st0 A.Wg))
def okn(x:MemAct):Prop:=(∀b,x.touch?=some b->(¬ A.hid b.loc/\(A.Shun b.loc->b.kind≠.plain))\/A.qn b)/\x≠.mark (.release (st0 A.Wg))
end Area
structure Apart(A:Area):Prop where
 bx:∀b,A.Bx b->b≠A.Wg
 shun:∀l,A.Shun l->¬ A.hid l
 n:0<A.n
structure TI(A:Area)(B:Nat)(t:Trace):Prop where
 clean:∀said,¬ Race said t
 k0:∀i a,touchAt t i=some a->a.loc.isMemory=true->Knows t 0 i\/(A.Shun a.loc/\a.kind=.atomic)\/(t.g? i=some A.n/\((¬ A.hid a.loc/\(A.Shun a.loc->a.kind≠.plain))\/A.qn a))
 kn:∀i a,touchAt t i=some a->a.loc.isMemory=true->Knows t A.n i\/(A.Shun a.loc/\a.kind=.atomic)\/(t.g? i=some 0/\A.q0 a)
 over:∀i g,t.g? i=some g->g≠0->t.counts i->(∃j,t.g? j=some 0/\HappensBefore t i j)\/g=A.n
 norel:NoRelease (st0 A.Wg) t
 seen:∀op∈t,op.act.low B
section
variable {A:Area}{B:Nat}{t:Trace}
theorem bB0{a:Touch}(h:¬ A.hid a.loc):¬ A.q0 a:=by
 rintro(⟨x,h1,h2,_⟩|⟨x,h1,h2,_⟩|⟨h1,_⟩)
 ·exact h (.inl ⟨x,h1,.inl h2⟩)
 ·exact h (.inl ⟨x,h1,.inr h2⟩)
 ·exact h (.inr h1)
theorem be0{a:Touch}(h:A.q0 a):A.hid a.loc:=lz λhn=>bB0 hn h
theorem co7{a:Touch}(h:A.qn a):A.hid a.loc:=by
 rcases h with⟨x,h1,h2,_⟩|⟨x,h1,h2,_⟩|⟨h1,_⟩
 ·exact .inl ⟨x,h1,.inl h2⟩
 ·exact .inl ⟨x,h1,.inr h2⟩
 ·exact .inr h1
theorem am7(hA:Apart A){said:Bool}{a b:Touch}(h:A.q0 a)(k:A.qn b):¬ a.conflicts said b/\¬ b.conflicts said a:=by
 have key:a.loc=b.loc->(a.write=false/\b.write=false)\/(a.kind≠.plain/\b.kind=.atomic):=λe=>by
  rcases h with⟨x,h1,h2,h3,h4⟩|⟨x,h1,h2,h3⟩|⟨h1,h2⟩<;>rcases k with⟨y,k1,k2,k3,k4⟩|⟨y,k1,k2,k3⟩|⟨k1,k2⟩
  ·exact .inl ⟨h3,k3⟩
  ·rw[h1,k1]at e;cases e;exact absurd k2 (hA.bx _ h2)
  ·rw[h1,k1]at e;cases e
  ·rw[h1,k1]at e;cases e;exact absurd h2 (hA.bx _ k2)
  ·exact .inr ⟨h3,k3⟩
  ·rw[h1,k1]at e;cases e
  ·rw[h1,k1]at e;cases e
  ·rw[h1,k1]at e;cases e
  ·exact .inr ⟨by rw[h2];simp,k2⟩
 refine⟨λhc=>?_,λhc=>?_⟩
 ·rcases key hc.1 with⟨e1,e2⟩|⟨e1,e2⟩
  ·rcases hc.2.2.1 with x|x
   ·rw[e1]at x;cases x
   ·rw[e2]at x;cases x
  ·rcases hc.2.2.2 with x|x|⟨_,_,x⟩
   ·exact e1 x
   ·rw[e2]at x;cases x
   ·rw[e2]at x;cases x
 ·rcases key hc.1.symm with⟨e1,e2⟩|⟨e1,e2⟩
  ·rcases hc.2.2.1 with x|x
   ·rw[e2]at x;cases x
   ·rw[e1]at x;cases x
  ·rcases hc.2.2.2 with x|x|⟨_,x,_⟩
   ·rw[e2]at x;cases x
   ·exact e1 x
   ·rw[e2]at x;cases x
theorem aX4{u:Trace}{i:Nat}{op:MemOp}(hi:u[i]?=some op)(hn:op.act.touch?=none):¬ u.counts i:=by
 rintro⟨x,hx,_⟩;obtain⟨op',h1,h2⟩:=touch_of hx;rw[hi]at h1;cases h1;rw[hn]at h2;cases h2
theorem an9{u:Trace}{i g:Nat}(h:t.g? i=some g):(t++u).g? i=some g:=by
 obtain⟨op,ho,_⟩:=xl.1 h;rw[g?_old (lt_size_of_getElem? ho)];exact h
theorem aw6{C:Nat->Nat->Prop}{u:Trace}(h:∀i g,t.g? i=some g->g≠0->t.counts i->(∃j,t.g? j=some 0/\HappensBefore t i j)\/C i g)
  (hu:∀i op,t.size<=i->(t++u)[i]?=some op->op.g≠0->(t++u).counts i->C i op.g):
  ∀i g,(t++u).g? i=some g->g≠0->(t++u).counts i->(∃j,(t++u).g? j=some 0/\HappensBefore (t++u) i j)\/C i g:=by
 intro i g hg hne hc;obtain⟨op,hop,rfl⟩:=xl.1 hg;rcases getElem?_append_cases hop with⟨hi,hop'⟩|⟨hi,_⟩
 ·refine(h i op.g (by simp[Trace.g?,hop']) hne ((counts_old hi).1 hc)).imp (λ⟨j,hj,hb⟩=>⟨j,an9 hj,hb_app u hb⟩) id
 ·exact .inr (hu i op hi hop hne hc)
theorem TI.mute(h:TI A B t){u:Trace}(hn:∀op∈u,op.act.touch?=none)(hr:∀op∈u,op.act≠.mark (.release (st0 A.Wg)))(hl:∀op∈u,op.act.low B):TI A B (t++u):=by
 have old:∀i a,touchAt (t++u) i=some a->touchAt t i=some a/\i<t.size:=λi a ha=>by
  obtain⟨x,hx,hxa⟩:=touch_of ha;rcases getElem?_append_cases hx with⟨hi,hx'⟩|⟨_,hxu⟩
  ·exact⟨by rw[touchAt_of hx'];exact hxa,hi⟩
  ·rw[hn x hxu]at hxa;cases hxa
 refine⟨λsaid=>?_,λi a ha hm=>?_,λi a ha hm=>?_,?_,h.norel.app hr,seen_app h.seen hl⟩
 ·rintro⟨i,j,hij,⟨a,b,ha,hb,hc⟩,n1,n2⟩;obtain⟨ha',hi⟩:=old i a ha;obtain⟨hb',hj⟩:=old j b hb;exact h.clean said ⟨i,j,hij,⟨a,b,ha',hb',hc⟩,λe=>n1 (hb_app u e),λe=>n2 (hb_app u e)⟩
 ·obtain⟨ha',hi⟩:=old i a ha;rcases h.k0 i a ha' hm with x|x|⟨x,y⟩
  ·exact .inl (x.app u)
  ·exact .inr (.inl x)
  ·exact .inr (.inr ⟨an9 x,y⟩)
 ·obtain⟨ha',hi⟩:=old i a ha;rcases h.kn i a ha' hm with x|x|⟨x,y⟩
  ·exact .inl (x.app u)
  ·exact .inr (.inl x)
  ·exact .inr (.inr ⟨an9 x,y⟩)
 ·refine aw6 h.over λi op hi hop hne hc=>?_
  rcases getElem?_append_cases hop with⟨h1,_⟩|⟨_,hm⟩
  ·omega
  ·exact absurd hc (aX4 hop (hn op hm))
theorem TI.app0(hA:Apart A)(h:TI A B t){B':Nat}(hB:B<=B'){u:Trace}(hg:∀op∈u,op.g=0)(hu:∀op∈u,A.ok0 op.act)(hl:∀op∈u,op.act.low B'):TI A B' (t++u):=by
 refine⟨λsaid=>noRace_append (h.clean said) hg λi a ha op hop b hb hc=>?_,λi a ha hm=>?_,λi a ha hm=>?_,?_,h.norel.app λop hop=>(hu op hop).2,seen_app (λop hop=>MemAct.low_mono hB (h.seen op hop)) hl⟩
 ·have hq:=(hu op hop).1 b hb;rcases h.k0 i a ha hc.2.1 with x|⟨x,y⟩|⟨_,x|x⟩
  ·exact x
  ·exact absurd (be0 hq) (by rw[<-hc.1];exact hA.shun _ x)
  ·exact absurd (be0 hq) (by rw[<-hc.1];exact x.1)
  ·exact absurd hc (am7 hA hq x).2
 ·obtain⟨x,hx,hxa⟩:=touch_of ha;rcases getElem?_append_cases hx with⟨hi,hx'⟩|⟨_,hxu⟩
  ·rcases h.k0 i a (by rw[touchAt_of hx'];exact hxa) hm with x|x|⟨x,y⟩
   ·exact .inl (x.app u)
   ·exact .inr (.inl x)
   ·exact .inr (.inr ⟨an9 x,y⟩)
  ·have:=knows_own hx
   rw[hg x hxu]at this;exact .inl this
 ·obtain⟨x,hx,hxa⟩:=touch_of ha;rcases getElem?_append_cases hx with⟨hi,hx'⟩|⟨_,hxu⟩
  ·rcases h.kn i a (by rw[touchAt_of hx'];exact hxa) hm with x|x|⟨x,y⟩
   ·exact .inl (x.app u)
   ·exact .inr (.inl x)
   ·exact .inr (.inr ⟨an9 x,y⟩)
  ·exact .inr (.inr ⟨by simp[Trace.g?,hx,hg x hxu],(hu x hxu).1 a hxa⟩)
 ·refine aw6 h.over λi op hi hop hne hc=>?_
  rcases getElem?_append_cases hop with⟨h1,_⟩|⟨_,hm⟩
  ·omega
  ·exact absurd (hg op hm) hne
theorem TI.appn(hA:Apart A)(h:TI A B t){B':Nat}(hB:B<=B'){u:Trace}(hg:∀op∈u,op.g=A.n)(hu:∀op∈u,A.okn op.act)(hl:∀op∈u,op.act.low B'):TI A B' (t++u):=by
 refine⟨λsaid=>noRace_append (h.clean said) hg λi a ha op hop b hb hc=>?_,λi a ha hm=>?_,λi a ha hm=>?_,?_,h.norel.app λop hop=>(hu op hop).2,seen_app (λop hop=>MemAct.low_mono hB (h.seen op hop)) hl⟩
 ·rcases h.kn i a ha hc.2.1 with x|⟨x,y⟩|⟨_,x⟩
  ·exact x
  ·rcases(hu op hop).1 b hb with⟨hv,hs⟩|hv
   ·exfalso;have hs:=hs (hc.1▸x);obtain⟨_,_,_,hcase⟩:=hc;rw[y]at hcase;rcases hcase with z|z|⟨_,z,_⟩
    ·cases z
    ·exact hs z
    ·cases z
   ·exact absurd (co7 hv) (by rw[<-hc.1];exact hA.shun _ x)
  ·rcases(hu op hop).1 b hb with⟨hv,_⟩|hv
   ·exact absurd (be0 x) (by rw[hc.1];exact hv)
   ·exact absurd hc (am7 hA x hv).1
 ·obtain⟨x,hx,hxa⟩:=touch_of ha;rcases getElem?_append_cases hx with⟨hi,hx'⟩|⟨_,hxu⟩
  ·rcases h.k0 i a (by rw[touchAt_of hx'];exact hxa) hm with x|x|⟨x,y⟩
   ·exact .inl (x.app u)
   ·exact .inr (.inl x)
   ·exact .inr (.inr ⟨an9 x,y⟩)
  ·exact .inr (.inr ⟨by simp[Trace.g?,hx,hg x hxu],(hu x hxu).1 a hxa⟩)
 ·obtain⟨x,hx,hxa⟩:=touch_of ha;rcases getElem?_append_cases hx with⟨hi,hx'⟩|⟨_,hxu⟩
  ·rcases h.kn i a (by rw[touchAt_of hx'];exact hxa) hm with x|x|⟨x,y⟩
   ·exact .inl (x.app u)
   ·exact .inr (.inl x)
   ·exact .inr (.inr ⟨an9 x,y⟩)
  ·have:=knows_own hx
   rw[hg x hxu]at this;exact .inl this
 ·refine aw6 h.over λi op hi hop hne hc=>?_
  rcases getElem?_append_cases hop with⟨h1,_⟩|⟨_,hm⟩
  ·omega
  ·exact hg op hm
def Area.atWg(A:Area)(x:Touch):Prop:=∃a,x.loc=.cell a/\a.block=A.Wg/\x.kind=.atomic
structure TJ(A:Area)(B r:Nat)(t:Trace):Prop where
 clean:∀said,¬ Race said t
 k0:∀i a,touchAt t i=some a->a.loc.isMemory=true->Knows t 0 i\/(A.Shun a.loc/\a.kind=.atomic)\/(t.g? i=some A.n/\((¬ A.hid a.loc/\(A.Shun a.loc->a.kind≠.plain))\/A.qn a)/\i<r)\/A.atWg a
 kn:∀i a,touchAt t i=some a->a.loc.isMemory=true->Knows t A.n i\/(A.Shun a.loc/\a.kind=.atomic)\/(t.g? i=some 0/\A.q0 a)
 over:∀i g,t.g? i=some g->g≠0->t.counts i->(∃j,t.g? j=some 0/\HappensBefore t i j)\/(g=A.n/\i<r)
 norel:NoRelease (st0 A.Wg) t
 seen:∀op∈t,op.act.low B
 rel:t.act? r=some (.mark (.releaseMerge (st0 A.Wg)))/\t.g? r=some A.n/\t.heard r
theorem TI.release(h:TI A B t)(hW:A.Wg<B)(hd:Deaf t A.n=0)(fn:FuncId)(pos:String):TJ A B t.size (t++#[{g:=A.n,fn,pos,act:= .mark (.releaseMerge (st0 A.Wg))}]):=by
 have k:TI A B (t++#[{g:=A.n,fn,pos,act:= .mark (.releaseMerge (st0 A.Wg))}]):=h.mute (λop hop=>by simp at hop;subst hop;rfl) (λop hop=>by simp at hop;subst hop;simp) (λop hop=>by simp at hop;subst hop;exact hW);have hy:(t++#[({g:=A.n,fn,pos,act:= .mark (.releaseMerge (st0 A.Wg))}:MemOp)])[t.size]?=some {g:=A.n,fn,pos,act:= .mark (.releaseMerge (st0 A.Wg))}:=by simp
 have lt:∀i a,touchAt (t++#[({g:=A.n,fn,pos,act:= .mark (.releaseMerge (st0 A.Wg))}:MemOp)]) i=some a->i<t.size:=λi a ha=>by
  obtain⟨x,hx,hxa⟩:=touch_of ha;rcases getElem?_append_cases hx with⟨hi,_⟩|⟨_,hxu⟩
  ·exact hi
  ·simp at hxu;subst hxu;cases hxa
 refine⟨k.clean,λi a ha hm=>?_,k.kn,λi g hg hne hc=>?_,k.norel,k.seen,by rw[act?_of hy],by simp[Trace.g?],A.n,by simp[Trace.g?],by rw[deaf_old (lh _)];exact hd⟩
 ·rcases k.k0 i a ha hm with x|x|⟨x,y⟩
  ·exact .inl x
  ·exact .inr (.inl x)
  ·exact .inr (.inr (.inl ⟨x,y,lt i a ha⟩))
 ·refine(k.over i g hg hne hc).imp id λe=>⟨e,?_⟩
  obtain⟨x,hx,_⟩:=hc;exact lt i x hx
theorem TJ.bm2{r:Nat}(h:TJ A B r t)(u:Trace):(t++u).act? r=some (.mark (.releaseMerge (st0 A.Wg)))/\(t++u).g? r=some A.n/\(t++u).heard r:=by
 have hr:=lt_of_act? h.rel.1;exact⟨by rw[act?_old hr];exact h.rel.1,an9 h.rel.2.1,(heard_old hr).2 h.rel.2.2⟩
theorem TJ.mute{r:Nat}(h:TJ A B r t){u:Trace}(hn:∀op∈u,op.act.touch?=none)(hr:∀op∈u,op.act≠.mark (.release (st0 A.Wg)))(hl:∀op∈u,op.act.low B):TJ A B r (t++u):=by
 have old:∀i a,touchAt (t++u) i=some a->touchAt t i=some a/\i<t.size:=λi a ha=>by
  obtain⟨x,hx,hxa⟩:=touch_of ha;rcases getElem?_append_cases hx with⟨hi,hx'⟩|⟨_,hxu⟩
  ·exact⟨by rw[touchAt_of hx'];exact hxa,hi⟩
  ·rw[hn x hxu]at hxa;cases hxa
 refine⟨λsaid=>?_,λi a ha hm=>?_,λi a ha hm=>?_,?_,h.norel.app hr,seen_app h.seen hl,h.bm2 u⟩
 ·rintro⟨i,j,hij,⟨a,b,ha,hb,hc⟩,n1,n2⟩;obtain⟨ha',hi⟩:=old i a ha;obtain⟨hb',hj⟩:=old j b hb;exact h.clean said ⟨i,j,hij,⟨a,b,ha',hb',hc⟩,λe=>n1 (hb_app u e),λe=>n2 (hb_app u e)⟩
 ·obtain⟨ha',hi⟩:=old i a ha;rcases h.k0 i a ha' hm with x|x|⟨x,y⟩|x
  ·exact .inl (x.app u)
  ·exact .inr (.inl x)
  ·exact .inr (.inr (.inl ⟨an9 x,y⟩))
  ·exact .inr (.inr (.inr x))
 ·obtain⟨ha',hi⟩:=old i a ha;rcases h.kn i a ha' hm with x|x|⟨x,y⟩
  ·exact .inl (x.app u)
  ·exact .inr (.inl x)
  ·exact .inr (.inr ⟨an9 x,y⟩)
 ·refine aw6 (C:=λi g=>g=A.n/\i<r) h.over λi op hi hop hne hc=>?_
  rcases getElem?_append_cases hop with⟨h1,_⟩|⟨_,hm⟩
  ·omega
  ·exact absurd hc (aX4 hop (hn op hm))
theorem TJ.app0(hA:Apart A){r:Nat}(h:TJ A B r t){B':Nat}(hB:B<=B'){u:Trace}(hg:∀op∈u,op.g=0)(hu:∀op∈u,A.ok0 op.act)(hl:∀op∈u,op.act.low B'):TJ A B' r (t++u):=by
 refine⟨λsaid=>noRace_append (h.clean said) hg λi a ha op hop b hb hc=>?_,λi a ha hm=>?_,λi a ha hm=>?_,?_,h.norel.app λop hop=>(hu op hop).2,seen_app (λop hop=>MemAct.low_mono hB (h.seen op hop)) hl,h.bm2 u⟩
 ·have hq:=(hu op hop).1 b hb;rcases h.k0 i a ha hc.2.1 with x|⟨x,y⟩|⟨_,x|x,_⟩|⟨x,h1,h2,h3⟩
  ·exact x
  ·exact absurd (be0 hq) (by rw[<-hc.1];exact hA.shun _ x)
  ·exact absurd (be0 hq) (by rw[<-hc.1];exact x.1)
  ·exact absurd hc (am7 hA hq x).2
  ·exact absurd hc (am7 hA hq (.inr (.inl ⟨x,h1,h2,h3⟩))).2
 ·obtain⟨x,hx,hxa⟩:=touch_of ha;rcases getElem?_append_cases hx with⟨hi,hx'⟩|⟨_,hxu⟩
  ·rcases h.k0 i a (by rw[touchAt_of hx'];exact hxa) hm with x|x|⟨x,y⟩|x
   ·exact .inl (x.app u)
   ·exact .inr (.inl x)
   ·exact .inr (.inr (.inl ⟨an9 x,y⟩))
   ·exact .inr (.inr (.inr x))
  ·have:=knows_own hx
   rw[hg x hxu]at this;exact .inl this
 ·obtain⟨x,hx,hxa⟩:=touch_of ha;rcases getElem?_append_cases hx with⟨hi,hx'⟩|⟨_,hxu⟩
  ·rcases h.kn i a (by rw[touchAt_of hx'];exact hxa) hm with x|x|⟨x,y⟩
   ·exact .inl (x.app u)
   ·exact .inr (.inl x)
   ·exact .inr (.inr ⟨an9 x,y⟩)
  ·exact .inr (.inr ⟨by simp[Trace.g?,hx,hg x hxu],(hu x hxu).1 a hxa⟩)
 ·refine aw6 (C:=λi g=>g=A.n/\i<r) h.over λi op hi hop hne hc=>?_
  rcases getElem?_append_cases hop with⟨h1,_⟩|⟨_,hm⟩
  ·omega
  ·exact absurd (hg op hm) hne
theorem TJ.appn(hA:Apart A){r:Nat}(h:TJ A B r t){u:Trace}(hg:∀op∈u,op.g=A.n)(hu:∀op∈u,(∀b,op.act.touch?=some b->A.atWg b)/\op.act≠.mark (.release (st0 A.Wg)))(hl:∀op∈u,op.act.low B)
  (hc:∀i,t.size<=i->¬ (t++u).counts i):TJ A B r (t++u):=by
 refine⟨λsaid=>noRace_append (h.clean said) hg λi a ha op hop b hb hc=>?_,λi a ha hm=>?_,λi a ha hm=>?_,?_,h.norel.app λop hop=>(hu op hop).2,seen_app h.seen hl,h.bm2 u⟩
 ·obtain⟨y,k1,k2,k3⟩:=(hu op hop).1 b hb;rcases h.kn i a ha hc.2.1 with x|⟨x,y'⟩|⟨_,x⟩
  ·exact x
  ·exact absurd (.inl ⟨y,hc.1.trans k1,.inr k2⟩) (hA.shun _ x)
  ·exact absurd hc (am7 hA x (.inr (.inl ⟨y,k1,k2,k3⟩))).1
 ·obtain⟨x,hx,hxa⟩:=touch_of ha;rcases getElem?_append_cases hx with⟨hi,hx'⟩|⟨_,hxu⟩
  ·rcases h.k0 i a (by rw[touchAt_of hx'];exact hxa) hm with x|x|⟨x,y⟩|x
   ·exact .inl (x.app u)
   ·exact .inr (.inl x)
   ·exact .inr (.inr (.inl ⟨an9 x,y⟩))
   ·exact .inr (.inr (.inr x))
  ·exact .inr (.inr (.inr ((hu x hxu).1 a hxa)))
 ·obtain⟨x,hx,hxa⟩:=touch_of ha;rcases getElem?_append_cases hx with⟨hi,hx'⟩|⟨_,hxu⟩
  ·rcases h.kn i a (by rw[touchAt_of hx'];exact hxa) hm with x|x|⟨x,y⟩
   ·exact .inl (x.app u)
   ·exact .inr (.inl x)
   ·exact .inr (.inr ⟨an9 x,y⟩)
  ·have:=knows_own hx
   rw[hg x hxu]at this;exact .inl this
 ·exact aw6 (C:=λi g=>g=A.n/\i<r) h.over λi op hi _ _ hcc=>absurd hcc (hc i hi)
def Area.bJ4(A:Area)(l:Loc):Prop:=A.Shun l\/∃a,l=.cell a/\a.block=A.Wg
theorem TJ.acquire{r:Nat}(h:TJ A B r t)(hW:A.Wg<B)(hd:Deaf t 0=0)(fn:FuncId)(pos:String):Past A.bJ4 B (t++#[{g:=0,fn,pos,act:= .mark (.acquire (st0 A.Wg))}]):=by
 have k:TJ A B r (t++#[{g:=0,fn,pos,act:= .mark (.acquire (st0 A.Wg))}]):=h.mute (λop hop=>by simp at hop;subst hop;rfl) (λop hop=>by simp at hop;subst hop;simp) (λop hop=>by simp at hop;subst hop;exact hW);have hr:=lt_of_act? h.rel.1;generalize hu:t++#[({g:=0,fn,pos,act:= .mark (.acquire (st0 A.Wg))}:MemOp)]=u at *
 have hy:u[t.size]?=some {g:=0,fn,pos,act:= .mark (.acquire (st0 A.Wg))}:=by rw[<-hu];simp
 have hh:u.heard t.size:=⟨0,by simp[Trace.g?,hy],by rw[<-hu,deaf_old (lh _)];exact hd⟩
 have edge:HappensBefore u r t.size:= .single (.inr ⟨.marked hr (.inr k.rel.1) (by rw[act?_of hy]) (λq _ _=>k.norel q),k.rel.2.2,hh⟩);have kn:∀i,u.g? i=some A.n->i<r->HappensBefore u i t.size:=λi hi hlt=> .trans (.single (.inl ⟨hlt,A.n,hi,k.rel.2.1⟩)) edge
 refine⟨k.clean,λi a ha hm=>?_,λi g hg hne hc=>?_,?_,k.seen⟩
 ·rcases k.k0 i a ha hm with x|⟨x,y⟩|⟨x,_,y⟩|⟨x,h1,h2,h3⟩
  ·exact .inl x
  ·exact .inr ⟨.inl x,y⟩
  ·exact .inl ⟨t.size,_,hy,rfl,.inr (kn i x y)⟩
  ·exact .inr ⟨.inr ⟨x,h1,h2⟩,h3⟩
 ·rcases k.over i g hg hne hc with x|⟨rfl,x⟩
  ·exact x
  ·exact⟨t.size,by simp[Trace.g?,hy],kn i hg x⟩
 ·rw[<-hu,Deaf_push,hd];rfl
end
end Hid
namespace Hid
open Go.RowKit Go.Conc
structure P0(A:Area)(B d:Nat)(t:Trace):Prop where
 clean:∀said,¬ Race said t
 known:∀i a,touchAt t i=some a->a.loc.isMemory=true->Knows t 0 i\/(A.Shun a.loc/\a.kind=.atomic)
 over:t.HandedOver
 norel:NoRelease (st0 A.Wg) t
 seen:∀op∈t,op.act.low B
 deaf:Deaf t 0=d
section
variable {A:Area}{B d:Nat}{t:Trace}
theorem bN0(h:∀op∈t,op.act.low B){w:Nat}(hw:B<=w):NoRelease (st0 w) t:=by
 intro i hi;obtain⟨op,ho,hoa⟩:=xl.1 hi;have:=h op (mem_of_getElem? ho)
 rw[hoa]at this;have hlt:w<B:=this;omega
theorem P0.of(h:Past A.Shun B t)(hw:B<=A.Wg){B':Nat}(hB:B<=B'):P0 A B' 0 t:=⟨h.clean,h.known,h.over,bN0 h.seen hw,λop hop=>MemAct.low_mono hB (h.seen op hop),h.hears⟩
def Area.okp(A:Area)(B:Nat)(x:MemAct):Prop:=(∀b,x.touch?=some b->A.Shun b.loc->b.kind≠.plain)/\x≠.mark (.release (st0 A.Wg))/\x.low B
theorem P0.app(h:P0 A B d t){B' d':Nat}(hB:B<=B'){u:Trace}(hg:∀op∈u,op.g=0)(hu:∀op∈u,A.okp B' op.act)(hd:Deaf (t++u) 0=d'):P0 A B' d' (t++u):=by
 refine⟨λsaid=>noRace_append (h.clean said) hg λi a ha op hop b hb hc=>?_,λi a ha hm=>?_,handedOver_app h.over λop hop=> .inl (hg op hop),h.norel.app λop hop=>(hu op hop).2.1,seen_app (λop hop=>MemAct.low_mono hB (h.seen op hop)) λop hop=>(hu op hop).2.2,hd⟩
 ·rcases h.known i a ha hc.2.1 with hk|⟨hsa,hka⟩
  ·exact hk
  ·have hkb:=(hu op hop).1 b hb (hc.1▸hsa);obtain⟨_,_,_,hcase⟩:=hc;rw[hka]at hcase;rcases hcase with x|x|⟨_,x,_⟩
   ·cases x
   ·exact absurd x hkb
   ·cases x
 ·obtain⟨x,hx,hxa⟩:=touch_of ha;rcases getElem?_append_cases hx with⟨_,hx'⟩|⟨_,hxu⟩
  ·exact(h.known i a (by rw[touchAt_of hx'];exact hxa) hm).imp (·.app u) id
  ·have:=knows_own hx
   rw[hg x hxu]at this;exact .inl this
theorem P0.mute(h:P0 A B d t){g:Nat}(hg:g≠0){fn:FuncId}{pos:String}{es:Array Event}(hm:∀e∈es,e.mute=true):P0 A B d (t++MemOp.ofEvents g fn pos es):=by
 have hgu:∀op∈MemOp.ofEvents g fn pos es,op.g=g:=λop hop=>by obtain⟨e,_,rfl⟩:=lJ hop;rfl
 have hn:∀op∈MemOp.ofEvents g fn pos es,op.act.touch?=none:=λop hop=>by obtain⟨e,he,rfl⟩:=lJ hop;exact touch_mute (hm e he)
 refine⟨λsaid=>noRace_append (h.clean said) hgu λi a _ op hop b hb _=>(by rw[hn op hop]at hb;cases hb),λi a ha hmm=>?_,handedOver_app h.over λop hop=> .inr (hn op hop),h.norel.app λop hop=>?_,seen_app h.seen λop hop=>?_,(Deaf_other t hg _ hgu).trans h.deaf⟩
 ·obtain⟨x,hx,hxa⟩:=touch_of ha;rcases getElem?_append_cases hx with⟨_,hx'⟩|⟨_,hxu⟩
  ·exact(h.known i a (by rw[touchAt_of hx'];exact hxa) hmm).imp (·.app _) id
  ·rw[hn x hxu]at hxa;cases hxa
 ·obtain⟨e,he,rfl⟩:=lJ hop;have:=hm e he
  obtain⟨loc,wr,sy⟩:=e;cases loc with
  |mark m=>cases m<;>simp_all [Event.mute,MemAct.ofEvent]
  |_=>simp[Event.mute]at this
 ·obtain⟨e,he,rfl⟩:=lJ hop;exact low_mute (hm e he) B
theorem P0.fork(hA:Apart A)(h:P0 A B 0 t)(hn:Deaf t A.n=0)(f1 f2:FuncId)(p1 p2:String):
  TI A B (t++#[{g:=0,fn:=f1,pos:=p1,act:= .go A.n},{g:=A.n,fn:=f2,pos:=p2,act:= .start}]):=by
 have k:P0 A B 0 (t++#[{g:=0,fn:=f1,pos:=p1,act:= .go A.n},{g:=A.n,fn:=f2,pos:=p2,act:= .start}]):=by
  have e:t++#[({g:=0,fn:=f1,pos:=p1,act:= .go A.n}:MemOp),{g:=A.n,fn:=f2,pos:=p2,act:= .start}]=t++#[{g:=0,fn:=f1,pos:=p1,act:= .go A.n}]++#[{g:=A.n,fn:=f2,pos:=p2,act:= .start}]:=by rw[Array.append_assoc];rfl
  have k1:P0 A B 0 (t++#[{g:=0,fn:=f1,pos:=p1,act:= .go A.n}]):=h.app (lh _) (λop hop=>by simp at hop;subst hop;rfl) (λop hop=>by simp at hop;subst hop;exact⟨λb hb=>(by cases hb),by simp,trivial⟩) (by rw[Deaf_push,h.deaf];rfl);rw[e];refine⟨λsaid=>noRace_append (g:=A.n) (k1.clean said) (λop hop=>(by simp at hop;subst hop;rfl)) λi a _ op hop b hb _=>(by simp at hop;subst hop;cases hb),λi a ha hm=>?_,handedOver_app k1.over λop hop=> .inr (by simp at hop;subst hop;rfl),k1.norel.app λop hop=>(by simp at hop;subst hop;simp),seen_app k1.seen λop hop=>(by simp at hop;subst hop;trivial),?_⟩
  ·obtain⟨x,hx,hxa⟩:=touch_of ha;rcases getElem?_append_cases hx with⟨_,hx'⟩|⟨_,hxu⟩
   ·exact(k1.known i a (by rw[touchAt_of hx'];exact hxa) hm).imp (·.app _) id
   ·simp at hxu;subst hxu;cases hxa
  ·rw[Deaf_push,k1.deaf];rfl
 generalize hu:t++#[({g:=0,fn:=f1,pos:=p1,act:= .go A.n}:MemOp),{g:=A.n,fn:=f2,pos:=p2,act:= .start}]=u at *
 have hs:u.size=t.size+2:=by rw[<-hu];simp
 have h1:u[t.size]?=some {g:=0,fn:=f1,pos:=p1,act:= .go A.n}:=by rw[<-hu];simp
 have h2:u[t.size+1]?=some {g:=A.n,fn:=f2,pos:=p2,act:= .start}:=by
  rw[<-hu,xr (by omega)];simp
 have d1:u.deaf 0 t.size=0:=by rw[<-hu,deaf_old (lh _)];exact h.deaf
 have d2:u.deaf A.n (t.size+1)=0:=by
  rw[deaf_succ h1,<-hu,deaf_old (lh _)];exact hn
 have edge:HappensBefore u t.size (t.size+1):= .single (.inr ⟨.spawn (act?_of h1) (act?_of h2) (by simp[Trace.g?,h2]),⟨0,by simp[Trace.g?,h1],d1⟩,A.n,by simp[Trace.g?,h2],d2⟩);have lt:∀i a,touchAt u i=some a->i<t.size:=λi a ha=>by
  obtain⟨x,hx,hxa⟩:=touch_of ha;refine Nat.lt_of_not_le λhle=>?_
  have hlt:=lt_size_of_getElem? hx;rcases uk t.size i with h3|h3
  ·obtain rfl:i=t.size+1:=by omega
   rw[h2]at hx;cases hx;cases hxa
  ·obtain rfl:i=t.size:=by omega
   rw[h1]at hx;cases hx;cases hxa
 refine⟨k.clean,λi a ha hm=>(k.known i a ha hm).imp id .inl,λi a ha hm=>?_,λi g hg hne hc=> .inl (k.over i g hg hne hc),k.norel,k.seen⟩;rcases h.known i a (by rw[<-touchAt_old (u:=#[_,_]) (lt i a ha),hu];exact ha) hm with x|x
 ·left;have:=x.hb_new (u:=#[{g:=0,fn:=f1,pos:=p1,act:= .go A.n},{g:=A.n,fn:=f2,pos:=p2,act:= .start}]) (lh _) (by rw[hu];exact h1) rfl
  rw[hu]at this;exact⟨t.size+1,_,h2,rfl,.inr (this.trans edge)⟩
 ·exact .inr (.inl x)
end
section
variable [LoopOK] [Junk] {P:Program}{Post:Value->World->Prop}
def bj9(T:Trace->Prop):Prop:=∀t g fn pos (es:Array Event),g≠0->(∀e∈es,e.mute=true)->T t->T (t++MemOp.ofEvents g fn pos es)
theorem aY7{T:Trace->Prop}(hT:bj9 T):∀(M:Nat){gs:Array Goroutine}{a:Goroutine}{C:World}{sl:Option (Nat×Nat)}{t:Trace}{q:Nat->Nat},sumTo gs.size q<=M->gs[0]?=some a->a.status=.running->Leavers P t gs q->T t->
  (∀d gs' sl' t' q',gs'[0]?=some a->gs'.size=gs.size->Leavers P t' gs' q'->T t'->∃m' ops,runT P (crowd gs' (C.at d) sl') 0=(.next m',ops)/\Wins P Post m' (t'++ops))->Wins P Post (crowd gs C sl) t:=by
 intro M;induction M with
 |zero|succ M ih=>?_
 all_goals
  intro gs a C sl t q hM h0 hrun hL hP hstep;have haw:∀g∈gs,awake g:=by
   intro g hg;obtain⟨i,hi,rfl⟩:=ui.1 hg;rcases xB i with rfl|hpos
   ·have:gs[0]=a:=by simpa[lF hi]using h0
    rw[this];exact awake_of (.inl hrun)
   ·exact awake_of ((hL.old i _ hpos (lF hi)).status.elim .inl λx=> .inr (.inr x))
  obtain⟨i,g,d,sl',hi,hg,hst⟩:=crowd_pick (P:=P) (w:=C) (sl:=sl) haw ⟨0,a,h0,hrun⟩;rcases xB i with rfl|hpos
  ·obtain⟨m',ops,h1,h2⟩:=hstep d gs sl' t q h0 rfl hL hP;exact .step (hst.trans h1) h2
  ·have hq:=hL.old i g hpos hi;have hi0:(i==0)=false:=by simp;omega
   have hlt:i<gs.size:=(li.1 hi).1;cases hqi:q i with
   |zero=>rw[hqi]at hq;rw[hq.1]at hg;cases hg
   |succ k=>
    rw[hqi]at hq;rcases hq with⟨hf,_⟩|⟨_,g',es,hm,hstp,hq'⟩
    ·rw[hf]at hg;cases hg
    have hsum:sumTo gs.size (upd q i k)+(k+1)=sumTo gs.size q+k:=by
     have:=sumTo_upd q k id hlt
     simpa[hqi]using this
    first
    |(exfalso;omega)
    |(have hrunT:=runT_crowd_go (P:=P) (sl:=sl') (i:=i) hi (by rw[hi0];exact hstp (C.at d))
      have hsz:((gs.map (woken P g g' (C.at d))).setIfInBounds i g').size=gs.size:=by simp
      refine .step (hst.trans hrunT) (ih (a:=a) (q:=upd q i k) (by rw[hsz];omega) ?_ hrun ⟨λj x hj hx=>?_,λj hj=>?_⟩ (hT _ _ _ _ _ (by omega) hm hP) λe gs2 sl2 t2 q2 h1 h2 h3 h4=>hstep e gs2 sl2 t2 q2 h1 (h2.trans hsz) h3 h4)
      ·have hne:i≠0:=by omega
       rw[lj hne,xc,h0];simp[woken_run hrun]
      ·by_cases hji:i=j
       ·subst hji;rw[lm (by simpa using hlt)]at hx;obtain rfl:=sj hx
        rw[upd_same,Deaf_own];exact hq'
       ·rw[lj hji,xc]at hx;obtain⟨y,hy,rfl⟩:=xl.1 hx;have hqj:=hL.old j y hj hy;rw[woken_quitsD hqj,upd_ne q k (xG hji),Deaf_other t hji _ (λop hop=>by obtain⟨e,_,rfl⟩:=lJ hop;rfl)];exact hqj
      ·rw[Deaf_other t (g':=i) (by simp at hj;omega) _ (λop hop=>by obtain⟨e,_,rfl⟩:=lJ hop;rfl)];exact hL.above j (by simpa using hj))
theorem aT0{T T':Trace->Prop}(hT:bj9 T){gs:Array Goroutine}{a:Goroutine}{C:World}{sl:Option (Nat×Nat)}{t:Trace}{q:Nat->Nat}(h0:gs[0]?=some a)(hrun:a.status=.running)(hL:Leavers P t gs q)(ht:T t)
  (hstep:∀d,∃a' C' es,stepG P true a (C.at d)=.go a' C' es/\(∀t fn pos,T t->T' (t++MemOp.ofEvents 0 fn pos es))/\
   ∀gs' sl' t' q',gs'[0]?=some a'->gs'.size=gs.size->Leavers P t' gs' q'->T' t'->Wins P Post (crowd gs' C' sl') t'):Wins P Post (crowd gs C sl) t:=by
 refine aY7 hT (sumTo gs.size q) (lh _) h0 hrun hL ht λd gs' sl' t' q' h0' hz hL' ht'=>?_
 obtain⟨a',C',es,hgo,hev,hk⟩:=hstep d;have hlt:0<gs'.size:=(li.1 h0').1;refine⟨_,_,runT_crowd_go (P:=P) (sl:=sl') (i:=0) h0' hgo,hk _ _ _ q' (by simp[hlt]) (by simp[hz]) ⟨λj x hj hx=>?_,λj hj=>?_⟩ (hev _ _ _ ht')⟩
 ·have hne:0≠j:=by omega
  rw[lj hne,xc]at hx;obtain⟨y,hy,rfl⟩:=xl.1 hx;have hq:=hL'.old j y hj hy;rw[woken_quitsD hq,Deaf_other t' (by omega) _ (λop hop=>by obtain⟨e,_,rfl⟩:=lJ hop;rfl)];exact hq
 ·rw[Deaf_other t' (g':=0) (by simp at hj;omega) _ (λop hop=>by obtain⟨e,_,rfl⟩:=lJ hop;rfl)];exact hL'.above j (by simpa using hj)
theorem an8{A:Area}{B d:Nat}:bj9 (P0 A B d):=λt g fn pos es hg hm h=>h.mute hg hm
theorem ad3{S:Loc->Prop}{B:Nat}:bj9 (Past S B):=λt g fn pos es hg hm h=>h.mute hg hm
end
end Hid
namespace Hid
open Go.RowKit Go.Conc
inductive An
 |v (x:Value)
 |o (x:Obj)
 |r (n:Nat)
 |s (x:Option (TypeId×Nat))
 |b (x:Bool)
inductive Did
 |rd (m:Mode) (a:Addr) (v:Value)
 |wr (m:Mode) (a:Addr) (v:Value)
 |mk (m:Mark)
 |nw (o:Obj) (r:Nat)
 |gt (r:Nat) (o:Obj)
 |st (r:Nat) (o:Obj)
 |sh (r:Nat) (x:Option (TypeId×Nat))
 |fz (a:Addr) (x:Bool)
def Did.fits:Did->World->Prop
 |.rd _ a v,w=>w.cell? a=some v
 |.wr _ a v,w=>(∃u,w.cell? a=some u)/\w.frozen? a=false/\(∀x,v≠.agg x)/\∀x,v≠.tuple x
 |.mk _,_=>True
 |.nw _ r,w=>w.heap.size=r
 |.gt r o,w=>w.heap[r]?=some o/\∀c T f,o≠.cells c T f
 |.st r _,w=>∃q,w.heap[r]?=some q/\∀c T f,q≠.cells c T f
 |.sh r x,w=>w.shape? r=x
 |.fz a x,w=>w.frozen? a=x
def Did.w:Did->World->World
 |.rd ..,w|.mk _,w|.gt ..,w|.sh ..,w|.fz ..,w=>w
 |.wr _ a v,w=>w.setCell a v
 |.nw o _,w=>{w with heap:=w.heap.push o}
 |.st r o,w=>{w with heap:=w.heap.setIfInBounds r o}
def Did.es:Did->List Event
 |.rd m a _=>[⟨.cell a,false,m== .atomic⟩]
 |.wr m a _=>[⟨.cell a,true,m== .atomic⟩]
 |.mk m=>[⟨.mark m,false,true⟩]
 |.nw ..|.sh ..|.fz ..=>[]
 |.gt r o=>[⟨.obj r,false,o.isChan⟩]
 |.st r o=>[⟨.obj r,true,o.isChan⟩]
def Fits:List Did->World->Prop
 | [],_=>True
 |d::l,w=>d.fits w/\Fits l (d.w w)
def wOf:List Did->World->World
 | [],w=>w
 |d::l,w=>wOf l (d.w w)
def esOf:List Did->List Event
 | []=>[]
 |d::l=>d.es++esOf l
def aV6{β:Type}(d:Did)(x:Option (β×List Did)):Option (β×List Did):=match x with|some (b,l)=>some (b,d::l)|none=>none
def runA(P:Program){α:Type}:Sem α->List An->Option ((α ⊕ Halt)×List Did)
 |.pure a,_=>some (.inl a,[])
 |.halt h,_=>some (.inr h,[])
 |.program k,s=>runA P (k P) s
 |.load m a k,.v x::s=>aV6 (.rd m a x) (runA P (k x) s)
 |.store m a v k,s=>aV6 (.wr m a v) (runA P k s)
 |.mark m k,s=>aV6 (.mk m) (runA P k s)
 |.new o k,.r n::s=>aV6 (.nw o n) (runA P (k n) s)
 |.getObj r k,.o x::s=>aV6 (.gt r x) (runA P (k x) s)
 |.setObj r o k,s=>aV6 (.st r o) (runA P k s)
 |.shape r k,.s x::s=>aV6 (.sh r x) (runA P (k x) s)
 |.frozen a k,.b x::s=>aV6 (.fz a x) (runA P (k x) s)
 |_,_=>none
def ar1{α:Type}:α ⊕ Halt->World->Result α
 |.inl a,w=> .ok a w
 |.inr h,w=> .halt h w
theorem ag0{β:Type}{d:Did}{x:Option (β×List Did)}{y:β×List Did}(h:aV6 d x=some y):∃l,x=some (y.1,l)/\y.2=d::l:=by
 unfold aV6 at h;split at h
 ·cases h;exact⟨_,rfl,rfl⟩
 ·cases h
theorem bK7(es:Array Event)(e:Event)(l:List Event):es.push e++l.toArray=es++(e::l).toArray:=by
 apply Array.toList_inj.1;simp
theorem ap5{P:Program}{α:Type}{s:Sem α}:∀{an:List An}{r:α ⊕ Halt}{l:List Did},runA P s an=some (r,l)->∀{w:World}{es:Array Event},Fits l w->s.runT P w es=(ar1 r (wOf l w),es++(esOf l).toArray):=by
 induction s with
 |pure a=>intro an r l h w es hf;simp only[runA]at h;cases h;simp[Sem.runT,ar1,wOf,esOf]
 |halt h=>intro an r l h w es hf;simp only[runA]at h;cases h;simp[Sem.runT,ar1,wOf,esOf]
 |program k ih=>intro an r l h w es hf;simp only[runA]at h;simp only[Sem.runT];exact ih _ h hf
 |load m a k ih=>
  intro an r l h w es hf;cases an with
  |nil=>simp only[runA]at h;cases h
  |cons x s=>
   cases x with
   |v x=>
    simp only[runA]at h;obtain⟨l',h1,rfl⟩:=ag0 h;obtain⟨h2,h3⟩:=hf;have h2':w.cell? a=some x:=h2;have h3':Fits l' w:=h3;simp only[Sem.runT,h2'];rw[ih x h1 h3',bK7];rfl
   |_=>simp only[runA]at h;cases h
 |store m a v k ih=>
  intro an r l h w es hf;simp only[runA]at h;obtain⟨l',h1,rfl⟩:=ag0 h;obtain⟨⟨⟨u,h2⟩,h3,h4,h5⟩,h6⟩:=hf;have e1:(Sem.store m a v k).runT P w es=match w.cell? a with
    |some _=>if w.frozen? a then(.halt (.unsupported (.unsafePointer "a write to bytes that a string shares")) w,es)else k.runT P (w.setCell a v) (es.push ⟨.cell a,true,m == .atomic⟩)
    |none=>match w.farStore P a v (m== .atomic)with
     |.ok (w,touched)=>k.runT P w (es++touched.toArray.map (⟨.cell ·,true,m== .atomic⟩))
     |.error h=>(.halt h w,es):=by
   cases v with
   |agg x=>exact absurd rfl (h4 x)
   |tuple x=>exact absurd rfl (h5 x)
   |_=>rfl
  rw[e1,h2];simp only[h3,lH,xn];have h6':Fits l' (w.setCell a v):=h6;rw[ih h1 h6',bK7];rfl
 |mark m k ih=>
  intro an r l h w es hf;simp only[runA]at h;obtain⟨l',h1,rfl⟩:=ag0 h;have h3:Fits l' w:=hf.2;simp only[Sem.runT];rw[ih h1 h3,bK7];rfl
 |new o k ih=>
  intro an r l h w es hf;cases an with
  |nil=>simp only[runA]at h;cases h
  |cons x s=>
   cases x with
   |r n=>
    simp only[runA]at h;obtain⟨l',h1,rfl⟩:=ag0 h;obtain⟨h2,h3⟩:=hf;have h2':w.heap.size=n:=h2;subst h2';simp only[Sem.runT];have h3':Fits l' {w with heap:=w.heap.push o}:=h3;rw[ih _ h1 h3'];rfl
   |_=>simp only[runA]at h;cases h
 |getObj r0 k ih=>
  intro an r l h w es hf;cases an with
  |nil=>simp only[runA]at h;cases h
  |cons x s=>
   cases x with
   |o x=>
    simp only[runA]at h;obtain⟨l',h1,rfl⟩:=ag0 h;obtain⟨⟨h2,h4⟩,h3⟩:=hf;have h3':Fits l' w:=h3;simp only[Sem.runT,h2];cases x with
    |cells c T f=>exact absurd rfl (h4 c T f)
    |_=>rw[ih _ h1 h3',bK7];rfl
   |_=>simp only[runA]at h;cases h
 |setObj r0 o k ih=>
  intro an r l h w es hf;simp only[runA]at h;obtain⟨l',h1,rfl⟩:=ag0 h;obtain⟨⟨q,h2,h4⟩,h3⟩:=hf;have h3':Fits l' {w with heap:=w.heap.setIfInBounds r0 o}:=h3;simp only[Sem.runT,h2];cases q with
  |cells c T f=>exact absurd rfl (h4 c T f)
  |_=>rw[ih h1 h3',bK7];rfl
 |shape r0 k ih=>
  intro an r l h w es hf;cases an with
  |nil=>simp only[runA]at h;cases h
  |cons x s=>
   cases x with
   |s x=>
    simp only[runA]at h;obtain⟨l',h1,rfl⟩:=ag0 h;obtain⟨h2,h3⟩:=hf;have h2':w.shape? r0=x:=h2;have h3':Fits l' w:=h3;simp only[Sem.runT,h2'];exact ih x h1 h3'
   |_=>simp only[runA]at h;cases h
 |frozen r0 k ih=>
  intro an r l h w es hf;cases an with
  |nil=>simp only[runA]at h;cases h
  |cons x s=>
   cases x with
   |b x=>
    simp only[runA]at h;obtain⟨l',h1,rfl⟩:=ag0 h;obtain⟨h2,h3⟩:=hf;have h2':w.frozen? r0=x:=h2;have h3':Fits l' w:=h3;simp only[Sem.runT,h2'];exact ih x h1 h3'
   |_=>simp only[runA]at h;cases h
 |_=>intro an r l h;simp only[runA]at h;cases h
inductive SA
 |go (g:Goroutine)
 |still (g:Goroutine)
 |spawn (g c:Goroutine)
 |comm (g:Goroutine) (cs:Array CommCase) (b:Bool) (sh:CommShape)
def SA.step(P:Program)(f:FuncId)(l:List Did)(w:World):SA->GStep
 |.go g=> .go g (wOf l w) (seen P f (esOf l).toArray)
 |.still g=> .go g (wOf l w) #[]
 |.spawn g c=> .spawn g c (wOf l w) (seen P f (esOf l).toArray)
 |.comm g cs b sh=> .comm g cs b sh (wOf l w) (seen P f (esOf l).toArray)
def isNil:Target->Bool
 |.nil=>true
 |_=>false
def bT0(P:Program)(fr:Frame)(cs:List Frame)(s:Sem Next)(an:List An):Option (SA×List Did):=
 match runA P s an with
 |some (.inl (.value v),l)=>some (.go (G (fr.finish v) cs),l)
 |some (.inl .skip,l)=>some (.go (G (fr.finish undef) cs),l)
 |some (.inl (.enter f args),l)=>some (.go (G (Frame.enter P f args .normal) (fr::cs)),l)
 |some (.inl (.defer d),l)=>some (.go (G (({fr with defers:=d::fr.defers}:Frame).finish undef) cs),l)
 |some (.inl (.comm cases b sh),l)=>some (.comm (G fr cs) cases b sh,l)
 | some (.inl (.spawn d),l)=>if isNil d.target then none else
   some (.spawn (G (fr.finish undef) cs) (G {(default:Frame)with fn:=P.funcs.size,defers:=[d],mode:= .panicking [goexitEntry]} []),l)
 |some (.inr .blocked,l)=>some (.still {G fr cs with status:= .blocked},l)
 |_=>none
def bB1:CallKind->Bool
 |.early=>false
 |_=>true
theorem bj4{P:Program}{fr:Frame}{cs:List Frame}{s:Sem Next}{an:List An}{sa:SA}{l:List Did}(h:bT0 P fr cs s an=some (sa,l))(hk:bB1 fr.kind=true)(hc:∃ops i rest k,fr.todo=.inRegion ops (i::rest)::k){w:World}(hf:Fits l w):
  stepG.apply P true fr cs none s w=sa.step P fr.fn l w:=by
 have hk':(fr.kind==CallKind.early)=false:=by cases hh:fr.kind<;>first|rfl|(rw[hh]at hk;cases hk)
 unfold bT0 at h;cases hr:runA P s an with
 |none=>rw[hr]at h;cases h
 |some y=>
  obtain⟨r,l'⟩:=y;rw[hr]at h;have hs:∀{l},runA P s an=some (r,l)->Fits l w->s.runT P w #[]=(ar1 r (wOf l w),(esOf l).toArray):=λh1 h2=>by
   have:=ap5 h1 h2 (es:=#[])
   simpa using this
  unfold stepG.apply;have fin:∀v,({frame:=fr.finish v,callers:=cs,status:= .running,dying:=none}:Goroutine)=G (fr.finish v) cs:=λ_=>rfl
  cases r with
  |inl n=>
   cases n with
   |value v=>simp only at h;cases h;simp only[hs hr hf,ar1,hk',xj,ac8,SA.step];rfl
   |skip=>simp only at h;cases h;simp only[hs hr hf,ar1,hk',xj,ac8,SA.step];rfl
   |enter f args=>
    simp only at h;cases h;simp only[hs hr hf,ar1,hk',xj,ac8,SA.step]
    obtain⟨ops,i,rest,k,hq⟩:=hc;simp only[hq];rfl
   |defer d=>simp only at h;cases h;simp only[hs hr hf,ar1,hk',xj,ac8,SA.step];rfl
   |comm cases b sh=>simp only at h;cases h;simp only[hs hr hf,ar1,hk',xj,SA.step];simp[GStep.after,G]
   |spawn d=>
    simp only at h
    by_cases hn:isNil d.target=true
    ·rw[ll hn]at h;cases h
    ·rw[lu hn]at h;cases h;simp only[hs hr hf,ar1,hk',xj,SA.step];obtain⟨tg,ar⟩:=d;cases tg<;>first|exact absurd rfl hn|simp[GStep.after,G]
   |_=>simp only at h;cases h
  |inr hh=>
   cases hh with
   |blocked=>simp only at h;cases h;simp only[hs hr hf,ar1,hk',xj,SA.step];simp[GStep.after,seen,G]
   |_=>simp only at h;cases h
def bR8(P:Program)(fr:Frame)(cs:List Frame)(d:Deferred)(an:List An):Option (SA×List Did):=
 if isNil d.target then none else
 match runA P (invoke d.target d.args) an with
 |some (.inl (.enter f args),l)=>some (.go (G (Frame.enter P f args .deferred) (fr::cs)),l)
 |some (.inl (.value _),l)|some (.inl .skip,l)=>some (.go (G fr cs),l)
 |_=>none
theorem bp8{P:Program}{fr:Frame}{cs:List Frame}{d:Deferred}{an:List An}{sa:SA}{l:List Did}(h:bR8 P fr cs d an=some (sa,l)){w:World}(hf:Fits l w):callDeferred P fr cs none d w=sa.step P fr.fn l w:=by
 unfold bR8 at h;split at h
 ·cases h
 ·rename_i hn;cases hr:runA P (invoke d.target d.args) an with
  |none=>rw[hr]at h;cases h
  |some y=>
   obtain⟨r,l'⟩:=y;rw[hr]at h;have hs:∀{l},runA P (invoke d.target d.args) an=some (r,l)->Fits l w->(invoke d.target d.args).runT P w #[]=(ar1 r (wOf l w),(esOf l).toArray):=λh1 h2=>by
    have:=ap5 h1 h2 (es:=#[])
    simpa using this
   unfold callDeferred;rw[lu (by intro hc;apply hn;revert hc;cases d.target<;>simp[isNil])];cases r with
   |inl n=>
    cases n with
    |enter f args=>simp only at h;cases h;simp only[hs hr hf,ar1,ac8,SA.step];rfl
    |value v=>simp only at h;cases h;simp only[hs hr hf,ar1,ac8,SA.step];rfl
    |skip=>simp only at h;cases h;simp only[hs hr hf,ar1,ac8,SA.step];rfl
    |_=>simp only at h;cases h
   |inr hh=>simp only at h;cases h
def aP7:Target->Bool
 |.collected _=>false
 |_=>true
def retA(main:Bool)(fr:Frame)(cs:List Frame)(v:Value):Option SA:=
 match cs with
 |c::rest=>match fr.kind with
  |.normal|.wrapped=>some (.go (G (c.finish v) rest))
  |.deferred=>match c.mode with
   |.panicking _=>if(c.mode matches .panicking ({recovered:=true,..}::_))then none else some (.go (G c rest))
   |_=>some (.go (G c rest))
  |_=>none
 | []=>match fr.kind with
  |.report=>none
  |_=>if main then none else some (.go {frame:=fr,callers:=[],status:= .finished,dying:=none})
def cg8(P:Program)(fr:Frame)(cs:List Frame)(an:List An):Option (SA×List Did):=
 let to (k:List Item):Option (SA×List Did):=some (.go (G {fr with todo:=k} cs),[])
 let leave:Option (SA×List Did):=some (.go (G {fr with mode:= .returning} cs),[])
 match fr.todo with
 | []=>leave
 |.code .ret::_=>leave
 |.code .skip::k|.code (.label _)::k|.inBlock _::k|.inScope _::k=>to k
 |.code (.seq a b)::k=>to (.code a:: .code b::k)
 |.code (.cond c thn els)::k=>match fr.eval c with
  |.bool b=>to (.code (if b then thn else els)::k)
  |_=>none
 |.code (.block id body)::k=>to (.code body:: .inBlock id::k)
 |.code (.loop body)::k|.inLoop body::k=>to (.code body:: .inLoop body::k)
 |.code (.scope body)::k=>to (.code body:: .inScope body::k)
 |.code (.exit id)::k=>match exitTo id k with
  |some k'=>to k'
  |none=>none
 |.code (.region _ ops draw)::k=>if draw then none else to (.inRegion ops (List.range ops.size)::k)
 |.inRegion _ []::k=>to k
 |.inRegion ops (i::_)::_=>
  if((ops[i]?).map (Region.wanted · (yielded ops fr.tmps))).getD false then
   match fr.oper? with
   |none=>none
   |some o=>bT0 P fr cs (execOp fr.eval o) an
  else some (.go (G (fr.finish undef) cs),[])
 |_=>none
def a10(P:Program)(main:Bool)(fr:Frame)(cs:List Frame)(an:List An):Option (SA×List Did):=
 if bB1 fr.kind then
  match fr.mode with
  |.run=>if fr.roundOf.isNone then cg8 P fr cs an else none
  |.returning=>match fr.defers with
   |d::ds=>if aP7 d.target then bR8 P {fr with defers:=ds} cs d an else none
   | []=>match P.funcs[fr.fn]? with
    |none=>none
    |some fn=>match runA P (results fn fr.tmps) an with
     |some (.inl v,l)=>match retA main fr cs v with
      |some s=>some (s,l)
      |none=>none
     |_=>none
  |.panicking ch=>match fr.defers with
   |d::ds=>if aP7 d.target then bR8 P {fr with defers:=ds} cs d an else none
   | []=>if fr.catches P then none else match cs with
    | []=>if ch.head?.any (·.goexit)then some (.go {frame:=fr,callers:=[],status:= .finished,dying:=none},[])else none
    |_=>none
 else none
theorem bs9(P:Program)(f:FuncId):seen P f (esOf []).toArray = #[]:=rfl
theorem bo2{P:Program}{main:Bool}{fr:Frame}{cs:List Frame}{an:List An}{sa:SA}{l:List Did}(h:cg8 P fr cs an=some (sa,l))(hk:bB1 fr.kind=true)(hr:fr.roundOf=none){w:World}(hf:Fits l w):
  stepG.exec P main true fr cs none w=sa.step P fr.fn l w:=by
 unfold cg8 at h;have step1:∀(g:Goroutine),SA.step P fr.fn [] w (.go g)=.go g w:=λg=>rfl
 cases hq:fr.todo with
 |nil=>simp only[hq]at h;cases h;simp only[stepG.exec,hq,hr,xj,step1];rfl
 |cons i k=>
  cases i with
  |inBlock id=>simp only[hq]at h;cases h;simp only[stepG.exec,hq,step1];rfl
  |inScope b=>simp only[hq]at h;cases h;simp only[stepG.exec,hq,step1];rfl
  |inLoop b=>simp only[hq]at h;cases h;simp only[stepG.exec,hq,step1];rfl
  |inRegion ops js=>
   cases js with
   |nil=>simp only[hq]at h;cases h;simp only[stepG.exec,hq,step1];rfl
   |cons j js=>
    simp only[hq]at h;split at h
    ·rename_i hw;cases ho:fr.oper? with
     |none=>rw[ho]at h;cases h
     |some o=>
      rw[ho]at h;simp only at h
      have e:stepG.exec P main true fr cs none w=stepG.oper P true fr cs none w:=by simp only[stepG.exec,hq,hw,xj]
      have e2:stepG.oper P true fr cs none w=stepG.apply P true fr cs none (execOp fr.eval o) w:=by simp only[stepG.oper,ho,hr]
      rw[e,e2];exact bj4 h hk ⟨_,_,_,_,hq⟩ hf
    ·rename_i hw;cases h;simp only[stepG.exec,hq,hw,step1];rfl
  |code c=>
   cases c with
   |skip=>simp only[hq]at h;cases h;simp only[stepG.exec,hq,step1];rfl
   |label _=>simp only[hq]at h;cases h;simp only[stepG.exec,hq,step1];rfl
   |ret=>simp only[hq]at h;cases h;simp only[stepG.exec,hq,hr,xj,step1];rfl
   |seq a b=>simp only[hq]at h;cases h;simp only[stepG.exec,hq,step1];rfl
   |block a b=>simp only[hq]at h;cases h;simp only[stepG.exec,hq,step1];rfl
   |loop b=>simp only[hq]at h;cases h;simp only[stepG.exec,hq,step1];rfl
   |scope b=>simp only[hq]at h;cases h;simp only[stepG.exec,hq,step1];rfl
   |cond t a b=>
    simp only[hq]at h;cases hv:fr.eval t with
    |bool v=>rw[hv]at h;simp only at h;cases h;simp only[stepG.exec,hq,hv,step1];rfl
    |_=>rw[hv]at h;cases h
   |exit id=>
    simp only[hq]at h;cases he:exitTo id k with
    |none=>rw[he]at h;cases h
    |some k'=>rw[he]at h;simp only at h;cases h;simp only[stepG.exec,hq,he,step1];rfl
   |region id ops draw=>
    simp only[hq]at h;cases draw with
    |true=>cases h
    |false=>cases h;simp only[stepG.exec,hq,step1];rfl
   |_=>simp only[hq]at h;cases h
  |_=>simp only[hq]at h;cases h
theorem ai0{P:Program}{main:Bool}{fr:Frame}{cs:List Frame}{an:List An}{sa:SA}{l:List Did}(h:a10 P main fr cs an=some (sa,l)){w:World}(hf:Fits l w):
  stepG P main (G fr cs) w=sa.step P fr.fn l w:=by
 unfold a10 at h;by_cases hk:bB1 fr.kind=true
 case neg=>rw[lu hk]at h;cases h
 rw[ll hk]at h;have defer:∀{d ds},fr.mode≠.run->fr.defers=d::ds->(if aP7 d.target then bR8 P {fr with defers:=ds} cs d an else none)=some (sa,l)->stepG P main (G fr cs) w=sa.step P fr.fn l w:=λ{d ds} hm hd h=>by
  by_cases hc:aP7 d.target=true
  case neg=>rw[lu hc]at h;cases h
  rw[ll hc]at h;have e:stepG P main (G fr cs) w=unwind P main fr cs none w:=by
   simp only[stepG,G]
  have e2:unwind P main fr cs none w=callDeferred P {fr with defers:=ds} cs none d w:=by
   unfold unwind;rw[hd];obtain⟨tg,ar⟩:=d;cases tg<;>first|rfl|(simp[aP7]at hc)
  rw[e,e2];exact bp8 h hf
 cases hm:fr.mode with
 |run=>
  simp only[hm]at h;split at h
  ·rename_i hr;have hr':fr.roundOf=none:=by simpa using hr
   have e:stepG P main (G fr cs) w=stepG.exec P main true fr cs none w:=by simp only[stepG,G,hm]
   rw[e];exact bo2 h hk hr' hf
  ·cases h
 |returning=>
  simp only[hm]at h;cases hd:fr.defers with
  |cons d ds=>rw[hd]at h;rw[<-hm]at h;exact defer (by rw[hm];simp) hd h
  |nil=>
   rw[hd]at h;simp only at h
   cases hfn:P.funcs[fr.fn]? with
   |none=>rw[hfn]at h;cases h
   |some fn=>
    rw[hfn]at h;simp only at h
    cases hr:runA P (results fn fr.tmps) an with
    |none=>rw[hr]at h;cases h
    |some y=>
     obtain⟨r,l'⟩:=y;rw[hr]at h;cases r with
     |inr _=>cases h
     |inl v=>
      simp only at h
      cases hret:retA main fr cs v with
      |none=>rw[hret]at h;cases h
      |some s=>
       rw[hret]at h;simp only at h
       cases h;have hs:=ap5 hr hf (es:=#[]);rw[uZ]at hs;have e:stepG P main (G fr cs) w=GStep.after (seen P fr.fn (esOf l).toArray) (doReturn P main fr cs none v (wOf l w)):=by
        simp only[stepG,G,hm,unwind,hd,hfn,hs,ar1]
       rw[e];unfold retA at hret;unfold doReturn;cases cs with
       |nil=>
        cases hkk:fr.kind<;>simp only[hkk]at hret⊢<;>first|cases hret|skip
        all_goals
         cases main
         ·simp at hret;subst hret;simp[GStep.after,SA.step]
         ·simp at hret
       |cons c rest=>
        cases hkk:fr.kind<;>simp only[hkk]at hret⊢<;>first|(cases hret;simp[GStep.after,SA.step,G];done)|skip
        ·cases hcm:c.mode with
         |panicking ch=>
          rw[hcm]at hret;cases ch with
          |nil=>simp at hret;subst hret;simp[GStep.after,SA.step,G]
          |cons e ch=>
           obtain⟨ev,er,eg⟩:=e;cases er
           ·simp at hret;subst hret;simp[GStep.after,SA.step,G]
           ·simp at hret
         |_=>rw[hcm]at hret;simp at hret;subst hret;simp[GStep.after,SA.step,G]
        all_goals cases hret
 |panicking ch=>
  simp only[hm]at h;cases hd:fr.defers with
  |cons d ds=>rw[hd]at h;rw[<-hm]at h;exact defer (by rw[hm];simp) hd h
  |nil=>
   rw[hd]at h;simp only at h
   split at h
   ·cases h
   ·rename_i hc;cases cs with
    |cons _ _=>cases h
    |nil=>
     simp only at h
     split at h
     ·rename_i hg;cases h;have e:stepG P main (G fr []) w=unwind P main fr [] none w:=by
       simp only[stepG,G,hm]
      rw[e];unfold unwind;simp only[hd,hm];rw[lu hc,ll hg];rfl
     ·cases h
end Hid
namespace Hid
open Go.RowKit Go.Conc
open Go.ConcN (sumTo)
abbrev St:=Frame×List Frame
def toS(g:Goroutine):Option St:=match g.status,g.dying,g.offers with
 |.running,none,none=>some (g.frame,g.callers)
 |_,_,_=>none
theorem b28{g:Goroutine}{s:St}(h:toS g=some s):g=G s.1 s.2:=by
 obtain⟨fr,cs,st,dy,of⟩:=g;unfold toS at h;split at h
 ·rename_i h1 h2 h3;simp only at h1 h2 h3
  subst h1 h2 h3;cases h;rfl
 ·cases h
def oneG(P:Program)(main:Bool)(s:St)(an:List An):Option (St×List Did):=
 match a10 P main s.1 s.2 an with
 |some (.go g,l)=>match toS g with
  |some s'=>some (s',l)
  |none=>none
 |_=>none
theorem ab4{P:Program}{main:Bool}{s s':St}{an:List An}{l:List Did}(h:oneG P main s an=some (s',l)){w:World}(hf:Fits l w):stepG P main (G s.1 s.2) w=.go (G s'.1 s'.2) (wOf l w) (seen P s.1.fn (esOf l).toArray):=by
 unfold oneG at h;split at h
 ·rename_i g l' hs;split at h
  ·rename_i s1 h1;cases h;rw[ai0 hs hf,b28 h1];rfl
  ·cases h
 ·cases h
def addL(f:FuncId)(l:List Did)(x:Option (St×List (FuncId×List Did))):Option (St×List (FuncId×List Did)):=match x with
 |none=>none
 |some (s,r)=>match l with
  | []=>some (s,r)
  |_=>some (s,(f,l)::r)
def runG(P:Program)(main:Bool):Nat->St->List (List An)->Option (St×List (FuncId×List Did))
 |0,s,_=>some (s,[])
 |n+1,s,ans=>match oneG P main s []with
  |some (s',l)=>addL s.1.fn l (runG P main n s' ans)
  |none=>match ans with
   |a::ans=>match oneG P main s a with
    |some (s',l)=>addL s.1.fn l (runG P main n s' ans)
    |none=>none
   | []=>none
theorem aN1{f:FuncId}{l:List Did}{x:Option (St×List (FuncId×List Did))}{y:St×List (FuncId×List Did)}(h:addL f l x=some y):(l=[]/\x=some y)\/(∃r,x=some (y.1,r)/\y.2=(f,l)::r):=by
 unfold addL at h;split at h
 ·cases h
 ·split at h
  ·cases h;exact .inl ⟨rfl,rfl⟩
  ·cases h;exact .inr ⟨_,rfl,rfl⟩
theorem aL9{P:Program}{main:Bool}{n:Nat}{s s':St}{ans:List (List An)}{ls:List (FuncId×List Did)}(h:runG P main (n+1) s ans=some (s',ls)):
  ∃s1 an l ans' r,oneG P main s an=some (s1,l)/\runG P main n s1 ans'=some (s',r)/\((l=[]/\ls=r)\/ls=(s.1.fn,l)::r):=by
 unfold runG at h;split at h
 ·rename_i s1 l h1;rcases aN1 h with⟨e,h2⟩|⟨r,h2,h3⟩
  ·exact⟨s1,_,l,_,_,h1,h2,.inl ⟨e,rfl⟩⟩
  ·exact⟨s1,_,l,_,_,h1,h2,.inr h3⟩
 ·split at h
  ·rename_i a ans';split at h
   ·rename_i s1 l h1;rcases aN1 h with⟨e,h2⟩|⟨r,h2,h3⟩
    ·exact⟨s1,_,l,_,_,h1,h2,.inl ⟨e,rfl⟩⟩
    ·exact⟨s1,_,l,_,_,h1,h2,.inr h3⟩
   ·cases h
  ·cases h
variable [LoopOK] [Junk]
section
variable {P:Program}{Post:Value->World->Prop}
def aT6(P:Program):List (FuncId×List Did)->(Trace->Prop)->World->(World->(Trace->Prop)->Prop)->Prop
 | [],T,w,K=>K w T
 |(f,l)::r,T,w,K=>(∀d,Fits l (w.at d))/\∃T',bj9 T'/\(∀t fn pos,T t->T' (t++MemOp.ofEvents 0 fn pos (seen P f (esOf l).toArray)))/\∀d,aT6 P r T' (wOf l (w.at d)) K
theorem ofEvents_none(g:Nat)(fn:FuncId)(pos:String):MemOp.ofEvents g fn pos #[] = #[]:=rfl
theorem a16:∀(n:Nat){s s':St}{ans:List (List An)}{ls:List (FuncId×List Did)},runG P true n s ans=some (s',ls)->∀{N:Nat}{T:Trace->Prop}{gs:Array Goroutine}{C:World}{sl:Option (Nat×Nat)}{t:Trace}{q:Nat->Nat},bj9 T->gs.size=N->gs[0]?=some (G s.1 s.2)->Leavers P t gs q->T t->
  (∀d,aT6 P ls T (C.at d) λC' T'=>∀d gs' sl' t' q',gs'.size=N->gs'[0]?=some (G s'.1 s'.2)->Leavers P t' gs' q'->T' t'->Wins P Post (crowd gs' (C'.at d) sl') t')->Wins P Post (crowd gs C sl) t:=by
 intro n;induction n with
 |zero=>
  intro s s' ans ls h N T gs C sl t q hT hN h0 hL ht hA;cases h;exact hA C.drawn C.drawn gs sl t q hN h0 hL ht
 |succ n ih=>
  intro s s' ans ls h N T gs C sl t q hT hN h0 hL ht hA;obtain⟨s1,an,l,ans',r,h1,h2,h3⟩:=aL9 h;rcases h3 with⟨rfl,rfl⟩|rfl
  ·refine aT0 (T':=T) hT h0 rfl hL ht λd=>⟨_,_,_,ab4 h1 (w:=C.at d) trivial,λt fn pos h=>by simpa[bs9,ofEvents_none]using h,λgs' sl' t' q' g0 gz hl' hp'=>?_⟩
   exact ih h2 hT (gz.trans hN) g0 hl' hp' λe=>hA e
  ·have hA':=λd=>hA d
   obtain⟨hf,T',hT',hev,hk⟩:=hA C.drawn;refine aT0 (T':=T') hT h0 rfl hL ht λd=>⟨_,_,_,ab4 h1 (w:=C.at d) (hf d),λt fn pos h=>hev t fn pos h,λgs' sl' t' q' g0 gz hl' hp'=>?_⟩
   have hat:∀(l:List Did)(w:World)(e:Nat),(wOf l w).at e=wOf l (w.at e):=by
    intro l;induction l with
    |nil=>intro w e;rfl
    |cons x l ihl=>intro w e;cases x<;>exact ihl _ e
   exact ih h2 hT' (gz.trans hN) g0 hl' hp' λe=>by rw[hat];exact hk e
end
def b23:List (FuncId×List Did)->World->Prop
 | [],_=>True
 |(_,l)::r,w=>Fits l w/\b23 r (wOf l w)
def wL:List (FuncId×List Did)->World->World
 | [],w=>w
 |(_,l)::r,w=>wL r (wOf l w)
def runR(P:Program)(main:Bool):Nat->St->List (List An)->Option (St×List (FuncId×List Did))
 |0,s,_=>some (s,[])
 |n+1,s,ans=>match s.1.mode with
  |.run=>match oneG P main s []with
   |some (s',l)=>addL s.1.fn l (runR P main n s' ans)
   |none=>match ans with
    |a::ans=>match oneG P main s a with
     |some (s',l)=>addL s.1.fn l (runR P main n s' ans)
     |none=>none
    | []=>none
  |_=>none
theorem bW3{P:Program}{main:Bool}{n:Nat}{s s':St}{ans:List (List An)}{ls:List (FuncId×List Did)}(h:runR P main (n+1) s ans=some (s',ls)):
  s.1.mode=.run/\∃s1 an l ans' r,oneG P main s an=some (s1,l)/\runR P main n s1 ans'=some (s',r)/\((l=[]/\ls=r)\/ls=(s.1.fn,l)::r):=by
 unfold runR at h;split at h
 ·rename_i hm;refine⟨hm,?_⟩;split at h
  ·rename_i s1 l h1;rcases aN1 h with⟨e,h2⟩|⟨r,h2,h3⟩
   ·exact⟨s1,_,l,_,_,h1,h2,.inl ⟨e,rfl⟩⟩
   ·exact⟨s1,_,l,_,_,h1,h2,.inr h3⟩
  ·split at h
   ·rename_i a ans';split at h
    ·rename_i s1 l h1;rcases aN1 h with⟨e,h2⟩|⟨r,h2,h3⟩
     ·exact⟨s1,_,l,_,_,h1,h2,.inl ⟨e,rfl⟩⟩
     ·exact⟨s1,_,l,_,_,h1,h2,.inr h3⟩
    ·cases h
   ·cases h
 ·cases h
theorem ad6{p:Program}{f:FuncId}{Q:Value->World->Prop}:∀(n:Nat){s s':St}{ans:List (List An)}{ls:List (FuncId×List Did)},runR p true n s ans=some (s',ls)->∀{L:World},b23 ls L->
  Tree p (AtRet p f Q) (G s.1 s.2) L->Tree p (AtRet p f Q) (G s'.1 s'.2) (wL ls L)/\Later p (G s.1 s.2) L (G s'.1 s'.2) (wL ls L):=by
 intro n;induction n with
 |zero=>intro s s' ans ls h L hf ht;cases h;exact⟨ht,.refl _ _⟩
 |succ n ih=>
  intro s s' ans ls h L hf ht;obtain⟨hm,s1,an,l,ans',r,h1,h2,h3⟩:=bW3 h;have hfl:Fits l L/\b23 r (wOf l L)/\wL ls L=wL r (wOf l L):=by
   rcases h3 with⟨rfl,rfl⟩|rfl
   ·exact⟨trivial,hf,rfl⟩
   ·exact⟨hf.1,hf.2,rfl⟩
  have e:=ab4 h1 (w:=L) hfl.1;have e':stepG p true (G s.1 s.2) (L.at L.drawn)=.go (G s1.1 s1.2) (wOf l L) (seen p s.1.fn (esOf l).toArray):=e;obtain⟨k1,k2⟩:=ih h2 hfl.2.1 (ht.adv (au4 hm) e');rw[hfl.2.2];exact⟨k1,.step e' k2⟩
end Hid
namespace Hid
open Go.RowKit Go.Conc
structure LB(P:Program)(t:Trace)(gs:Array Goroutine)(n:Nat)(q:Nat->Nat):Prop where
 old:∀i g,0<i->i≠n->gs[i]?=some g->QuitsD P (q i) (Deaf t i) g
 above:∀j,gs.size<=j->Deaf t j=0
 lt:n<gs.size
 pos:0<n
section
variable {P:Program}{t t':Trace}{gs gs':Array Goroutine}{n:Nat}{q:Nat->Nat}
theorem LB.upd(h:LB P t gs n q)(hs:gs'.size=gs.size)(hg:∀i g,0<i->i≠n->gs'[i]?=some g->gs[i]?=some g)(hd:∀i,i≠0->i≠n->Deaf t' i=Deaf t i):LB P t' gs' n q:=by
 have:=h.lt
 have:=h.pos
 exact⟨λi g hi hn hx=>by rw[hd i (by omega) hn];exact h.old i g hi hn (hg i g hi hn hx),λj hj=>by rw[hd j (by omega) (by omega)];exact h.above j (by omega),by omega,h.pos⟩
theorem LB.step(h:LB P t gs n q){k:Nat}(hk:k=0\/k=n)(g g':Goroutine)(w:World){u:Trace}(hu:∀op∈u,op.g=0\/op.g=n):LB P (t++u) ((gs.map (woken P g g' w)).setIfInBounds k g') n q:=by
 have h1:=h.lt;have h2:=h.pos;refine h.upd (by simp) (λi x hi hn hx=>?_) λi hi hn=>?_
 ·rw[lj (by omega),xc]at hx;obtain⟨y,hy,rfl⟩:=xl.1 hx;rw[woken_quitsD (h.old i y hi hn hy)];exact hy
 ·obtain⟨l⟩:=u;rw[Deaf_append];have:∀(l:List MemOp)(d:Nat),(∀op∈l,op.g=0\/op.g=n)->l.foldl (deafStep i) d=d:=by
   intro l;induction l with
   |nil=>intro d _;rfl
   |cons y l ih=>
    intro d hl;rw[uV,ih _ λop hop=>hl op (by simp[hop])];have hy:=hl y (by simp);have:y.g≠i:=by rcases hy with e|e<;>rw[e]<;>omega
    unfold deafStep;split<;>simp[this]
  exact this l _ λop hop=>hu op (by simpa using hop)
theorem LB.set(h:LB P t gs n q)(x y:Goroutine){u:Trace}(hu:∀op∈u,op.g=0\/op.g=n):LB P (t++u) ((gs.setIfInBounds 0 x).setIfInBounds n y) n q/\LB P (t++u) ((gs.setIfInBounds n y).setIfInBounds 0 x) n q/\LB P (t++u) (gs.setIfInBounds 0 x) n q/\LB P (t++u) (gs.setIfInBounds n y) n q:=by
 have h1:=h.lt;have h2:=h.pos;have hd:∀i,i≠0->i≠n->Deaf (t++u) i=Deaf t i:=λi hi hn=>by
  obtain⟨l⟩:=u;rw[Deaf_append];have:∀(l:List MemOp)(d:Nat),(∀op∈l,op.g=0\/op.g=n)->l.foldl (deafStep i) d=d:=by
   intro l;induction l with
   |nil=>intro d _;rfl
   |cons y l ih=>
    intro d hl;rw[uV,ih _ λop hop=>hl op (by simp[hop])];have hy:=hl y (by simp);have:y.g≠i:=by rcases hy with e|e<;>rw[e]<;>omega
    unfold deafStep;split<;>simp[this]
  exact this l _ λop hop=>hu op (by simpa using hop)
 refine⟨h.upd (by simp) (λi x hi hn hx=>?_) hd,h.upd (by simp) (λi x hi hn hx=>?_) hd,h.upd (by simp) (λi x hi hn hx=>?_) hd,h.upd (by simp) (λi x hi hn hx=>?_) hd⟩
 ·rw[lj (by omega),lj (by omega)]at hx;exact hx
 ·rw[lj (by omega),lj (by omega)]at hx;exact hx
 ·rw[lj (by omega)]at hx;exact hx
 ·rw[lj (by omega)]at hx;exact hx
end
def FB(bx:Nat->Option Obj)(w:World):Prop:=∀b o,bx b=some o->w.heap[b]?=some o
def WgS(Wg:Nat)(tW:TypeId)(w:World)(st sm:Int):Prop:=w.heap[Wg]?=some (.cells #[.int .u64 st,.int .u32 sm] tW (0,0))
def ChS(Ch:Nat)(w:World)(cl:Bool):Prop:=∃s r,w.heap[Ch]?=some (.chan 0 #[] cl s r false)
def KK:Int:=4294967296
inductive Ph
 |opn
 |cls
 |reg
 deriving DecidableEq
def Ev0(A:Area)(Low:Nat)(e:Event):Prop:=A.ok0 (.ofEvent e)/\(MemAct.ofEvent e).low Low
def WgL(Wg:Nat)(tW:TypeId)(w:World):Prop:=∃s m,WgS Wg tW w s m
structure Env where
 P:Program
 A:Area
 bx:Nat->Option Obj
 tW:TypeId
 n3:Nat
 Low:Nat
 item:Nat->Value
 PX:Bool->Nat->St->Prop
inductive PS(E:Env):Nat->Ph->Nat->Goroutine->Prop
 |quiet {nx:Nat}{ph:Ph}{d:Nat}{s s1:St}{es:Array Event}(h:∀w,FB E.bx w->WgL E.A.Wg E.tW w->stepG E.P true (G s.1 s.2) w=.go (G s1.1 s1.2) w es) (he:∀e∈es,Ev0 E.A E.Low e) (k:PS E nx ph (deafBehind d es) (G s1.1 s1.2)):PS E nx ph d (G s.1 s.2)
 |send {nx:Nat}{s:St}(h:∀w,FB E.bx w->stepG E.P true (G s.1 s.2) w=.comm (G s.1 s.2) #[scase E.A.Ch (E.item nx) (.tuple #[])] true .send w #[]) (hn:nx<E.n3) (k:PS E (nx+1) .opn 0 (G (s.1.finish undef) s.2)):PS E nx .opn 0 (G s.1 s.2)
 |parked {nx:Nat}{s:St}(hn:nx<E.n3) (k:PS E (nx+1) .opn 0 (G (s.1.finish undef) s.2)):PS E nx .opn 0 (parked (G s.1 s.2) #[scase E.A.Ch (E.item nx) (.tuple #[])] .send)
 | close {s s1:St}{es:Array Event}(h:∀w s' r',FB E.bx w->w.heap[E.A.Ch]?=some (.chan 0 #[] false s' r' false)->stepG E.P true (G s.1 s.2) w=.go (G s1.1 s1.2) {w with heap:=w.heap.setIfInBounds E.A.Ch (.chan 0 #[] true s' r' false)} es)
   (hm:mayWake E.P (G s.1 s.2)=true) (he:∀e∈es,Ev0 E.A E.Low e) (hd:deafBehind 0 es=0) (k:PS E E.n3 .cls 0 (G s1.1 s1.2)):PS E E.n3 .opn 0 (G s.1 s.2)
 | w1 {nx d:Nat}{s s1 s0:St}{es:Array Event}(h1:∀w,FB E.bx w->WgS E.A.Wg E.tW w KK 0->stepG E.P true (G s.1 s.2) w=.go (G s1.1 s1.2) w es) (k1:PS E nx .cls (deafBehind d es) (G s1.1 s1.2))
   (h0:∀w,FB E.bx w->WgS E.A.Wg E.tW w 0 0->stepG E.P true (G s.1 s.2) w=.go (G s0.1 s0.2) w es) (k0:E.PX true (deafBehind d es) s0) (he:∀e∈es,Ev0 E.A E.Low e):PS E nx .cls d (G s.1 s.2)
 | w2 {nx d:Nat}{s s1 s0:St}{es es0:Array Event}(h1:∀w,FB E.bx w->WgS E.A.Wg E.tW w KK 0->stepG E.P true (G s.1 s.2) w=.go (G s1.1 s1.2) (w.setCell ⟨E.A.Wg,0,none⟩ (.int .u64 (KK+1))) es) (k1:PS E nx .reg (deafBehind d es) (G s1.1 s1.2))
   (h0:∀w,FB E.bx w->WgS E.A.Wg E.tW w 0 0->stepG E.P true (G s.1 s.2) w=.go (G s0.1 s0.2) w es0) (k0:E.PX true (deafBehind d es0) s0) (he:∀e∈es,Ev0 E.A E.Low e) (he0:∀e∈es0,Ev0 E.A E.Low e):PS E nx .cls d (G s.1 s.2)
 | w3 {nx d:Nat}{s s1:St}{es:Array Event}(hb:∀w st,FB E.bx w->WgS E.A.Wg E.tW w st 0->stepG E.P true (G s.1 s.2) w=.go {G s.1 s.2 with status:= .blocked} w #[])
   (hf:∀w,FB E.bx w->WgS E.A.Wg E.tW w 0 1->stepG E.P true (G s.1 s.2) w=.go (G s1.1 s1.2) (w.setCell ⟨E.A.Wg,1,none⟩ (.int .u32 0)) es) (k:E.PX false (deafBehind d es) s1) (he:∀e∈es,Ev0 E.A E.Low e):PS E nx .reg d (G s.1 s.2)
 |blk {nx d:Nat}{s:St}(k:PS E nx .reg d (G s.1 s.2)):PS E nx .reg d {G s.1 s.2 with status:= .blocked}
def Ph.cl:Ph->Bool
 |.opn=>false
 |_=>true
def Ph.st:Ph->Int
 |.reg=>KK+1
 |_=>KK
structure TProp(A:Area)(T:Nat->Trace->Prop):Prop where
 app0:∀B B' t u,T B t->B<=B'->(∀op∈u,op.g=0)->(∀op∈u,A.ok0 op.act)->(∀op∈u,op.act.low B')->T B' (t++u)
 mute:∀B t u,T B t->(∀op∈u,op.act.touch?=none)->(∀op∈u,op.act≠.mark (.release (st0 A.Wg)))->(∀op∈u,op.act.low B)->T B (t++u)
theorem al2{A:Area}(hA:Apart A):TProp A (TI A):=⟨λ_ _ _ _ h hB hg hu hl=>h.app0 hA hB hg hu hl,λ_ _ _ h hn hr hl=>h.mute hn hr hl⟩
structure Inv[LoopOK][Junk](E:Env)(B0:Nat)(T:Nat->Trace->Prop)(st:Ph->Int)(nx:Nat)(dn:Nat)(b:Goroutine)(L:World)(ph:Ph)(d:Nat)(a:Goroutine)(gs:Array Goroutine)(C:World)(t:Trace)(q:Nat->Nat):Prop where
 g0:gs[0]?=some a
 gn:gs[E.A.n]?=some b
 lb:LB E.P t gs E.A.n q
 wr:WR C L
 old:∀b:Nat,b<B0->C.heap[b]?=U b L.heap[b]?
 tape:C.tape=L.tape
 low:E.Low<=L.heap.size
 shun:∀l,E.A.Shun l->∃a T fz,l=.cell a/\L.heap[a.block]?=some (.cells #[] T fz)
 bx:FB E.bx C
 ch:ChS E.A.Ch C ph.cl
 chL:L.heap[E.A.Ch]?=some (.chan 0 #[] false 0 0 false)
 wg:WgS E.A.Wg E.tW C (st ph) 0
 hidb:∀b o,E.bx b=some o->∃T fz,L.heap[b]?=some (.cells #[] T fz)
 hidw:∃T fz,L.heap[E.A.Wg]?=some (.cells #[] T fz)
 tr:T C.heap.size t
 d0:Deaf t 0=d
 dn:Deaf t E.A.n=dn
 ps:PS E nx ph d a
 cn:ph≠.opn->nx=E.n3
end Hid
namespace Hid
open Go.RowKit Go.Conc
variable [LoopOK] [Junk]
section
variable {E:Env}{B0:Nat}{T:Nat->Trace->Prop}{st:Ph->Int}{nx dn:Nat}{b:Goroutine}{L:World}{Post:Value->World->Prop}
theorem ae0{g:Nat}{fn:FuncId}{pos:String}{es:Array Event}:∀op∈MemOp.ofEvents g fn pos es,op.g=g:=λop hop=>by obtain⟨e,_,rfl⟩:=lJ hop;rfl
theorem at0{A:Area}{Low:Nat}{fn:FuncId}{pos:String}{es:Array Event}(he:∀e∈es,Ev0 A Low e):(∀op∈MemOp.ofEvents 0 fn pos es,A.ok0 op.act)/\∀op∈MemOp.ofEvents 0 fn pos es,op.act.low Low:=
 ⟨λop hop=>by obtain⟨e,h,rfl⟩:=lJ hop;exact(he e h).1,λop hop=>by obtain⟨e,h,rfl⟩:=lJ hop;exact(he e h).2⟩
theorem FB.at{bx:Nat->Option Obj}{w:World}(h:FB bx w)(d:Nat):FB bx (w.at d):=h
theorem Inv.at{ph:Ph}{d:Nat}{a:Goroutine}{gs:Array Goroutine}{C:World}{t:Trace}{q:Nat->Nat}(h:Inv E B0 T st nx dn b L ph d a gs C t q)(e:Nat):Inv E B0 T st nx dn b (L.at e) ph d a gs (C.at e) t q:=
 ⟨h.g0,h.gn,h.lb,⟨h.wr.os,h.wr.out,h.wr.size,h.wr.blk,h.wr.nv,h.wr.np,h.wr.lp⟩,h.old,h.tape,h.low,h.shun,h.bx,h.ch,h.chL,h.wg,h.hidb,h.hidw,h.tr,h.d0,h.dn,h.ps,h.cn⟩
theorem Inv.atC{ph:Ph}{d:Nat}{a:Goroutine}{gs:Array Goroutine}{C:World}{t:Trace}{q:Nat->Nat}(h:Inv E B0 T st nx dn b L ph d a gs C t q)(e:Nat):Inv E B0 T st nx dn b L ph d a gs (C.at e) t q:=
 ⟨h.g0,h.gn,h.lb,⟨h.wr.os,h.wr.out,h.wr.size,h.wr.blk,h.wr.nv,h.wr.np,h.wr.lp⟩,h.old,h.tape,h.low,h.shun,h.bx,h.ch,h.chL,h.wg,h.hidb,h.hidw,h.tr,h.d0,h.dn,h.ps,h.cn⟩
theorem bg5(w:World)(r:Nat)(o:Obj)(b:Nat):({w with heap:=w.heap.setIfInBounds r o}:World).heap[b]?=if b=r/\b<w.heap.size then some o else w.heap[b]?:=by
 show(w.heap.setIfInBounds r o)[b]?=_;by_cases h:b=r
 ·subst h;by_cases hl:b<w.heap.size
  ·rw[ll ⟨rfl,hl⟩,lm hl]
  ·rw[lu (λhh=>hl hh.2),xX (by simp;omega),xX (by omega)]
 ·rw[lu (λhh=>h hh.1),lj (λe=>h e.symm)]
theorem Inv.chan{ph ph':Ph}{d d':Nat}{a a' b':Goroutine}{gs gs':Array Goroutine}{C:World}{t t':Trace}{q:Nat->Nat}{nx' dn':Nat}(h:Inv E B0 T st nx dn b L ph d a gs C t q)(hA:Apart E.A)(hB:∀b o,E.bx b=some o->E.A.Bx b)(hCW:E.A.Ch≠E.A.Wg)(hCB:E.bx E.A.Ch=none)(hC0:B0<=E.A.Ch)
  {cl:Bool}{s r:Nat}(hcl:cl=ph'.cl) (hst:st ph'=st ph) (h0:gs'[0]?=some a') (hn:gs'[E.A.n]?=some b') (hl:LB E.P t' gs' E.A.n q) (htr:T C.heap.size t') (hd:Deaf t' 0=d') (hdn:Deaf t' E.A.n=dn') (hps:PS E nx' ph' d' a') (hcn:ph'≠.opn->nx'=E.n3):
  Inv E B0 T st nx' dn' b' L ph' d' a' gs' {C with heap:=C.heap.setIfInBounds E.A.Ch (.chan 0 #[] cl s r false)} t' q:=by
 have hsz:=h.wr.size;obtain⟨s0,r0,hch⟩:=h.ch;have hlt:E.A.Ch<C.heap.size:=(li.1 hch).1;have e1:=bg5 C E.A.Ch (.chan 0 #[] cl s r false);have ne:∀b,b≠E.A.Ch->({C with heap:=C.heap.setIfInBounds E.A.Ch (.chan 0 #[] cl s r false)}:World).heap[b]?=C.heap[b]?:=λb hb=>by rw[e1,lu (λhh=>hb hh.1)]
 refine⟨h0,hn,hl,⟨h.wr.os,h.wr.out,by simp[hsz],λb o ho=>?_,h.wr.nv,h.wr.np,h.wr.lp⟩,λb hb=>?_,h.tape,h.low,h.shun,λb o hb=>?_,⟨s,r,?_⟩,h.chL,?_,h.hidb,h.hidw,by simpa using htr,hd,hdn,hps,hcn⟩
 ·by_cases hc:b=E.A.Ch
  ·subst hc;refine⟨_,by rw[e1,ll ⟨rfl,hlt⟩],.inr (.inr ?_)⟩;rw[h.chL]at ho;exact .inl ⟨0,cl,s,r,false,0,0,rfl,(sj ho).symm⟩
  ·rw[ne b hc];exact h.wr.blk b o ho
 ·rw[ne b (by omega)];exact h.old b hb
 ·rw[ne b (λhc=>by subst hc;rw[hCB]at hb;cases hb)];exact h.bx b o hb
 ·rw[e1,ll ⟨rfl,hlt⟩,hcl]
 ·unfold WgS;rw[ne _ (xG hCW),hst];exact h.wg
structure EOK(E:Env)(B0:Nat):Prop where
 ap:Apart E.A
 bx:∀b o,E.bx b=some o->E.A.Bx b
 bx':∀b,E.A.Bx b->∃o,E.bx b=some o
 cw:E.A.Ch≠E.A.Wg
 cb:E.bx E.A.Ch=none
 wb:E.bx E.A.Wg=none
 c0:B0<=E.A.Ch
 w0:B0<=E.A.Wg
 cl:E.A.Ch<E.Low
 wl:E.A.Wg<E.Low
theorem PS.status{ph:Ph}{d:Nat}{a:Goroutine}(h:PS E nx ph d a):a.status=.running\/a.status=.blocked:=by
 cases h<;>first|exact .inl rfl|exact .inr rfl
theorem PS.woken{ph:Ph}{d:Nat}{a:Goroutine}(h:PS E nx ph d a){w:World}(hc:ChS E.A.Ch w ph.cl)(g g':Goroutine):PS E nx ph d (woken E.P g g' w a):=by
 have run:∀s:St,Go.Conc.woken E.P g g' w (G s.1 s.2)=G s.1 s.2:=λs=>woken_run rfl
 cases h with
 |quiet h he k=>rw[run];exact .quiet h he k
 |send h hn k=>rw[run];exact .send h hn k
 |close h hm he hd k=>rw[run];exact .close h hm he hd k
 |w1 h1 k1 h0 k0 he=>rw[run];exact .w1 h1 k1 h0 k0 he
 |w2 h1 k1 h0 k0 he he0=>rw[run];exact .w2 h1 k1 h0 k0 he he0
 |w3 hb hf k he=>rw[run];exact .w3 hb hf k he
 |parked hn k=>
  obtain⟨s,r,hc⟩:=hc;rw[woken_send_open g g' hc];exact .parked hn k
 |@blk _ _ s k=>
  unfold Go.Conc.woken;split
  ·exact k
  ·exact .blk k
theorem Inv.keep{ph:Ph}{d d':Nat}{a a' b':Goroutine}{gs gs':Array Goroutine}{C:World}{t t':Trace}{q q':Nat->Nat}{dn':Nat}(h:Inv E B0 T st nx dn b L ph d a gs C t q)
  (h0:gs'[0]?=some a') (hn:gs'[E.A.n]?=some b') (hl:LB E.P t' gs' E.A.n q') (htr:T C.heap.size t') (hd:Deaf t' 0=d') (hdn:Deaf t' E.A.n=dn') (hps:PS E nx ph d' a'):Inv E B0 T st nx dn' b' L ph d' a' gs' C t' q':=
 ⟨h0,hn,hl,h.wr,h.old,h.tape,h.low,h.shun,h.bx,h.ch,h.chL,h.wg,h.hidb,h.hidw,htr,hd,hdn,hps,h.cn⟩
theorem Inv.group{ph ph':Ph}{d d':Nat}{a a' b':Goroutine}{gs gs':Array Goroutine}{C:World}{t t':Trace}{q:Nat->Nat}{dn':Nat}{T':Nat->Trace->Prop}{st':Ph->Int}(h:Inv E B0 T st nx dn b L ph d a gs C t q)(hE:EOK E B0)(i:Nat)(v:Value)
  (hcl:ph'.cl=ph.cl) (hw:WgS E.A.Wg E.tW (C.setCell ⟨E.A.Wg,i,none⟩ v) (st' ph') 0) (h0:gs'[0]?=some a') (hn:gs'[E.A.n]?=some b') (hl:LB E.P t' gs' E.A.n q) (htr:T' C.heap.size t') (hd:Deaf t' 0=d') (hdn:Deaf t' E.A.n=dn') (hps:PS E nx ph' d' a'):
  Inv E B0 T' st' nx dn' b' L ph' d' a' gs' (C.setCell ⟨E.A.Wg,i,none⟩ v) t' q:=by
 have ne:∀b,b≠E.A.Wg->(C.setCell ⟨E.A.Wg,i,none⟩ v).heap[b]?=C.heap[b]?:=λb hb=>by rw[heap_set,lu hb]
 have hsz:(C.setCell ⟨E.A.Wg,i,none⟩ v).heap.size=C.heap.size:=by simp[World.setCell]
 refine⟨h0,hn,hl,⟨h.wr.os,h.wr.out,hsz.trans h.wr.size,λb o ho=>?_,h.wr.nv,h.wr.np,h.wr.lp⟩,λb hb=>?_,h.tape,h.low,h.shun,λb o hb=>?_,?_,h.chL,hw,h.hidb,h.hidw,by rw[hsz];exact htr,hd,hdn,hps,λhn=>h.cn λe=>hn ?_⟩
 ·by_cases hc:b=E.A.Wg
  ·subst hc;obtain⟨T0,fz,hL⟩:=h.hidw;obtain⟨o',k1,k2⟩:=h.wr.blk _ _ ho;have hC:=h.wg;unfold WgS at hC;rw[hL]at ho;cases ho;rw[hC]at k1;cases k1;rcases k2 with k2|⟨T1,c1,k2,k3⟩|⟨_,_,_,_,_,_,_,k2,_⟩|⟨⟨_,_,k2⟩,_⟩;rotate_left 3
   ·cases k2
   ·cases k2
   ·cases k2;cases k3;exact⟨_,hw,.inr (.inl ⟨_,_,rfl,rfl⟩)⟩
   ·cases k2
  ·rw[ne b hc];exact h.wr.blk b o ho
 ·rw[ne b (by have:=hE.w0;omega)];exact h.old b hb
 ·rw[ne b (λhc=>by subst hc;rw[hE.wb]at hb;cases hb)];exact h.bx b o hb
 ·obtain⟨s,r,hc⟩:=h.ch;exact⟨s,r,by rw[ne _ hE.cw,hcl];exact hc⟩
 ·subst e;cases ph'<;>first|rfl|cases hcl
theorem aL0{Wg:Nat}{tW:TypeId}{w:World}{s m:Int}(h:WgS Wg tW w s m)(v:Int):WgS Wg tW (w.setCell ⟨Wg,0,none⟩ (.int .u64 v)) v m:=by
 unfold WgS at *
 rw[heap_set,ll rfl,h];rfl
theorem bq8{Wg:Nat}{tW:TypeId}{w:World}{s m:Int}(h:WgS Wg tW w s m)(v:Int):WgS Wg tW (w.setCell ⟨Wg,1,none⟩ (.int .u32 v)) s v:=by
 unfold WgS at *
 rw[heap_set,ll rfl,h];rfl
theorem ap8{P:Program}{t:Trace}{gs:Array Goroutine}{n:Nat}{q:Nat->Nat}(h:LB P t gs n q){i k c:Nat}{send:Bool}(hi:(i=0/\k=n)\/(i=n/\k=0)){x:Goroutine}(hx:gs[k]?=some x):
  (offersAt x c send=[]->partners (gs.setIfInBounds i ph) c send=[])/\(∀l,offersAt x c send=l->partners (gs.setIfInBounds i ph) c send=l.map λm=>(k,m)):=by
 have hpos:=h.pos;have other:∀(j:Nat)(g:Goroutine),j≠k->(gs.setIfInBounds i ph)[j]?=some g->offersAt g c send=[]:=λj g hj hg=>by
  rcases getElem?_stand gs i j g hg with⟨_,rfl⟩|⟨hji,hg'⟩
  ·exact offersAt_ph _ _
  ·refine offersAt_of_not_blocked (λe=>?_) _ _;have:=(h.old j g (by omega) (by omega) hg').status
   rw[e]at this;rcases this with x|x<;>cases x
 have hk:(gs.setIfInBounds i ph)[k]?=some x:=by
  rw[lj (by omega)];exact hx
 refine⟨λho=>partners_nil λj g hg=>?_,λl hl=>?_⟩
 ·by_cases hj:j=k
  ·subst hj;rw[hk]at hg;cases hg;exact ho
  ·exact other j g hj hg
 ·rw[partners_one hk λj g hj hg=>other j g hj hg,hl]
theorem a38(g:Nat)(fn:FuncId)(pos:String)(t:Trace):t++MemOp.ofEvents g fn pos #[]=t:=by simp[ofEvents_none]
theorem Inv.cr9(hE:EOK E B0)(hT:TProp E.A T){ph:Ph}{d:Nat}{a b':Goroutine}{gs:Array Goroutine}{C:World}{t:Trace}{q:Nat->Nat}(h:Inv E B0 T st nx dn b L ph d a gs C t q){i:Nat}{g:Goroutine}(h0:0<i)(hn:i≠E.A.n)(hi:gs[i]?=some g)(hg:g.status=.running)
  (hb':∀g' w',w'.heap=C.heap->woken E.P g g' w' b=b'):∃g' es k,q i=k+1/\stepG E.P false g C=.go g' C es/\
   Inv E B0 T st nx dn b' L ph d (woken E.P g g' C a) ((gs.map (woken E.P g g' C)).setIfInBounds i g') C (t++MemOp.ofEvents i g.frame.fn g.frame.place es) (upd q i k):=by
 have hq:=h.lb.old i g h0 hn hi;have hlt:i<gs.size:=(li.1 hi).1;cases hqi:q i with
 |zero=>rw[hqi]at hq;rw[hq.1]at hg;cases hg
 |succ k=>
  rw[hqi]at hq;rcases hq with⟨hf,_⟩|⟨_,g',es,hm,hstp,hq'⟩
  ·rw[hf]at hg;cases hg
  refine⟨g',es,k,rfl,hstp C,?_⟩;have hpos:=h.lb.pos;have hlt':=h.lb.lt;refine h.keep ?_ ?_ ⟨λj x hj hjn hx=>?_,λj hj=>?_,by simp;exact hlt',hpos⟩ (hT.mute _ _ _ h.tr (λop hop=>?_) (λop hop=>?_) λop hop=>?_) ?_ ?_ (h.ps.woken h.ch _ _)
  ·rw[lj (by omega),xc,h.g0];rfl
  ·rw[lj hn,xc,h.gn];exact congrArg some (hb' g' C rfl)
  ·by_cases hji:i=j
   ·subst hji;rw[lm (by simpa using hlt)]at hx;obtain rfl:=sj hx
    rw[upd_same,Deaf_own];exact hq'
   ·rw[lj hji,xc]at hx;obtain⟨y,hy,rfl⟩:=xl.1 hx;have hqj:=h.lb.old j y hj hjn hy;rw[woken_quitsD hqj,upd_ne q k (xG hji),Deaf_other t hji _ ae0];exact hqj
  ·rw[Deaf_other t (g':=i) (by simp at hj;omega) _ ae0];exact h.lb.above j (by simpa using hj)
  ·obtain⟨e,he,rfl⟩:=lJ hop;exact touch_mute (hm e he)
  ·obtain⟨e,he,rfl⟩:=lJ hop;have:=hm e he
   obtain⟨loc,wr,sy⟩:=e;cases loc with
   |mark m=>cases m<;>simp_all [Event.mute,MemAct.ofEvent]
   |_=>simp[Event.mute]at this
  ·obtain⟨e,he,rfl⟩:=lJ hop;exact low_mute (hm e he) _
  ·rw[Deaf_other t (g':=i) (by omega) _ ae0];exact h.d0
  ·rw[Deaf_other t (g':=i) hn _ ae0];exact h.dn
end
end Hid
namespace Hid
open Go.RowKit Go.Conc
variable [LoopOK] [Junk]
section
variable {E:Env}{B0:Nat}{T:Nat->Trace->Prop}{st:Ph->Int}{dn:Nat}{b:Goroutine}{L:World}{Post:Value->World->Prop}
theorem trio(hE:EOK E B0)(hT:TProp E.A T){nx:Nat}{ph:Ph}{d:Nat}{a:Goroutine}(hab:a.status=.running\/b.status=.running)(hbs:b.status=.running\/∃cs sh,b=parked b cs sh)
  (hbw:∀g g' C,ChS E.A.Ch C ph.cl->woken E.P g g' C b=b) {M:Nat}
  (hleaver:∀a' gs' C' sl' t' q',(a.status=.running->a'.status=.running)->sumTo gs'.size q'<M->Inv E B0 T st nx dn b L ph d a' gs' C' t' q'->Wins E.P Post (crowd gs' C' sl') t')
  (hwork:b.status=.running->∀gs C sl t q,Inv E B0 T st nx dn b L ph d a gs C t q->∃m' ops,runT E.P (crowd gs C sl) E.A.n=(.next m',ops)/\Wins E.P Post m' (t++ops))
  (hpar:a.status=.running->∀gs C sl t q,sumTo gs.size q<=M->Inv E B0 T st nx dn b L ph d a gs C t q->∃m' ops,runT E.P (crowd gs C sl) 0=(.next m',ops)/\Wins E.P Post m' (t++ops))
  (gs:Array Goroutine) (C:World) (sl:Option (Nat×Nat)) (t:Trace) (q:Nat->Nat) (hM:sumTo gs.size q<=M) (h:Inv E B0 T st nx dn b L ph d a gs C t q):Wins E.P Post (crowd gs C sl) t:=by
 have hpos:=h.lb.pos;have hlt:=h.lb.lt;have hb':b.status=.running\/b.status=.blocked:=hbs.imp id λ⟨cs,sh,e⟩=>by rw[e];rfl
 have haw:∀g∈gs,awake g:=by
  intro g hg;obtain⟨i,hi,rfl⟩:=ui.1 hg;have e:=lF hi;rcases xB i with rfl|hp
  ·rw[h.g0]at e;cases e;exact awake_of (h.ps.status.imp id .inl)
  ·by_cases hn:i=E.A.n
   ·subst hn;rw[h.gn]at e;obtain rfl:=sj e
    exact awake_of (hb'.imp id .inl)
   ·exact awake_of ((h.lb.old i _ hp hn e).status.elim .inl λx=> .inr (.inr x))
 obtain⟨i,g,dd,sl',hi,hg,hst⟩:=crowd_pick (P:=E.P) (w:=C) (sl:=sl) haw (by
  rcases hab with ha|hb
  ·exact⟨0,a,h.g0,ha⟩
  ·exact⟨E.A.n,b,h.gn,hb⟩)
 rcases xB i with rfl|hp
 ·obtain rfl:g=a:=by rw[h.g0]at hi;exact(sj hi).symm
  obtain⟨m',ops,h1,h2⟩:=hpar hg gs (C.at dd) sl' t q hM (h.atC dd);exact .step (hst.trans h1) h2
 ·by_cases hn:i=E.A.n
  ·subst hn;obtain rfl:g=b:=by rw[h.gn]at hi;exact(sj hi).symm
   obtain⟨m',ops,h1,h2⟩:=hwork hg gs (C.at dd) sl' t q (h.atC dd);exact .step (hst.trans h1) h2
  ·obtain⟨g',es,k,hq,hgo,hinv⟩:=(h.atC dd).cr9 hE hT hp hn hi hg (b':=b) (λg' w' hw=>hbw g g' w' (by
    obtain⟨s,r,hc⟩:=h.ch;exact⟨s,r,by rw[hw];exact hc⟩))
   have hi0:(i==0)=false:=by simp;omega
   have hrunT:=runT_crowd_go (P:=E.P) (sl:=sl') (i:=i) hi (by rw[hi0];exact hgo);have hlti:i<gs.size:=(li.1 hi).1;refine .step (hst.trans hrunT) (hleaver _ _ _ _ _ _ (λha=>?_) ?_ hinv)
   ·rw[woken_run ha];exact ha
   ·have hsz:((gs.map (woken E.P g g' (C.at dd))).setIfInBounds i g').size=gs.size:=by simp
    rw[hsz];have hsum:sumTo gs.size (upd q i k)+(k+1)=sumTo gs.size q+k:=by
     have:=sumTo_upd q k id hlti
     simpa[hq]using this
    omega
theorem bE4(hb:b.status=.running)(P:Program)(g g':Goroutine)(C:World):woken P g g' C b=b:=woken_run hb
theorem bt6(hE:EOK E B0)(hT:TProp E.A T){nx:Nat}{ph:Ph}{d:Nat}{s:St}{es:Array Event}(hbw:∀g g' C,ChS E.A.Ch C ph.cl->woken E.P g g' C b=b){gs:Array Goroutine}{C:World}{sl:Option (Nat×Nat)}{t:Trace}{q:Nat->Nat}(h:Inv E B0 T st nx dn b L ph d (G s.1 s.2) gs C t q)
  {a':Goroutine}(hs:stepG E.P true (G s.1 s.2) C=.go a' C es) (he:∀e∈es,Ev0 E.A E.Low e) (k:PS E nx ph (deafBehind d es) a'):
  ∃gs',runT E.P (crowd gs C sl) 0=(.next (crowd gs' C sl),MemOp.ofEvents 0 s.1.fn s.1.place es)/\gs'.size=gs.size/\Inv E B0 T st nx dn b L ph (deafBehind d es) a' gs' C (t++MemOp.ofEvents 0 s.1.fn s.1.place es) q:=by
 have hpos:=h.lb.pos;have hlt:=h.lb.lt;refine⟨_,runT_crowd_go (P:=E.P) (sl:=sl) (i:=0) h.g0 (by exact hs),by simp,h.keep ?_ ?_ (h.lb.step (.inl rfl) _ _ _ λop hop=> .inl (ae0 op hop)) (hT.app0 _ _ _ _ h.tr (lh _) ae0 (at0 he).1 λop hop=>MemAct.low_mono (by rw[h.wr.size];exact h.low) ((at0 he).2 op hop)) ?_ ?_ k⟩
 ·rw[lm (by simp;omega)]
 ·rw[lj (by omega),xc,h.gn];exact congrArg some (hbw _ _ _ h.ch)
 ·rw[Deaf_own,h.d0]
 ·rw[Deaf_other t (g':=0) (by omega) _ ae0];exact h.dn
theorem E1(hE:EOK E B0)(hT:TProp E.A T)(hb:b.status=.running){R:Ph->Prop}(hR1:R .opn->R .cls)(hR2:R .cls->R .reg)(hRs:∀ph,R ph->st=Ph.st\/ph=.reg):∀(M:Nat){nx:Nat}{ph:Ph}{d:Nat}{a:Goroutine},PS E nx ph d a->R ph->
  (∀ph d a gs C sl t q,Inv E B0 T st nx dn b L ph d a gs C t q->R ph->∃m' ops,runT E.P (crowd gs C sl) E.A.n=(.next m',ops)/\Wins E.P Post m' (t++ops))->
  ∀gs C sl t q,sumTo gs.size q<=M->Inv E B0 T st nx dn b L ph d a gs C t q->Wins E.P Post (crowd gs C sl) t:=by
 intro M;induction M using Nat.strongRecOn with
 |_ M ih=>
  intro nx ph d a hps;have hbw:∀(cl:Bool)(g g':Goroutine)(C:World),ChS E.A.Ch C cl->woken E.P g g' C b=b:=λ_ g g' C _=>bE4 hb _ g g' C
  have go:∀{nx:Nat}{ph:Ph}{d:Nat}{a:Goroutine},R ph->(∀ph d a gs C sl t q,Inv E B0 T st nx dn b L ph d a gs C t q->R ph->∃m' ops,runT E.P (crowd gs C sl) E.A.n=(.next m',ops)/\Wins E.P Post m' (t++ops))->
    (a.status=.running->∀gs C sl t q,sumTo gs.size q<=M->Inv E B0 T st nx dn b L ph d a gs C t q->∃m' ops,runT E.P (crowd gs C sl) 0=(.next m',ops)/\Wins E.P Post m' (t++ops))->
    ∀gs C sl t q,sumTo gs.size q<=M->Inv E B0 T st nx dn b L ph d a gs C t q->Wins E.P Post (crowd gs C sl) t:=λhph HW hpar gs C sl t q hM hinv=>
   trio hE hT (.inr hb) (.inl hb) (λg g' C h=>hbw _ g g' C h) (λa' gs' C' sl' t' q' _ hlt hinv'=>ih _ hlt hinv'.ps hph HW gs' C' sl' t' q' (lh _) hinv') (λ_ gs C sl t q hi=>HW _ _ _ gs C sl t q hi hph) hpar gs C sl t q hM hinv
  have blocked:∀{nx:Nat}{ph:Ph}{d:Nat}{a:Goroutine},a.status=.blocked->R ph->(∀ph d a gs C sl t q,Inv E B0 T st nx dn b L ph d a gs C t q->R ph->∃m' ops,runT E.P (crowd gs C sl) E.A.n=(.next m',ops)/\Wins E.P Post m' (t++ops))->
    ∀gs C sl t q,sumTo gs.size q<=M->Inv E B0 T st nx dn b L ph d a gs C t q->Wins E.P Post (crowd gs C sl) t:=λha hph HW=>go hph HW λhr=>by rw[ha]at hr;cases hr
  induction hps with
  |@quiet nx ph d s s1 es h he k ihk=>
   intro hph HW;refine go hph HW λ_ gs C sl t q hM hinv=>?_
   obtain⟨gs',h1,hz,h2⟩:=bt6 hE hT (λg g' C h=>hbw _ g g' C h) hinv (sl:=sl) (h C hinv.bx ⟨_,_,hinv.wg⟩) he k;exact⟨_,_,h1,ihk hph HW gs' C sl _ q (by rw[hz];exact hM) h2⟩
  |@send nx s h hn k _=>
   intro hph HW;refine go hph HW λ_ gs C sl t q hM hinv=>?_
   obtain⟨s',r',hc⟩:=hinv.ch;have hpos:=hinv.lb.pos;have hlt:=hinv.lb.lt;have hp:=(ap8 hinv.lb (i:=0) (k:=E.A.n) (c:=E.A.Ch) (send:=false) (.inl ⟨rfl,rfl⟩) hinv.gn).1 (offersAt_of_not_blocked (by rw[hb];simp) _ _);have hw:=crowd_waits (P:=E.P) (sl:=sl) (i:=0) hinv.g0 (by exact h C hinv.bx) (λcc hcc=>by
    simp at hcc;subst hcc;exact ways_send_none hc (lB _) hp)
   refine⟨_,_,hw,?_⟩;rw[a38];refine blocked (a:=parked (G s.1 s.2) #[scase E.A.Ch (E.item nx) (.tuple #[])] .send) rfl hph HW _ C sl t q (by simpa using hM) (hinv.keep ?_ ?_ ?_ hinv.tr hinv.d0 hinv.dn (.parked hn k))
   ·rw[lm (by omega)]
   ·rw[lj (by omega)];exact hinv.gn
   ·have:=(hinv.lb.set (parked (G s.1 s.2) #[scase E.A.Ch (E.item nx) (.tuple #[])] .send) b (u:=#[]) (by simp)).2.2.1
    simpa using this
  |parked hn k _=>intro hph HW;exact blocked rfl hph HW
  |@close s s1 es h hm he hd k ihk=>
   intro hph HW;refine go hph HW λ_ gs C sl t q hM hinv=>?_
   obtain⟨s',r',hc⟩:=hinv.ch;have hpos:=hinv.lb.pos;have hlt:=hinv.lb.lt;have hst:st=Ph.st:=(hRs _ hph).elim id λe=>by cases e
   refine⟨_,_,runT_crowd_go (P:=E.P) (sl:=sl) (i:=0) hinv.g0 (by exact h C s' r' hinv.bx hc),ihk (hR1 hph) HW _ _ sl _ q (by simpa using hM) (hinv.chan hE.ap hE.bx hE.cw hE.cb hE.c0 (ph':= .cls) rfl (by rw[hst];rfl) ?_ ?_ (hinv.lb.step (.inl rfl) _ _ _ λop hop=> .inl (ae0 op hop)) (hT.app0 _ _ _ _ hinv.tr (lh _) ae0 (at0 he).1 λop hop=>MemAct.low_mono (by rw[hinv.wr.size];exact hinv.low) ((at0 he).2 op hop)) ?_ ?_ k ?_)⟩
   ·rw[lm (by simp;omega)]
   ·rw[lj (by omega),xc,hinv.gn];exact congrArg some (bE4 hb _ _ _ _)
   ·rw[Deaf_own,hinv.d0];exact hd
   ·rw[Deaf_other t (g':=0) (by omega) _ ae0];exact hinv.dn
   ·intro _;rfl
  |@w1 nx d s s1 s0 es h1 k1 h0 k0 he ihk=>
   intro hph HW;refine go hph HW λ_ gs C sl t q hM hinv=>?_
   have hst:st=Ph.st:=(hRs _ hph).elim id λe=>by cases e
   have hw:WgS E.A.Wg E.tW C KK 0:=by have:=hinv.wg;rw[hst]at this;exact this
   obtain⟨gs',h2,hz,h3⟩:=bt6 hE hT (λg g' C h=>hbw _ g g' C h) hinv (sl:=sl) (h1 C hinv.bx hw) he k1;exact⟨_,_,h2,ihk hph HW gs' C sl _ q (by rw[hz];exact hM) h3⟩
  |@w2 nx d s s1 s0 es es0 h1 k1 h0 k0 he he0 ihk=>
   intro hph HW;refine go hph HW λ_ gs C sl t q hM hinv=>?_
   have hpos:=hinv.lb.pos;have hlt:=hinv.lb.lt;have hst:st=Ph.st:=(hRs _ hph).elim id λe=>by cases e
   have hw:WgS E.A.Wg E.tW C KK 0:=by have:=hinv.wg;rw[hst]at this;exact this
   refine⟨_,_,runT_crowd_go (P:=E.P) (sl:=sl) (i:=0) hinv.g0 (by exact h1 C hinv.bx hw),ihk (hR2 hph) HW _ _ sl _ q (by simpa using hM) (hinv.group hE 0 _ (ph':= .reg) rfl (by rw[hst];exact aL0 hw _) ?_ ?_ (hinv.lb.step (.inl rfl) _ _ _ λop hop=> .inl (ae0 op hop)) (hT.app0 _ _ _ _ hinv.tr (lh _) ae0 (at0 he).1 λop hop=>MemAct.low_mono (by rw[hinv.wr.size];exact hinv.low) ((at0 he).2 op hop)) ?_ ?_ k1)⟩
   ·rw[lm (by simp;omega)]
   ·rw[lj (by omega),xc,hinv.gn];exact congrArg some (bE4 hb _ _ _ _)
   ·rw[Deaf_own,hinv.d0]
   ·rw[Deaf_other t (g':=0) (by omega) _ ae0];exact hinv.dn
  |@w3 nx d s s1 es hbk hf k he=>
   intro hph HW;refine go hph HW λ_ gs C sl t q hM hinv=>?_
   have hk:PS E nx .reg (deafBehind d #[]) {G s.1 s.2 with status:= .blocked}:= .blk (.w3 hbk hf k he);obtain⟨gs',h2,hz,h3⟩:=bt6 hE hT (λg g' C h=>hbw _ g g' C h) hinv (sl:=sl) (hbk C _ hinv.bx hinv.wg) (by simp) hk;exact⟨_,_,h2,blocked rfl hph HW gs' C sl _ q (by rw[hz];exact hM) h3⟩
  |blk k _=>intro hph HW;exact blocked rfl hph HW
end
end Hid
namespace Hid
open Go.RowKit Go.Conc
def EvF(L:World)(e:Event):Prop:=match e.loc with
 |.cell a=>∃c T fz,L.heap[a.block]?=some (.cells c T fz)/\a.off<c.size
 |.obj r=>∃o,L.heap[r]?=some o/\(∀c T fz,o≠.cells c T fz)/\e.write=false/\e.sync=o.isChan
 |.mark .noRoom=>True
 |_=>False
structure OutF[Junk](ok:Loop->Prop)(C L C' L':World)(es:Array Event):Prop where
 os:C'.os=L'.os
 out:C'.output=L'.output
 size:C'.heap.size=L'.heap.size
 blk:∀(b:Nat)(o:Obj),L'.heap[b]?=some o->∃o':Obj,C'.heap[b]?=some o'/\ObR o' o
 nv:∀(b:Nat)(a:Addr)(u:TypeId),L'.heap[b]?=some (.view a u)->a.block=b/\Junk.G<=b
 np:∀(b:Nat)(c:Array Value)(u:TypeId),L'.heap[b]?≠some (.pending c u)
 lp:∀(b:Nat)(r:Loop),L'.heap[b]?=some (.loop r)->ok r
 szl:L.heap.size<=L'.heap.size
 row:∀(b:Nat) c T fz,L.heap[b]?=some (Obj.cells c T fz)->∃c' fz',L'.heap[b]?=some (.cells c' T fz')/\c'.size=c.size
 tc:C'.tape=C.tape
 tl:L'.tape=L.tape
 dr:L.drawn<=L'.drawn/\C'.drawn=C.drawn+(L'.drawn-L.drawn)
 heq:∀b:Nat,C.heap[b]?=L.heap[b]?->C'.heap[b]?=L'.heap[b]?
 old:∀b:Nat,C.heap[b]?=U b L.heap[b]?->C'.heap[b]?=U b L'.heap[b]?
 hid:∀(b:Nat) T fz,L.heap[b]?=some (.cells #[] T fz)->C'.heap[b]?=C.heap[b]?
 obj:∀(b:Nat) o,L.heap[b]?=some o->(∀c T fz,o≠.cells c T fz)->L'.heap[b]?=some o/\C'.heap[b]?=C.heap[b]?
 evs:∀e∈es,EvF L' e
theorem OutF.of[LoopOK][Junk](hs:¬ LoopOK.set){C L C' L':World}{es:Array Event}(h:Out C L C' L' #[] es):OutF LoopOK.ok C L C' L' es:=by
 refine⟨h.wr.os,h.wr.out,h.wr.size,h.wr.blk,h.wr.nv,h.wr.np,h.wr.lp,h.stay.size,h.stay.row,h.tc,h.tl,h.dr,h.heq,h.old,h.hid,h.obj hs,λe he=>?_⟩;obtain⟨ns,e1,hns⟩:=h.evs;have hev:=hns e (by rw[e1]at he;simpa using he);obtain⟨loc,wr,sy⟩:=e;cases loc with
 |cell ad=>exact hev
 |obj r=>
  obtain⟨o,h1,h2,h3⟩:=hev;exact⟨o,h1,h2,h3 hs⟩
 |mark m=>cases m<;>first|exact hev.elim|trivial
 |output=>exact hev.elim
 |goroutines=>exact hev.elim
variable [inst:LoopOK] [Junk]
def WW(E:Env)(B0:Nat)(T:Nat->Trace->Prop)(st:Ph->Int)(R:Ph->Prop)(nx dn:Nat)(b:Goroutine)(L:World)(Post:Value->World->Prop):Prop:=
 ∀ph d a gs C sl t q,Inv E B0 T st nx dn b L ph d a gs C t q->R ph->Wins E.P Post (crowd gs C sl) t
structure RP(st:Ph->Int)(R:Ph->Prop):Prop where
 r1:R .opn->R .cls
 r2:R .cls->R .reg
 rs:∀ph,R ph->st=Ph.st\/ph=.reg
section
variable {E:Env}{B0:Nat}{T:Nat->Trace->Prop}{st:Ph->Int}{R:Ph->Prop}{nx dn:Nat}{b:Goroutine}{L:World}{Post:Value->World->Prop}
theorem WW.of(hE:EOK E B0)(hT:TProp E.A T)(hR:RP st R)(hb:b.status=.running)
  (HW:∀ph d a gs C sl t q,Inv E B0 T st nx dn b L ph d a gs C t q->R ph->∃m' ops,runT E.P (crowd gs C sl) E.A.n=(.next m',ops)/\Wins E.P Post m' (t++ops)):WW E B0 T st R nx dn b L Post:=
 λph d a gs C sl t q h hr=>E1 hE hT hb hR.r1 hR.r2 hR.rs (sumTo gs.size q) h.ps hr HW gs C sl t q (lh _) h
theorem aA6{ph:Ph}{d:Nat}{a b':Goroutine}{gs:Array Goroutine}{C C':World}{sl:Option (Nat×Nat)}{t:Trace}{q:Nat->Nat}{es:Array Event}(h:Inv E B0 T st nx dn b L ph d a gs C t q)(hs:stepG E.P false b C=.go b' C' es):
  ∃gs',runT E.P (crowd gs C sl) E.A.n=(.next (crowd gs' C' sl),MemOp.ofEvents E.A.n b.frame.fn b.frame.place es)/\gs'.size=gs.size/\gs'[0]?=some (woken E.P b b' C' a)/\gs'[E.A.n]?=some b'/\LB E.P (t++MemOp.ofEvents E.A.n b.frame.fn b.frame.place es) gs' E.A.n q/\
   Deaf (t++MemOp.ofEvents E.A.n b.frame.fn b.frame.place es) 0=d/\Deaf (t++MemOp.ofEvents E.A.n b.frame.fn b.frame.place es) E.A.n=deafBehind dn es:=by
 have hpos:=h.lb.pos;have hlt:=h.lb.lt;have hi0:(E.A.n==0)=false:=by simp;omega
 refine⟨_,runT_crowd_go (P:=E.P) (sl:=sl) (i:=E.A.n) h.gn (by rw[hi0];exact hs),by simp,?_,?_,h.lb.step (.inr rfl) _ _ _ λop hop=> .inr (ae0 op hop),?_,?_⟩
 ·rw[lj (by omega),xc,h.g0];rfl
 ·rw[lm (by simpa using hlt)]
 ·rw[Deaf_other t (g':=E.A.n) (by omega) _ ae0];exact h.d0
 ·rw[Deaf_own,h.dn]
def Evn(A:Area)(Low:Nat)(e:Event):Prop:=A.okn (.ofEvent e)/\(MemAct.ofEvent e).low Low
theorem bv8{A:Area}{g Low:Nat}{fn:FuncId}{pos:String}{es:Array Event}(he:∀e∈es,Evn A Low e):(∀op∈MemOp.ofEvents g fn pos es,A.okn op.act)/\∀op∈MemOp.ofEvents g fn pos es,op.act.low Low:=
 ⟨λop hop=>by obtain⟨e,h,rfl⟩:=lJ hop;exact(he e h).1,λop hop=>by obtain⟨e,h,rfl⟩:=lJ hop;exact(he e h).2⟩
theorem WW.still(hE:EOK E B0)(hT:TProp E.A T)(hR:RP st R){s s1:St}{es:Array Event}{T':Nat->Trace->Prop}(h:∀C ph,R ph->FB E.bx C->WR C L->WgS E.A.Wg E.tW C (st ph) 0->stepG E.P false (G s.1 s.2) C=.go (G s1.1 s1.2) C es)
  (htr:∀B t fn pos,E.Low<=B->L.heap.size=B->T B t->Deaf t E.A.n=dn->T' B (t++MemOp.ofEvents E.A.n fn pos es)) (k:WW E B0 T' st R nx (deafBehind dn es) (G s1.1 s1.2) L Post):WW E B0 T st R nx dn (G s.1 s.2) L Post:=by
 refine .of hE hT hR rfl λph d a gs C sl t q hinv hr=>?_
 obtain⟨gs',h1,hz,h2,h3,h4,h5,h6⟩:=aA6 (sl:=sl) hinv (h C ph hr hinv.bx hinv.wr hinv.wg);refine⟨_,_,h1,k ph d _ gs' C sl _ q ⟨h2,h3,h4,hinv.wr,hinv.old,hinv.tape,hinv.low,hinv.shun,hinv.bx,hinv.ch,hinv.chL,hinv.wg,hinv.hidb,hinv.hidw,?_,h5,h6,hinv.ps.woken hinv.ch _ _,hinv.cn⟩ hr⟩;exact htr _ _ _ _ (by rw[hinv.wr.size];exact hinv.low) hinv.wr.size.symm hinv.tr hinv.dn
theorem aZ9(hE:EOK E B0){es:Array Event}(he:∀e∈es,Evn E.A L.heap.size e):∀B t fn pos,E.Low<=B->L.heap.size=B->TI E.A B t->Deaf t E.A.n=dn->TI E.A B (t++MemOp.ofEvents E.A.n fn pos es):=
 λB t fn pos hB hL h _=>h.appn hE.ap (lh _) ae0 (bv8 he).1 λop hop=>hL▸(bv8 he).2 op hop
def QAll(E:Env)(L:World):List (FuncId×List Did)->Prop
 | []=>True
 |(f,l)::r=>(∀C,FB E.bx C->WR C L->WgL E.A.Wg E.tW C->Fits l C/\wOf l C=C)/\(∀e∈seen E.P f (esOf l).toArray,Evn E.A L.heap.size e/\e.loc≠.mark .disable/\e.loc≠.mark .enable)/\QAll E L r
theorem WW.run(hE:EOK E B0)(hR:RP st R):∀(n:Nat){s s':St}{ans:List (List An)}{ls:List (FuncId×List Did)},runG E.P false n s ans=some (s',ls)->QAll E L ls->WW E B0 (TI E.A) st R nx dn (G s'.1 s'.2) L Post->WW E B0 (TI E.A) st R nx dn (G s.1 s.2) L Post:=by
 intro n;induction n with
 |zero=>intro s s' ans ls h hq k;cases h;exact k
 |succ n ih=>
  intro s s' ans ls h hq k;obtain⟨s1,an,l,ans',r,h1,h2,h3⟩:=aL9 h;rcases h3 with⟨rfl,rfl⟩|rfl
  ·refine WW.still (T':=TI E.A) hE (al2 hE.ap) hR (es:=#[]) (λC _ _ _ _ _=>ab4 h1 (w:=C) trivial) (aZ9 hE (by simp)) (ih h2 hq k)
  ·have hd:deafBehind dn (seen E.P s.1.fn (esOf l).toArray)=dn:=deafBehind_still (λe he=>(hq.2.1 e he).2) _;refine WW.still (T':=TI E.A) hE (al2 hE.ap) hR (es:=seen E.P s.1.fn (esOf l).toArray) (λC ph _ hb hw hg=>?_) (aZ9 hE λe he=>(hq.2.1 e he).1) (by rw[hd];exact ih h2 hq.2.2 k);obtain⟨hf,hw'⟩:=hq.1 C hb hw ⟨_,_,hg⟩;rw[ab4 h1 hf,hw']
theorem Inv.out(hE:EOK E B0){ok:Loop->Prop}(hok:∀r,ok r->LoopOK.ok r){ph:Ph}{d:Nat}{a a' b':Goroutine}{gs gs':Array Goroutine}{C C' L':World}{t:Trace}{q:Nat->Nat}{es:Array Event}{fn:FuncId}{pos:String}(h:Inv E B0 (TI E.A) st nx dn b L ph d a gs C t q)
  (ho:OutF ok C (L.at C.drawn) C' L' es) (h0:gs'[0]?=some a') (hn:gs'[E.A.n]?=some b') (hl:LB E.P (t++MemOp.ofEvents E.A.n fn pos es) gs' E.A.n q) (hd:Deaf (t++MemOp.ofEvents E.A.n fn pos es) 0=d) (hdn:Deaf (t++MemOp.ofEvents E.A.n fn pos es) E.A.n=deafBehind dn es)
  (hps:PS E nx ph d a'):Inv E B0 (TI E.A) st nx dn b' L' ph d a' gs' C' (t++MemOp.ofEvents E.A.n fn pos es) q:=by
 have hsl:L.heap.size<=L'.heap.size:=ho.szl;have hb:∀(b:Nat) T fz,L.heap[b]?=some (.cells #[] T fz)->∃fz',L'.heap[b]?=some (.cells #[] T fz'):=λb T fz hb=>by
  obtain⟨c',fz',h1,h2⟩:=ho.row b _ _ _ hb;obtain rfl:c' = #[]:=xZ.1 (by simpa using h2)
  exact⟨fz',h1⟩
 have hch:L'.heap[E.A.Ch]?=some (.chan 0 #[] false 0 0 false)/\C'.heap[E.A.Ch]?=C.heap[E.A.Ch]?:=ho.obj _ _ h.chL λ_ _ _ hc=>by cases hc
 have ev:∀e∈es,Evn E.A L'.heap.size e/\e.loc≠.mark .disable/\e.loc≠.mark .enable:=λe he=>by
  have hev:=ho.evs e he;obtain⟨loc,wr,sy⟩:=e;have lt:∀{b:Nat}{o:Obj},L'.heap[b]?=some o->b<L'.heap.size:=λh=>(li.1 h).1
  cases loc with
  |cell ad=>
   obtain⟨c,U,fz,k1,k2⟩:=hev;refine⟨⟨⟨λx hx=> .inl ?_,?_⟩,?_⟩,by simp,by simp⟩
   ·rw[ofEvent_cell0]at hx;simp only[MemAct.touch?,sk]at hx;subst hx;refine⟨?_,λhs=>?_⟩
    ·rintro(⟨a2,e2,hc⟩|e2)
     ·cases e2;rcases hc with hc|hc
      ·obtain⟨o,ho2⟩:∃o,E.bx ad.block=some o:=hE.bx' _ hc;obtain⟨U2,fz2,k3⟩:=h.hidb _ _ ho2;obtain⟨fz3,k4⟩:=hb _ _ _ k3;rw[k1]at k4;cases k4;simp at k2
      ·obtain⟨U2,fz2,k3⟩:=h.hidw;obtain⟨fz3,k4⟩:=hb _ _ _ k3;rw[<-hc,k1]at k4;cases k4;simp at k2
     ·cases e2
    ·obtain⟨a2,U2,fz2,e2,k3⟩:=h.shun _ hs;cases e2;obtain⟨fz3,k4⟩:=hb _ _ _ k3;rw[k1]at k4;cases k4;simp at k2
   ·rw[ofEvent_cell0];simp
   ·rw[ofEvent_cell0];exact lt k1
  |obj r=>
   obtain⟨o,k1,k2,k4,k5⟩:=hev;simp only at k4 k5
   subst k4;have e2:MemAct.ofEvent ⟨.obj r,false,sy⟩=.access ⟨.obj r,false,sy⟩:=by cases sy<;>rfl
   refine⟨⟨⟨λx hx=>?_,by rw[e2];simp⟩,by rw[e2];exact lt k1⟩,by simp,by simp⟩;rw[e2]at hx;simp only[MemAct.touch?,sk]at hx;subst hx;by_cases hr:r=E.A.Ch
   ·subst hr;rw[hch.1]at k1;cases k1;right;right;right;exact⟨rfl,by rw[k5];rfl⟩
   ·left;refine⟨?_,λhs=>?_⟩
    ·rintro(⟨a2,e3,_⟩|e3)
     ·cases e3
     ·cases e3;exact hr rfl
    ·obtain⟨a2,U2,fz2,e3,_⟩:=h.shun _ hs;cases e3
  |mark m=>
   cases m<;>first|exact hev.elim|skip
   exact⟨⟨⟨λx hx=>(by cases hx),by simp[MemAct.ofEvent]⟩,trivial⟩,by simp,by simp⟩
  |output=>exact hev.elim
  |goroutines=>exact hev.elim
 have hdd:deafBehind dn es=dn:=deafBehind_still (λe he=>(ev e he).2) _;refine⟨h0,hn,hl,⟨ho.os,ho.out,ho.size,ho.blk,ho.nv,ho.np,λb r hx=>hok r (ho.lp b r hx)⟩,λb hb=>ho.old b (h.old b hb),by rw[ho.tc,ho.tl];exact h.tape,lU h.low hsl,λl hs=>?_,λb o hx=>?_,?_,hch.1,?_,λb o hx=>?_,?_,?_,hd,hdn.trans hdd,hps,h.cn⟩
 ·obtain⟨a2,U,fz,e,hx⟩:=h.shun l hs;obtain⟨fz',hx'⟩:=hb _ _ _ hx;exact⟨a2,U,fz',e,hx'⟩
 ·obtain⟨U,fz,hx'⟩:=h.hidb b o hx;rw[ho.hid b U fz hx'];exact h.bx b o hx
 ·obtain⟨s,r,hc⟩:=h.ch;exact⟨s,r,hch.2.trans hc⟩
 ·obtain⟨U,fz,hx'⟩:=h.hidw;unfold WgS;rw[ho.hid _ U fz hx'];exact h.wg
 ·obtain⟨U,fz,hx'⟩:=h.hidb b o hx;obtain⟨fz',k⟩:=hb _ _ _ hx';exact⟨U,fz',k⟩
 ·obtain⟨U,fz,hx'⟩:=h.hidw;obtain⟨fz',k⟩:=hb _ _ _ hx';exact⟨U,fz',k⟩
 ·rw[ho.size];exact h.tr.appn hE.ap (by rw[h.wr.size];exact hsl) ae0 (bv8 λe he=>(ev e he).1).1 (bv8 λe he=>(ev e he).1).2
end
end Hid
namespace Hid
open Go.RowKit Go.Conc
structure JB where
 v:LoopOK
variable [inst:LoopOK] [Junk]
section
variable {E:Env}{B0:Nat}{T:Nat->Trace->Prop}{st:Ph->Int}{R:Ph->Prop}{nx dn:Nat}{b:Goroutine}{L:World}{Post:Value->World->Prop}
theorem WW.job(hE:EOK E B0)(hR:RP st R){p:Program}(J:JB)(hP:@Pair J.v p E.P)(hJs:¬ J.v.set)(hok:∀r,J.v.ok r<->inst.ok r)(hG:GB p B0)(hfn:∀f,J.v.fn f->E.P.funcs[f]?=p.funcs[f]?)
  {f:FuncId}{Q:Value->World->Prop}{c:Frame}{csT:List Frame}{y:Frame}{csP zs:List Frame}(hcs:csT≠[]) (hzs:c::csT=zs++[dmF p]) (hz:∀z∈zs,z.defers=[]/\(z.mode=.run\/z.mode=.returning)) {g:Goroutine}{L:World}(ht:Tree p (AtRet p f Q) g L):
  ∀(x:Frame)(xs:List Frame),g=G x (xs++c::csT)->@FrOK J.v p E.P x->(∀z∈xs,@FrOK J.v p E.P z)->
   (∀v L',Tree p (AtRet p f Q) (G (c.finish v) csT) L'->Later p g L (G (c.finish v) csT) L'->WW E B0 (TI E.A) st R nx dn (G (y.finish v) csP) L' Post)->WW E B0 (TI E.A) st R nx dn (G x (xs++y::csP)) L Post:=by
 induction ht with
 |stop hs=>
  intro x xs hg;obtain⟨fr,v,e,_⟩:=hs;rw[hg]at e;simp only[G,Goroutine.mk.injEq,laf,lar]at e;have:=congrArg List.length e.2
  simp at this;exact absurd (uA.1 (by omega)) hcs
 |@step g L nxt hst htr ih=>
  intro x xs hg hx hxs K;subst hg;refine .of hE (al2 hE.ap) hR rfl λph d a gs C sl t q hinv hr=>?_
  obtain⟨es,he⟩:=hst C.drawn;have htr':=htr C.drawn;have ih':=ih C.drawn;have hstp:=@aL7 J.v _ p E.P true false x xs c csT (y::csP) C (L.at C.drawn) hP hx hxs (by
   have h:=hinv.wr;exact @WR.mk J.v _ C (L.at C.drawn) (h.os) (h.out) (h.size) (h.blk) (h.nv) (h.np) (λb r hx=>(hok r).2 (h.lp b r hx))) (hinv.wr.gl hG hinv.old) (λg2 L2 es2 _ i _=>by
   show C.tape _=L.tape _;rw[hinv.tape];rfl)
  rw[he]at hstp;generalize hr0:stepG E.P false (G x (xs++y::csP)) C=r at hstp;generalize hn:nxt C.drawn=n at *
  obtain⟨g1,L1⟩:=n;simp only at hstp htr' ih' he
  have chs:∀{C' L':World}{es:Array Event},OutF (@LoopOK.ok J.v) C (L.at C.drawn) C' L' es->ChS E.A.Ch C' ph.cl:=λho=>by
   obtain⟨s,r,hc⟩:=hinv.ch;exact⟨s,r,(ho.obj _ _ hinv.chL λ_ _ _ hc=>by cases hc).2.trans hc⟩
  cases hstp with
  |@go x' xs' C' _ _ hx' hxs' ho=>
   have hof:=@OutF.of J.v _ hJs _ _ _ _ _ ho;obtain⟨gs',h1,hz1,h2,h3,h4,h5,h6⟩:=aA6 (sl:=sl) hinv hr0;exact⟨_,_,h1,ih' x' xs' rfl hx' hxs' (λv L' ht2 hl=>K v L' ht2 (.step he hl)) ph d _ gs' C' sl _ q (hinv.out hE (λr h=>(hok r).1 h) hof h2 h3 h4 h5 h6 (hinv.ps.woken (chs hof) _ _)) hr⟩
  |at6 hne hJ=>exact absurd (hfn _ hJ) hne
  |@ret v C' _ _ hxs0 hm ho=>
   subst hxs0;have hof:=@OutF.of J.v _ hJs _ _ _ _ _ ho;have hk:x.kind=.normal:=@FrOK.kind J.v p E.P x hx;have e3:doReturn E.P false x (y::csP) none v C'=.go (G (y.finish v) csP) C':=by simp only[doReturn,hk];rfl
   rw[e3,ac8]at hr0;obtain⟨gs',h1,hz1,h2,h3,h4,h5,h6⟩:=aA6 (sl:=sl) hinv hr0;exact⟨_,_,h1,K v _ htr' (.step he (.refl _ _)) ph d _ gs' C' sl _ q (hinv.out hE (λr h=>(hok r).1 h) hof h2 h3 h4 h5 h6 (hinv.ps.woken (chs hof) _ _)) hr⟩
  |bad hb=>
   cases hb with
   |@panic x2 ch _ _ hm hd=>
    exfalso;rw[hzs,<-xK]at htr';refine aQ2 (P:=E.P) htr' (.fr hm hd λz hz'=>?_);rcases ug.1 hz' with h|h
    ·exact⟨@FrOK.defers J.v p E.P z (hxs z h),@FrOK.mode J.v p E.P z (hxs z h)⟩
    ·exact hz z h
theorem E2(hE:EOK E B0)(hT:TProp E.A T){s:St}{z:Value}(hst:st .opn=st .cls){R R':Ph->Prop}(hRc:R' .cls)(hR0:R .opn):∀(M:Nat){nx:Nat}{ph:Ph}{d:Nat}{a:Goroutine},PS E nx ph d a->a.status=.running->ph=.opn->
  (nx<E.n3->WW E B0 T st R (nx+1) dn (G (s.1.finish (.tuple #[E.item nx,.bool true])) s.2) L Post)->(nx=E.n3->WW E B0 T st R' nx dn {parked (G s.1 s.2) #[rcase E.A.Ch z] (.recv true)with status:= .running} L Post)->
  ∀gs C sl t q,sumTo gs.size q<=M->Inv E B0 T st nx dn (parked (G s.1 s.2) #[rcase E.A.Ch z] (.recv true)) L ph d a gs C t q->Wins E.P Post (crowd gs C sl) t:=by
 intro M;induction M using Nat.strongRecOn with
 |_ M ih=>
  intro nx ph d a hps;have hbw:∀(g g':Goroutine)(C:World),ChS E.A.Ch C false->woken E.P g g' C (parked (G s.1 s.2) #[rcase E.A.Ch z] (.recv true))=parked (G s.1 s.2) #[rcase E.A.Ch z] (.recv true):=λg g' C ⟨s',r',hc⟩=>woken_recv_open g g' hc
  have go:∀{nx:Nat}{ph:Ph}{d:Nat}{a:Goroutine},a.status=.running->ph=.opn->
    (nx<E.n3->WW E B0 T st R (nx+1) dn (G (s.1.finish (.tuple #[E.item nx,.bool true])) s.2) L Post)->(nx=E.n3->WW E B0 T st R' nx dn {parked (G s.1 s.2) #[rcase E.A.Ch z] (.recv true)with status:= .running} L Post)->
    (∀gs C sl t q,sumTo gs.size q<=M->Inv E B0 T st nx dn (parked (G s.1 s.2) #[rcase E.A.Ch z] (.recv true)) L ph d a gs C t q->∃m' ops,runT E.P (crowd gs C sl) 0=(.next m',ops)/\Wins E.P Post m' (t++ops))->
    ∀gs C sl t q,sumTo gs.size q<=M->Inv E B0 T st nx dn (parked (G s.1 s.2) #[rcase E.A.Ch z] (.recv true)) L ph d a gs C t q->Wins E.P Post (crowd gs C sl) t:=λ{nx ph d a} ha hph K1 K0 hpar gs C sl t q hM hinv=>by
   subst hph;exact trio (ph:= .opn) hE hT (.inl ha) (.inr ⟨_,_,rfl⟩) (λg g' C h=>hbw g g' C h) (λa' gs' C' sl' t' q' hr hlt hinv'=>ih _ hlt hinv'.ps (hr ha) rfl K1 K0 gs' C' sl' t' q' (lh _) hinv') (λhb=>by cases hb) (λ_=>hpar) gs C sl t q hM hinv
  induction hps with
  |@quiet nx ph d s0 s1 es h he k ihk=>
   intro ha hph K1 K0;subst hph;refine go ha rfl K1 K0 λgs C sl t q hM hinv=>?_
   obtain⟨gs',h1,hz,h2⟩:=bt6 (ph:= .opn) hE hT (λg g' C h=>hbw g g' C h) hinv (sl:=sl) (h C hinv.bx ⟨_,_,hinv.wg⟩) he k;exact⟨_,_,h1,ihk rfl rfl K1 K0 gs' C sl _ q (by rw[hz];exact hM) h2⟩
  |@send nx s0 h hn k _=>
   intro ha hph K1 K0;refine go ha rfl K1 K0 λgs C sl t q hM hinv=>?_
   obtain⟨s',r',hc⟩:=hinv.ch;have hpos:=hinv.lb.pos;have hlt:=hinv.lb.lt;have hp:=(ap8 hinv.lb (i:=0) (k:=E.A.n) (c:=E.A.Ch) (send:=false) (.inl ⟨rfl,rfl⟩) hinv.gn).2 [0] (by rw[offersAt_parked_recv,ll rfl]);have hw:=crowd_send_meets (P:=E.P) (sl:=sl) (i:=0) hinv.g0 (by exact h C hinv.bx) hc (by omega) hinv.gn hp;have hB:E.A.Ch<C.heap.size:=by rw[hinv.wr.size];exact lQ hE.cl hinv.low
   refine⟨_,_,hw,K1 hn .opn 0 (G (s0.1.finish undef) s0.2) _ _ sl _ q ?_ hR0⟩;rw[show∀x:Trace,MemOp.ofEvents 0 (G s0.1 s0.2).frame.fn (G s0.1 s0.2).frame.place #[]++x=x fromλx=>by simp[ofEvents_none]];refine hinv.chan hE.ap hE.bx hE.cw hE.cb hE.c0 (ph':= .opn) rfl rfl ?_ ?_ (hinv.lb.set _ _ (by intro op hop;simp at hop;rcases hop with rfl|rfl|rfl|rfl<;>simp)).2.1 (hT.mute _ _ _ hinv.tr ?_ ?_ ?_) ?_ ?_ k (λhh=>absurd rfl hh)
   ·rw[lm (by simp;omega)];rfl
   ·rw[lj (by omega),lm (by omega)];rfl
   ·intro op hop;simp at hop;rcases hop with rfl|rfl|rfl|rfl<;>rfl
   ·intro op hop;simp at hop;rcases hop with rfl|rfl|rfl|rfl<;>simp
   ·intro op hop;simp at hop;rcases hop with rfl|rfl|rfl|rfl<;>exact hB
   ·rw[show∀a b c d:MemOp,(#[a,b,c,d]:Trace)=[a,b,c,d].toArray fromλ_ _ _ _=>rfl,Deaf_append,hinv.d0];rfl
   ·rw[show∀a b c d:MemOp,(#[a,b,c,d]:Trace)=[a,b,c,d].toArray fromλ_ _ _ _=>rfl,Deaf_append,hinv.dn];rfl
  |parked hn k _=>intro ha;cases ha
  |@close s0 s1 es h hm he hd k _=>
   intro ha hph K1 K0;refine go ha rfl K1 K0 λgs C sl t q hM hinv=>?_
   obtain⟨s',r',hc⟩:=hinv.ch;have hpos:=hinv.lb.pos;have hlt:=hinv.lb.lt;have hlC:E.A.Ch<C.heap.size:=(li.1 hc).1;refine⟨_,_,runT_crowd_go (P:=E.P) (sl:=sl) (i:=0) hinv.g0 (by exact h C s' r' hinv.bx hc),K0 rfl .cls 0 _ _ _ sl _ q (hinv.chan hE.ap hE.bx hE.cw hE.cb hE.c0 (ph':= .cls) rfl hst.symm ?_ ?_ (hinv.lb.step (.inl rfl) _ _ _ λop hop=> .inl (ae0 op hop)) (hT.app0 _ _ _ _ hinv.tr (lh _) ae0 (at0 he).1 λop hop=>MemAct.low_mono (by rw[hinv.wr.size];exact hinv.low) ((at0 he).2 op hop)) ?_ ?_ k ?_) hRc⟩
   ·rw[lm (by simp;omega)]
   ·rw[lj (by omega),xc,hinv.gn];refine congrArg some ?_;unfold woken;rw[ll (by rw[hm];rfl)];exact again_recv_closed (bg5 C E.A.Ch _ _ |>.trans (by rw[ll ⟨rfl,hlC⟩];rfl))
   ·rw[Deaf_own,hinv.d0];exact hd
   ·rw[Deaf_other t (g':=0) (by omega) _ ae0];exact hinv.dn
   ·intro _;rfl
  |w1=>intro _ hph;cases hph
  |w2=>intro _ hph;cases hph
  |w3=>intro _ hph;cases hph
  |blk=>intro _ hph;cases hph
def R1:Ph->Prop:=λ_=>True
def R2:Ph->Prop:=λph=>ph≠.opn
theorem rp1:RP Ph.st R1:=⟨λ_=>trivial,λ_=>trivial,λ_ _=> .inl rfl⟩
theorem rp2:RP Ph.st R2:=⟨λh=>absurd rfl h,λ_=>by simp[R2],λ_ _=> .inl rfl⟩
theorem WW.recv2(hE:EOK E B0)(hT:TProp E.A T){b:Goroutine}{s:St}{z:Value}(hb:b.status=.running)(h:∀C,FB E.bx C->WR C L->stepG E.P false b C=.comm (G s.1 s.2) #[rcase E.A.Ch z] true (.recv true) C #[])
  (K0:nx=E.n3->WW E B0 T Ph.st R2 nx dn (G (s.1.finish (.tuple #[z,.bool false])) s.2) L Post):WW E B0 T Ph.st R2 nx dn b L Post:=by
 refine .of hE hT rp2 hb λph d a gs C sl t q hinv hr=>?_
 have hpos:=hinv.lb.pos;have hlt:=hinv.lb.lt;have hi0:(E.A.n==0)=false:=by simp;omega
 obtain⟨s',r',hc⟩:=hinv.ch;have hcl:ph.cl=true:=by cases ph<;>first|rfl|exact absurd rfl hr
 rw[hcl]at hc;have hno:offersAt a E.A.Ch true=[]:=by
  have:=hinv.ps
  cases this<;>first|exact absurd rfl hr|rfl
 have hp:=(ap8 hinv.lb (i:=E.A.n) (k:=0) (c:=E.A.Ch) (send:=true) (.inr ⟨rfl,rfl⟩) hinv.g0).1 hno;have hw:=crowd_recv_closed (P:=E.P) (sl:=sl) (i:=E.A.n) hinv.gn (by rw[hi0];exact h C hinv.bx hinv.wr) hc hp;refine⟨_,_,hw,?_⟩;rw[show∀x:Trace,MemOp.ofEvents E.A.n b.frame.fn b.frame.place #[]++x=x fromλx=>by simp[ofEvents_none]];have hB:E.A.Ch<C.heap.size:=by rw[hinv.wr.size];exact lQ hE.cl hinv.low
 refine K0 (hinv.cn hr) ph d a _ C sl _ q (hinv.keep ?_ ?_ (hinv.lb.set a _ (by intro op hop;simp at hop;subst hop;exact .inr rfl)).2.2.2 (hT.mute _ _ _ hinv.tr ?_ ?_ ?_) ?_ ?_ hinv.ps) hr
 ·rw[lj (by omega)];exact hinv.g0
 ·rw[lm hlt];rfl
 ·intro op hop;simp at hop;subst hop;rfl
 ·intro op hop;simp at hop;subst hop;simp
 ·intro op hop;simp at hop;subst hop;exact hB
 ·rw[Deaf_push,hinv.d0];rfl
 ·rw[Deaf_push,hinv.dn];rfl
theorem WW.recv(hE:EOK E B0)(hT:TProp E.A T){s:St}{z:Value}(h:∀C,FB E.bx C->WR C L->stepG E.P false (G s.1 s.2) C=.comm (G s.1 s.2) #[rcase E.A.Ch z] true (.recv true) C #[])
  (K1:nx<E.n3->WW E B0 T Ph.st R1 (nx+1) dn (G (s.1.finish (.tuple #[E.item nx,.bool true])) s.2) L Post)
  (K0:nx=E.n3->WW E B0 T Ph.st R2 nx dn (G (s.1.finish (.tuple #[z,.bool false])) s.2) L Post):WW E B0 T Ph.st R1 nx dn (G s.1 s.2) L Post:=by
 refine .of hE hT rp1 rfl λph d a gs C sl t q hinv hr=>?_
 have hpos:=hinv.lb.pos;have hlt:=hinv.lb.lt;have hi0:(E.A.n==0)=false:=by simp;omega
 obtain⟨s',r',hc⟩:=hinv.ch;have hB:E.A.Ch<C.heap.size:=by rw[hinv.wr.size];exact lQ hE.cl hinv.low
 have hst:=h C hinv.bx hinv.wr;have hnil:∀x:Trace,MemOp.ofEvents E.A.n (G s.1 s.2).frame.fn (G s.1 s.2).frame.place #[]++x=x:=λx=>by simp[ofEvents_none]
 by_cases hph:ph=.opn
 ·subst hph;have park:(a.status=.running)->∃m' ops,runT E.P (crowd gs C sl) E.A.n=(.next m',ops)/\Wins E.P Post m' (t++ops):=λha=>by
   have hp:=(ap8 hinv.lb (i:=E.A.n) (k:=0) (c:=E.A.Ch) (send:=true) (.inr ⟨rfl,rfl⟩) hinv.g0).1 (offersAt_of_not_blocked (by rw[ha];simp) _ _);have hw:=crowd_waits (P:=E.P) (sl:=sl) (i:=E.A.n) hinv.gn (by rw[hi0];exact hst) (λcc hcc=>by
    simp at hcc;subst hcc;exact ways_recv_none hc hp)
   refine⟨_,_,hw,?_⟩;rw[a38];refine E2 hE hT (s:=s) (z:=z) rfl (R:=R1) (R':=R2) (by simp[R2]) trivial (sumTo (gs.setIfInBounds E.A.n (parked (G s.1 s.2) #[rcase E.A.Ch z] (.recv true))).size q) hinv.ps ha rfl K1 (λe=>?_) _ C sl t q (lh _) (hinv.keep ?_ ?_ ?_ hinv.tr hinv.d0 hinv.dn hinv.ps)
   ·exact WW.recv2 hE hT rfl (s:=s) (z:=z) (λC hb hw=>(stepG_tries false _ C).trans (h C hb hw)) K0
   ·rw[lj (by omega)];exact hinv.g0
   ·rw[lm hlt]
   ·have:=(hinv.lb.set a (parked (G s.1 s.2) #[rcase E.A.Ch z] (.recv true)) (u:=#[]) (by simp)).2.2.2
    simpa using this
  have hps:=hinv.ps;cases hps with
  |@parked nx s0 hn k=>
   have hp:=(ap8 hinv.lb (i:=E.A.n) (k:=0) (c:=E.A.Ch) (send:=true) (.inr ⟨rfl,rfl⟩) hinv.g0).2 [0] (by rw[offersAt_parked_send,ll rfl]);have hw:=crowd_recv_meets (P:=E.P) (sl:=sl) (i:=E.A.n) hinv.gn (by rw[hi0];exact hst) hc (by omega) hinv.g0 hp;refine⟨_,_,hw,K1 hn .opn 0 (G (s0.1.finish undef) s0.2) _ _ sl _ q ?_ trivial⟩;rw[hnil];refine hinv.chan hE.ap hE.bx hE.cw hE.cb hE.c0 (ph':= .opn) rfl rfl ?_ ?_ (hinv.lb.set _ _ (by intro op hop;simp at hop;rcases hop with rfl|rfl|rfl|rfl<;>simp)).1 (hT.mute _ _ _ hinv.tr ?_ ?_ ?_) ?_ ?_ k (λhh=>absurd rfl hh)
   ·rw[lj (by omega),lm (by omega)];rfl
   ·rw[lm (by simp;omega)];rfl
   ·intro op hop;simp at hop;rcases hop with rfl|rfl|rfl|rfl<;>rfl
   ·intro op hop;simp at hop;rcases hop with rfl|rfl|rfl|rfl<;>simp
   ·intro op hop;simp at hop;rcases hop with rfl|rfl|rfl|rfl<;>exact hB
   ·rw[show∀a b c d:MemOp,(#[a,b,c,d]:Trace)=[a,b,c,d].toArray fromλ_ _ _ _=>rfl,Deaf_append,hinv.d0];rfl
   ·rw[show∀a b c d:MemOp,(#[a,b,c,d]:Trace)=[a,b,c,d].toArray fromλ_ _ _ _=>rfl,Deaf_append,hinv.dn];rfl
  |quiet=>exact park rfl
  |send=>exact park rfl
  |close=>exact park rfl
 ·have hcl:ph.cl=true:=by cases ph<;>first|rfl|exact absurd rfl hph
  rw[hcl]at hc;have hno:offersAt a E.A.Ch true=[]:=by
   have:=hinv.ps
   cases this<;>first|exact absurd rfl hph|rfl
  have hp:=(ap8 hinv.lb (i:=E.A.n) (k:=0) (c:=E.A.Ch) (send:=true) (.inr ⟨rfl,rfl⟩) hinv.g0).1 hno;have hw:=crowd_recv_closed (P:=E.P) (sl:=sl) (i:=E.A.n) hinv.gn (by rw[hi0];exact hst) hc hp;refine⟨_,_,hw,?_⟩;rw[hnil];refine K0 (hinv.cn hph) ph d a _ C sl _ q (hinv.keep ?_ ?_ (hinv.lb.set a _ (by intro op hop;simp at hop;subst hop;exact .inr rfl)).2.2.2 (hT.mute _ _ _ hinv.tr ?_ ?_ ?_) ?_ ?_ hinv.ps) hph
  ·rw[lj (by omega)];exact hinv.g0
  ·rw[lm hlt];rfl
  ·intro op hop;simp at hop;subst hop;rfl
  ·intro op hop;simp at hop;subst hop;simp
  ·intro op hop;simp at hop;subst hop;exact hB
  ·rw[Deaf_push,hinv.d0];rfl
  ·rw[Deaf_push,hinv.dn];rfl
end
end Hid
namespace Hid
open Go.RowKit Go.Conc
variable [inst:LoopOK] [Junk]
section
variable {E:Env}{B0:Nat}{nx dn:Nat}{L:World}{Post:Value->World->Prop}
def TJx(A:Area)(B:Nat)(t:Trace):Prop:=∃r,TJ A B r t
theorem ah6{A:Area}(hA:Apart A):TProp A (TJx A):=⟨λ_ _ _ _ ⟨r,h⟩ hB hg hu hl=>⟨r,h.app0 hA hB hg hu hl⟩,λ_ _ _ ⟨r,h⟩ hn hr hl=>⟨r,h.mute hn hr hl⟩⟩
theorem aB0{A:Area}(hA:Apart A){B:Nat}{t:Trace}(h:TJx A B t)(hW:A.Wg<B){fn:FuncId}{pos:String}{es:Array Event}(hd:Deaf t A.n=dn)
  (he:∀e∈es,e.loc=.mark .disable\/e.loc=.mark .enable\/∃a wr,e=⟨.cell a,wr,true⟩/\a.block=A.Wg) (hq:∀j e,es[j]?=some e->(∃a wr,e=⟨.cell a,wr,true⟩)->0<deafBehind dn (es.extract 0 j)):TJx A B (t++MemOp.ofEvents A.n fn pos es):=by
 obtain⟨r,h⟩:=h;have mk:∀{e:Event}{m:Mark},e.loc=.mark m->MemAct.ofEvent e=.mark m:=λ{e m} h=>by
  obtain⟨loc,wr,sy⟩:=e;simp only at h
  subst h;rfl
 refine⟨r,h.appn hA ae0 (λop hop=>?_) (λop hop=>?_) λi hi=>?_⟩
 ·obtain⟨e,hm,rfl⟩:=lJ hop;rcases he e hm with h1|h1|⟨a,wr,rfl,h2⟩
  ·simp only[mk h1];exact⟨λb hb=>(by cases hb),by simp⟩
  ·simp only[mk h1];exact⟨λb hb=>(by cases hb),by simp⟩
  ·have e2:MemAct.ofEvent ⟨.cell a,wr,true⟩=.access ⟨.cell a,wr,true⟩:=by cases wr<;>rfl
   simp only[e2];refine⟨λb hb=>?_,by simp⟩;simp only[MemAct.touch?,sk]at hb;subst hb;exact⟨a,rfl,h2,rfl⟩
 ·obtain⟨e,hm,rfl⟩:=lJ hop;rcases he e hm with h1|h1|⟨a,wr,rfl,h2⟩
  ·simp only[mk h1];trivial
  ·simp only[mk h1];trivial
  ·have e2:MemAct.ofEvent ⟨.cell a,wr,true⟩=.access ⟨.cell a,wr,true⟩:=by cases wr<;>rfl
   simp only[e2];show a.block<B;omega
 ·rintro⟨x,hx,hxm,hk⟩;obtain⟨op,hop,hopx⟩:=touch_of hx;have hop2:=hop;rw[ofEvents_eq]at hop2;rw[xr hi,xc]at hop2;obtain⟨e,hje,rfl⟩:=xl.1 hop2;rcases he e (Array.mem_of_getElem? hje)with h1|h1|⟨a,wr,rfl,h2⟩
  ·simp only[mk h1]at hopx;cases hopx
  ·simp only[mk h1]at hopx;cases hopx
  ·have e2:MemAct.ofEvent ⟨.cell a,wr,true⟩=.access ⟨.cell a,wr,true⟩:=by cases wr<;>rfl
   simp only[e2]at hopx;simp only[MemAct.touch?,sk]at hopx;subst hopx;rcases hk with hk|⟨g,hg,hdf⟩
   ·exact hk rfl
   ·have hgn:g=A.n:=by
     simp[Trace.g?,hop]at hg;exact hg.symm
    subst hgn;have hj:i-t.size<=es.size:=by
     have:=(li.1 hje).1
     omega
    have hin:=deaf_inside t A.n fn pos es (i-t.size) hj;rw[show t.size+(i-t.size)=i by omega,hdf,hd]at hin;have:=hq _ _ hje ⟨a,wr,rfl⟩
    omega
structure XS(E:Env)(B0:Nat)(L:World)(st sm:Int)(d:Nat)(a:Goroutine)(gs:Array Goroutine)(C:World)(t:Trace)(q:Nat->Nat):Prop where
 g0:gs[0]?=some a
 lv:Leavers E.P t gs q
 wr:WR C L
 old:∀b:Nat,b<B0->C.heap[b]?=U b L.heap[b]?
 tape:C.tape=L.tape
 low:E.Low<=L.heap.size
 shun:∀l,E.A.Shun l->∃a T fz,l=.cell a/\L.heap[a.block]?=some (.cells #[] T fz)
 bx:FB E.bx C
 wg:WgS E.A.Wg E.tW C st sm
 hidw:∃T fz,L.heap[E.A.Wg]?=some (.cells #[] T fz)
 tr:TJx E.A C.heap.size t
 d0:Deaf t 0=d
def T0(A:Area)(B d:Nat)(t:Trace):Prop:=TJx A B t/\Deaf t 0=d
theorem aC5{A:Area}{B d:Nat}:bj9 (T0 A B d):=λt g fn pos es hg hm ⟨⟨r,h⟩,hd⟩=>by
 refine⟨⟨r,h.mute (λop hop=>?_) (λop hop=>?_) λop hop=>?_⟩,(Deaf_other t hg _ ae0).trans hd⟩
 ·obtain⟨e,he,rfl⟩:=lJ hop;exact touch_mute (hm e he)
 ·obtain⟨e,he,rfl⟩:=lJ hop;have:=hm e he
  obtain⟨loc,wr,sy⟩:=e;cases loc with
  |mark m=>cases m<;>simp_all [Event.mute,MemAct.ofEvent]
  |_=>simp[Event.mute]at this
 ·obtain⟨e,he,rfl⟩:=lJ hop;exact low_mute (hm e he) _
theorem XS.go(hE:EOK E B0){st sm st' sm':Int}{d:Nat}{s:St}{a':Goroutine}{gs:Array Goroutine}{C:World}{sl:Option (Nat×Nat)}{t:Trace}{q:Nat->Nat}{es:Array Event}(h:XS E B0 L st sm d (G s.1 s.2) gs C t q)(F:World->World)
  (hF:(∀w,F w=w)/\st'=st/\sm'=sm\/∃i v,(∀w,F w=w.setCell ⟨E.A.Wg,i,none⟩ v)/\∀w,WgS E.A.Wg E.tW w st sm->WgS E.A.Wg E.tW (w.setCell ⟨E.A.Wg,i,none⟩ v) st' sm')
  (hs:∀w,FB E.bx w->WgS E.A.Wg E.tW w st sm->stepG E.P true (G s.1 s.2) w=.go a' (F w) es) (he:∀e∈es,Ev0 E.A E.Low e)
  (hk:∀gs C sl t q,XS E B0 L st' sm' (deafBehind d es) a' gs C t q->Wins E.P Post (crowd gs C sl) t):Wins E.P Post (crowd gs C sl) t:=by
 have hlow:E.Low<=C.heap.size:=by rw[h.wr.size];exact h.low
 refine aT0 (T:=T0 E.A C.heap.size d) (T':=T0 E.A C.heap.size (deafBehind d es)) aC5 h.g0 rfl h.lv ⟨h.tr,h.d0⟩ λe=>⟨a',F (C.at e),es,hs _ h.bx h.wg,λt fn pos ⟨⟨r,ht⟩,hd⟩=>⟨⟨r,ht.app0 hE.ap (lh _) ae0 (at0 he).1 λop hop=>MemAct.low_mono hlow ((at0 he).2 op hop)⟩,by rw[Deaf_own,hd]⟩,λgs' sl' t' q' g0 gz hl ht=>?_⟩
 rcases hF with⟨hw,rfl,rfl⟩|⟨i,v,hw,hst⟩
 ·rw[hw];exact hk _ _ _ _ q' ⟨g0,hl,⟨h.wr.os,h.wr.out,h.wr.size,h.wr.blk,h.wr.nv,h.wr.np,h.wr.lp⟩,h.old,h.tape,h.low,h.shun,h.bx,h.wg,h.hidw,ht.1,ht.2⟩
 ·rw[hw];have ne:∀b,b≠E.A.Wg->((C.at e).setCell ⟨E.A.Wg,i,none⟩ v).heap[b]?=C.heap[b]?:=λb hb=>by rw[heap_set,lu hb];rfl
  have hsz:((C.at e).setCell ⟨E.A.Wg,i,none⟩ v).heap.size=C.heap.size:=by simp[World.setCell,World.at]
  have hw':=hst (C.at e) h.wg;refine hk _ _ _ _ q' ⟨g0,hl,⟨h.wr.os,h.wr.out,hsz.trans h.wr.size,λb o ho=>?_,h.wr.nv,h.wr.np,h.wr.lp⟩,λb hb=>?_,h.tape,h.low,h.shun,λb o hb=>?_,hw',h.hidw,by rw[hsz];exact ht.1,ht.2⟩
  ·by_cases hc:b=E.A.Wg
   ·subst hc;obtain⟨T0,fz,hL⟩:=h.hidw;obtain⟨o',k1,k2⟩:=h.wr.blk _ _ ho;have hC:=h.wg;unfold WgS at hC;rw[hL]at ho;cases ho;rw[hC]at k1;cases k1;rcases k2 with k2|⟨T1,c1,k2,k3⟩|⟨_,_,_,_,_,_,_,k2,_⟩|⟨⟨_,_,k2⟩,_⟩;rotate_left 3
    ·cases k2
    ·cases k2
    ·cases k2;cases k3;exact⟨_,hw',.inr (.inl ⟨_,_,rfl,rfl⟩)⟩
    ·cases k2
   ·rw[ne b hc];exact h.wr.blk b o ho
  ·rw[ne b (by have:=hE.w0;omega)];exact h.old b hb
  ·rw[ne b (λhc=>by subst hc;rw[hE.wb]at hb;cases hb)];exact h.bx b o hb
theorem XS.c(hE:EOK E B0)(hPX:∀f d s,E.PX f d s->∀gs C sl t q,XS E B0 L 0 0 d (G s.1 s.2) gs C t q->Wins E.P Post (crowd gs C sl) t):∀{nx:Nat}{ph:Ph}{d:Nat}{a:Goroutine},PS E nx ph d a->ph=.cls->
  ∀gs C sl t q,XS E B0 L 0 0 d a gs C t q->Wins E.P Post (crowd gs C sl) t:=by
 intro nx ph d a hps;induction hps with
 |@quiet nx ph d s s1 es h he k ih=>
  intro hph gs C sl t q hx;exact hx.go hE id (.inl ⟨λ_=>rfl,rfl,rfl⟩) (λw hb hw=>h w hb ⟨_,_,hw⟩) he (ih hph)
 |@w1 nx d s s1 s0 es h1 k1 h0 k0 he _=>
  intro hph gs C sl t q hx;exact hx.go hE id (.inl ⟨λ_=>rfl,rfl,rfl⟩) (λw hb hw=>h0 w hb hw) he (hPX _ _ s0 k0)
 |@w2 nx d s s1 s0 es es0 h1 k1 h0 k0 he he0 _=>
  intro hph gs C sl t q hx;exact hx.go hE id (.inl ⟨λ_=>rfl,rfl,rfl⟩) (λw hb hw=>h0 w hb hw) he0 (hPX _ _ s0 k0)
 |send=>intro hph;cases hph
 |parked=>intro hph;cases hph
 |close=>intro hph;cases hph
 |w3=>intro hph;cases hph
 |blk=>intro hph;cases hph
theorem XS.f(hE:EOK E B0)(hPX:∀f d s,E.PX f d s->∀gs C sl t q,XS E B0 L 0 0 d (G s.1 s.2) gs C t q->Wins E.P Post (crowd gs C sl) t):∀{nx:Nat}{ph:Ph}{d:Nat}{a:Goroutine},PS E nx ph d a->ph=.reg->a.status=.running->
  ∀gs C sl t q,XS E B0 L 0 1 d a gs C t q->Wins E.P Post (crowd gs C sl) t:=by
 intro nx ph d a hps;induction hps with
 |@quiet nx ph d s s1 es h he k ih=>
  intro hph _ gs C sl t q hx;exact hx.go hE id (.inl ⟨λ_=>rfl,rfl,rfl⟩) (λw hb hw=>h w hb ⟨_,_,hw⟩) he (ih hph rfl)
 |@w3 nx d s s1 es hb hf k he=>
  intro hph _ gs C sl t q hx;exact hx.go hE (λw=>w.setCell ⟨E.A.Wg,1,none⟩ (.int .u32 0)) (.inr ⟨1,_,λ_=>rfl,λw hw=>bq8 hw 0⟩) (λw hb' hw=>hf w hb' hw) he (hPX _ _ s1 k)
 |w1=>intro hph;cases hph
 |w2=>intro hph;cases hph
 |send=>intro hph;cases hph
 |parked=>intro hph;cases hph
 |close=>intro hph;cases hph
 |blk=>intro _ hr;cases hr
theorem Inv.leaves{T:Nat->Trace->Prop}{st:Ph->Int}{b:Goroutine}{ph:Ph}{d:Nat}{a a' b':Goroutine}{gs gs':Array Goroutine}{C C':World}{t t':Trace}{q:Nat->Nat}(h:Inv E B0 T st nx dn b L ph d a gs C t q){n' dn':Nat}{st' sm':Int}(hE:EOK E B0)
  (hq:QuitsD E.P n' dn' b') (i:Nat) (v:Value) (hC:C'=C.setCell ⟨E.A.Wg,i,none⟩ v) (hw:WgS E.A.Wg E.tW C' st' sm') (h0:gs'[0]?=some a') (hn:gs'[E.A.n]?=some b') (hl:LB E.P t' gs' E.A.n q) (htr:TJx E.A C.heap.size t') (hd:Deaf t' 0=d) (hdn:Deaf t' E.A.n=dn'):
  XS E B0 L st' sm' d a' gs' C' t' (upd q E.A.n n'):=by
 subst hC;have ne:∀b,b≠E.A.Wg->(C.setCell ⟨E.A.Wg,i,none⟩ v).heap[b]?=C.heap[b]?:=λb hb=>by rw[heap_set,lu hb]
 have hsz:(C.setCell ⟨E.A.Wg,i,none⟩ v).heap.size=C.heap.size:=by simp[World.setCell]
 refine⟨h0,⟨λj g hj hg=>?_,hl.above⟩,⟨h.wr.os,h.wr.out,hsz.trans h.wr.size,λb o ho=>?_,h.wr.nv,h.wr.np,h.wr.lp⟩,λb hb=>?_,h.tape,h.low,h.shun,λb o hb=>?_,hw,h.hidw,by rw[hsz];exact htr,hd⟩
 ·by_cases hjn:j=E.A.n
  ·subst hjn;rw[hn]at hg;cases hg;rw[upd_same,hdn];exact hq
  ·rw[upd_ne q _ hjn];exact hl.old j g hj hjn hg
 ·by_cases hc:b=E.A.Wg
  ·subst hc;obtain⟨T0,fz,hL⟩:=h.hidw;obtain⟨o',k1,k2⟩:=h.wr.blk _ _ ho;have hC:=h.wg;unfold WgS at hC;rw[hL]at ho;cases ho;rw[hC]at k1;cases k1;rcases k2 with k2|⟨T1,c1,k2,k3⟩|⟨_,_,_,_,_,_,_,k2,_⟩|⟨⟨_,_,k2⟩,_⟩;rotate_left 3
   ·cases k2
   ·cases k2
   ·cases k2;cases k3;exact⟨_,hw,.inr (.inl ⟨_,_,rfl,rfl⟩)⟩
   ·cases k2
  ·rw[ne b hc];exact h.wr.blk b o ho
 ·rw[ne b (by have:=hE.w0;omega)];exact h.old b hb
 ·rw[ne b (λhc=>by subst hc;rw[hE.wb]at hb;cases hb)];exact h.bx b o hb
end
end Hid
namespace Hid
open Go.RowKit Go.Conc
variable [inst:LoopOK] [Junk]
section
variable {E:Env}{B0:Nat}{T:Nat->Trace->Prop}{st:Ph->Int}{R:Ph->Prop}{nx dn:Nat}{L:World}{Post:Value->World->Prop}
def R3:Ph->Prop:=λph=>ph=.reg
theorem rp3(c:Int):RP (λ_=>c) R3:=⟨λh=>(by cases h),λh=>(by cases h),λ_ h=>Or.inr h⟩
def QNil(E:Env):List (FuncId×List Did)->Prop
 | []=>True
 |(f,l)::r=>(∀C,WgL E.A.Wg E.tW C->Fits l C/\wOf l C=C)/\seen E.P f (esOf l).toArray = #[]/\QNil E r
theorem WW.bd6(hE:EOK E B0)(hT:TProp E.A T)(hR:RP st R):∀(n:Nat){s s':St}{ans:List (List An)}{ls:List (FuncId×List Did)},runG E.P false n s ans=some (s',ls)->QNil E ls->WW E B0 T st R nx dn (G s'.1 s'.2) L Post->WW E B0 T st R nx dn (G s.1 s.2) L Post:=by
 intro n;induction n with
 |zero=>intro s s' ans ls h hq k;cases h;exact k
 |succ n ih=>
  intro s s' ans ls h hq k;obtain⟨s1,an,l,ans',r,h1,h2,h3⟩:=aL9 h;have nil:∀B t fn pos,E.Low<=B->L.heap.size=B->T B t->Deaf t E.A.n=dn->T B (t++MemOp.ofEvents E.A.n fn pos #[]):=λB t fn pos _ _ h _=>by rw[a38];exact h
  rcases h3 with⟨rfl,rfl⟩|rfl
  ·exact WW.still (T':=T) hE hT hR (es:=#[]) (λC _ _ _ _ _=>ab4 h1 (w:=C) trivial) nil (ih h2 hq k)
  ·refine WW.still (T':=T) hE hT hR (es:=#[]) (λC ph _ hb hw hg=>?_) nil (ih h2 hq.2.2 k);obtain⟨hf,hw'⟩:=hq.1 C ⟨_,_,hg⟩;rw[ab4 h1 hf,hw',hq.2.1]
def rdE(Wg i:Nat):Event:=⟨.cell ⟨Wg,i,none⟩,false,true⟩
def wrE(Wg i:Nat):Event:=⟨.cell ⟨Wg,i,none⟩,true,true⟩
def mkE(m:Mark):Event:=⟨.mark m,false,true⟩
theorem WW.r0(hE:EOK E B0)(hR:RP st R){s s1:St}(h:∀C ph,R ph->FB E.bx C->WR C L->WgS E.A.Wg E.tW C (st ph) 0->stepG E.P false (G s.1 s.2) C=.go (G s1.1 s1.2) C #[mkE (.releaseMerge (st0 E.A.Wg))])
  (k:WW E B0 (TJx E.A) st R nx 0 (G s1.1 s1.2) L Post):WW E B0 (TI E.A) st R nx 0 (G s.1 s.2) L Post:=by
 refine WW.still (T':=TJx E.A) hE (al2 hE.ap) hR h (λB t fn pos hB _ ht hd=>⟨t.size,?_⟩) k;have:=ht.release (lQ hE.wl hB) hd fn pos
 rw[ofEvents_eq];simpa[mkE,MemAct.ofEvent]using this
theorem WW.k1(hE:EOK E B0)(hR:RP st R){s s1:St}(h:∀C ph,R ph->FB E.bx C->WR C L->WgS E.A.Wg E.tW C (st ph) 0->stepG E.P false (G s.1 s.2) C=.go (G s1.1 s1.2) C #[mkE .disable])
  (k:WW E B0 (TJx E.A) st R nx (dn+1) (G s1.1 s1.2) L Post):WW E B0 (TJx E.A) st R nx dn (G s.1 s.2) L Post:=
 WW.still (T':=TJx E.A) hE (ah6 hE.ap) hR h (λB t fn pos hB _ ht hd=>aB0 hE.ap ht (lQ hE.wl hB) hd (λe he=>by simp at he;subst he;exact .inl rfl) (λj e hj he=>by
  obtain⟨a,wr,rfl⟩:=he;have:=Array.mem_of_getElem? hj
  simp[mkE]at this)) k
theorem WW.d2(hE:EOK E B0)(hR:RP st R){s s1:St}(h:∀C ph,R ph->FB E.bx C->WR C L->WgS E.A.Wg E.tW C (st ph) 0->stepG E.P false (G s.1 s.2) C=.go (G s1.1 s1.2) C #[rdE E.A.Wg 0])(hdn:0<dn)
  (k:WW E B0 (TJx E.A) st R nx dn (G s1.1 s1.2) L Post):WW E B0 (TJx E.A) st R nx dn (G s.1 s.2) L Post:=
 WW.still (T':=TJx E.A) hE (ah6 hE.ap) hR h (λB t fn pos hB _ ht hd=>aB0 hE.ap ht (lQ hE.wl hB) hd (λe he=>by simp at he;subst he;exact .inr (.inr ⟨_,_,rfl,rfl⟩)) (λj e hj _=>by
  have hlt:=(li.1 hj).1;simp at hlt;subst hlt;exact hdn)) k
theorem b11{Wg:Nat}(h:0<dn){a b:Event}(ha:a=rdE Wg 0):∀j e,(#[a,b]:Array Event)[j]?=some e->(∃x wr,e=⟨.cell x,wr,true⟩)->0<deafBehind dn ((#[a,b]:Array Event).extract 0 j):=by
 intro j e hj _;have hlt:=(li.1 hj).1;simp at hlt;subst ha;match j,hlt with
 |0,_=>exact h
 |1,_=>exact h
theorem WW.d1(hE:EOK E B0)(hPX:∀f d s,E.PX f d s->∀gs C sl t q,XS E B0 L 0 0 d (G s.1 s.2) gs C t q->Wins E.P Post (crowd gs C sl) t){s sa sb:St}{n:Nat}(hdn:0<dn)
  (ha:∀C,FB E.bx C->WgS E.A.Wg E.tW C KK 0->stepG E.P false (G s.1 s.2) C=.go (G sa.1 sa.2) (C.setCell ⟨E.A.Wg,0,none⟩ (.int .u64 0)) #[rdE E.A.Wg 0,wrE E.A.Wg 0]) (hq:QuitsD E.P n dn (G sa.1 sa.2))
  (hb:∀C,FB E.bx C->WgS E.A.Wg E.tW C (KK+1) 0->stepG E.P false (G s.1 s.2) C=.go (G sb.1 sb.2) (C.setCell ⟨E.A.Wg,0,none⟩ (.int .u64 1)) #[rdE E.A.Wg 0,wrE E.A.Wg 0])
  (k:WW E B0 (TJx E.A) (λ_=>1) R3 nx dn (G sb.1 sb.2) L Post):WW E B0 (TJx E.A) Ph.st R2 nx dn (G s.1 s.2) L Post:=by
 refine .of hE (ah6 hE.ap) rp2 rfl λph d a gs C sl t q hinv hr=>?_
 have hev:∀e∈(#[rdE E.A.Wg 0,wrE E.A.Wg 0]:Array Event),e.loc=.mark .disable\/e.loc=.mark .enable\/∃a wr,e=⟨.cell a,wr,true⟩/\a.block=E.A.Wg:=by
  intro e he;simp at he;rcases he with rfl|rfl
  ·exact .inr (.inr ⟨_,_,rfl,rfl⟩)
  ·exact .inr (.inr ⟨_,_,rfl,rfl⟩)
 have htr:∀fn pos,TJx E.A C.heap.size (t++MemOp.ofEvents E.A.n fn pos #[rdE E.A.Wg 0,wrE E.A.Wg 0]):=λfn pos=>aB0 hE.ap hinv.tr (by rw[hinv.wr.size];exact lQ hE.wl hinv.low) hinv.dn hev (b11 hdn rfl)
 have hchs:∀v,ChS E.A.Ch (C.setCell ⟨E.A.Wg,0,none⟩ v) ph.cl:=λv=>by
  obtain⟨s',r',hc⟩:=hinv.ch;exact⟨s',r',by rw[heap_set,lu hE.cw];exact hc⟩
 cases ph with
 |opn=>exact absurd rfl hr
 |cls=>
  obtain⟨gs',h1,hz,h2,h3,h4,h5,h6⟩:=aA6 (sl:=sl) hinv (ha C hinv.bx hinv.wg);exact⟨_,_,h1,XS.c hE hPX (hinv.ps.woken (hchs _) _ _) rfl gs' _ sl _ _ (hinv.leaves hE hq 0 _ rfl (aL0 hinv.wg 0) h2 h3 h4 (htr _ _) h5 h6)⟩
 |reg=>
  obtain⟨gs',h1,hz,h2,h3,h4,h5,h6⟩:=aA6 (sl:=sl) hinv (hb C hinv.bx hinv.wg);exact⟨_,_,h1,k .reg d _ gs' _ sl _ q (hinv.group hE 0 _ (ph':= .reg) rfl (aL0 hinv.wg 1) h2 h3 h4 (htr _ _) h5 h6 (hinv.ps.woken (hchs _) _ _)) rfl⟩
theorem WW.d3(hE:EOK E B0){c:Int}{s s1:St}(hdn:0<dn)(h:∀C,FB E.bx C->WgS E.A.Wg E.tW C c 0->stepG E.P false (G s.1 s.2) C=.go (G s1.1 s1.2) (C.setCell ⟨E.A.Wg,0,none⟩ (.int .u64 0)) #[wrE E.A.Wg 0])
  (k:WW E B0 (TJx E.A) (λ_=>0) R3 nx dn (G s1.1 s1.2) L Post):WW E B0 (TJx E.A) (λ_=>c) R3 nx dn (G s.1 s.2) L Post:=by
 refine .of hE (ah6 hE.ap) (rp3 c) rfl λph d a gs C sl t q hinv hr=>?_
 obtain rfl:ph=.reg:=hr
 obtain⟨gs',h1,hz,h2,h3,h4,h5,h6⟩:=aA6 (sl:=sl) hinv (h C hinv.bx hinv.wg);refine⟨_,_,h1,k .reg d _ gs' _ sl _ q (hinv.group hE 0 _ (ph':= .reg) rfl (aL0 hinv.wg 0) h2 h3 h4 (aB0 hE.ap hinv.tr (by rw[hinv.wr.size];exact lQ hE.wl hinv.low) hinv.dn (λe he=>?_) (λj e hj _=>?_)) h5 h6 (hinv.ps.woken ?_ _ _)) rfl⟩
 ·simp at he;subst he;exact .inr (.inr ⟨_,_,rfl,rfl⟩)
 ·have hlt:=(li.1 hj).1;simp at hlt;subst hlt;exact hdn
 ·obtain⟨s',r',hc⟩:=hinv.ch;exact⟨s',r',by rw[heap_set,lu hE.cw];exact hc⟩
theorem WW.d4(hE:EOK E B0)(hPX:∀f d s,E.PX f d s->∀gs C sl t q,XS E B0 L 0 0 d (G s.1 s.2) gs C t q->Wins E.P Post (crowd gs C sl) t){s s1:St}{n:Nat}(hdn:0<dn)(hm:mayWake E.P (G s.1 s.2)=true)
  (h:∀C,FB E.bx C->WgS E.A.Wg E.tW C 0 0->stepG E.P false (G s.1 s.2) C=.go (G s1.1 s1.2) (C.setCell ⟨E.A.Wg,1,none⟩ (.int .u32 1)) #[mkE .disable,rdE E.A.Wg 1,wrE E.A.Wg 1,mkE .enable]) (hq:QuitsD E.P n dn (G s1.1 s1.2)):
  WW E B0 (TJx E.A) (λ_=>0) R3 nx dn (G s.1 s.2) L Post:=by
 refine .of hE (ah6 hE.ap) (rp3 0) rfl λph d a gs C sl t q hinv hr=>?_
 obtain rfl:ph=.reg:=hr
 obtain⟨gs',h1,hz,h2,h3,h4,h5,h6⟩:=aA6 (sl:=sl) hinv (h C hinv.bx hinv.wg);have hdb:deafBehind dn #[mkE .disable,rdE E.A.Wg 1,wrE E.A.Wg 1,mkE .enable]=dn:=rfl;have hchs:ChS E.A.Ch (C.setCell ⟨E.A.Wg,1,none⟩ (.int .u32 1)) Ph.reg.cl:=by
  obtain⟨s',r',hc⟩:=hinv.ch;exact⟨s',r',by rw[heap_set,lu hE.cw];exact hc⟩
 have hrun:(woken E.P (G s.1 s.2) (G s1.1 s1.2) (C.setCell ⟨E.A.Wg,1,none⟩ (.int .u32 1)) a).status=.running:=by
  have hps:=hinv.ps;cases hps with
  |quiet=>rw[woken_run rfl];rfl
  |w3=>rw[woken_run rfl];rfl
  |blk k=>
   unfold woken;rw[ll (by rw[hm];rfl)];rfl
 refine⟨_,_,h1,XS.f hE hPX (hinv.ps.woken hchs _ _) rfl hrun gs' _ sl _ _ (hinv.leaves hE (by rw[hdb];exact hq) 1 _ rfl (bq8 hinv.wg 1) h2 h3 h4 (aB0 hE.ap hinv.tr (by rw[hinv.wr.size];exact lQ hE.wl hinv.low) hinv.dn (λe he=>?_) (λj e hj hx=>?_)) h5 h6)⟩
 ·simp at he;rcases he with rfl|rfl|rfl|rfl
  ·exact .inl rfl
  ·exact .inr (.inr ⟨_,_,rfl,rfl⟩)
  ·exact .inr (.inr ⟨_,_,rfl,rfl⟩)
  ·exact .inr (.inl rfl)
 ·have hlt:=(li.1 hj).1;simp at hlt;match j,hlt with
  |0,_=>exact hdn
  |1,_=>exact xF dn
  |2,_=>exact xF dn
  |3,_=>exact xF dn
end
end Hid
namespace Hid
open Go Go.Proofs Go.RowKit Go.Conc
def b80(p:Program)(f:FuncId):Code:=((p.funcs[f]?).bind (·.body)).getD .skip
def sL:Code->Code
 |.seq a _=>a
 |c=>c
def sR:Code->Code
 |.seq _ b=>b
 |c=>c
def bB:Code->Code
 |.block _ b=>b
 |.loop b=>b
 |c=>c
def rO:Code->Array Oper
 |.region _ o _=>o
 |_=>#[]
def c49:Code:=b80 Tryz.prog 48
def cA1:Code:=sR c49
def cA2:Code:=sR cA1
def cA3:Code:=sR cA2
def cA4:Code:=sR cA3
def cA6:Code:=sR cA4
def cA8:Code:=sR cA6
def lp1:Code:=bB (bB (sR (sL cA4)))
def lp2:Code:=bB (bB (sR (sL cA6)))
structure Ar where
 b0:Option Addr
 n0:Nat
 c0:Nat
 i1:Int
 i2:Int
 b3:Option Addr
 n3:Nat
 c3:Nat
 i4:Int
 m:Nat
 w:Nat->Value
 rest:List Value
theorem lt9{n:Nat}(h:n<=8):n=0\/n=1\/n=2\/n=3\/n=4\/n=5\/n=6\/n=7\/n=8:=by omega
namespace Ar
variable (a:Ar)
def v0:Value:= .slice a.b0 a.n0 a.c0
def v3:Value:= .slice a.b3 a.n3 a.c3
def V:Value:= .slice (some ⟨a.m+5,0,none⟩) a.n3 a.n3
def pt(i:Nat):Value:= .pointer (some ⟨a.m+i,0,none⟩)
def tm0:Array Value:=⟨a.v0:: .int .i64 a.i1:: .int .i64 a.i2::a.v3:: .int .i64 a.i4:: .int .i64 1::a.w 6::a.w 7::a.w 8::a.w 9::a.w 10::a.w 11::a.w 12::a.w 13::a.w 14::a.w 15::a.w 16::a.w 17::a.w 18::a.w 19::a.w 20::a.w 21::a.w 22::a.w 23::a.w 24::a.w 25::a.w 26::a.w 27::a.w 28::a.w 29::a.w 30::a.w 31::a.w 32::a.w 33::a.w 34::a.w 35::a.w 36::a.w 37::a.rest⟩
def tmP(x16 x22 x23 x24 x25 x26 x27 x28 x29 x30 x31 x32 x33 x34 x35 x36 x37:Value):Array Value:=⟨a.v0:: .int .i64 a.i1:: .int .i64 a.i2::a.v3:: .int .i64 a.i4:: .int .i64 1::a.pt 0::a.pt 1::a.pt 2::a.pt 3::a.pt 4::a.w 11:: .slice none 0 0::a.pt 6::a.pt 8::a.pt 9::x16::a.v3:: .int .i64 a.n3::a.V:: .chan (some (a.m+7)):: .int .i64 1::x22::x23::x24::x25::x26::x27::x28::x29::x30::x31::x32::x33::x34::x35::x36::x37::a.rest⟩
def fr(tm:Array Value)(k:List Item):Frame:={fn:=48,tmps:=tm,todo:=k,defers:=[],mode:= .run,kind:= .normal}
def F0:Frame:=fr a.tm0 [.code c49]
def FA:Frame:=fr (a.tmP (a.w 16) (.int .i64 0) (.bool true) (a.w 24) (a.w 25) (a.w 26) (a.w 27) (a.w 28) (a.w 29) (a.w 30) (a.w 31) (a.w 32) (a.w 33) (a.w 34) (a.w 35) (a.w 36) (a.w 37)) [.inRegion (rO (sL (bB (sL (sR (sR lp1)))))) [0],.code (sR (bB (sL (sR (sR lp1))))),.inBlock 1,.code (sR (sR (sR lp1))),.inLoop lp1,.inBlock 0,.code cA6]
def ansA:List (List An):=[[.r a.m],[.r (a.m+1)],[.r (a.m+2)],[.r (a.m+3)],[.r (a.m+4)],[.v a.v3],[.r (a.m+5)],[.r (a.m+6)],[.r (a.m+7)],[.r (a.m+8)],[.r (a.m+9)]]
def nul:Value:= .slice none 0 0
def ci0:List (FuncId×List Did):=[(48,[.nw (.cells #[a.v0] 22 (0,0)) a.m]),(48,[.nw (.cells #[.int .i64 a.i1] 3 (0,0)) (a.m+1)]),(48,[.nw (.cells #[.int .i64 a.i2] 3 (0,0)) (a.m+2)]),(48,[.nw (.cells #[a.v3] 48 (0,0)) (a.m+3)]),(48,[.nw (.cells #[.int .i64 a.i4] 3 (0,0)) (a.m+4)]),
 (48,[.rd .plain ⟨a.m+3,0,none⟩ a.v3]),(48,[.nw (.cells (Array.replicate a.n3 nul) 89 (0,0)) (a.m+5)]),(48,[.nw (.cells #[nul] 87 (0,0)) (a.m+6)]),(48,[.wr .plain ⟨a.m+6,0,none⟩ a.V]),(48,[.nw (.chan 0 #[] false 0 0 false) (a.m+7)]),(48,[.nw (.cells #[.chan none] 115 (0,0)) (a.m+8)]),(48,[.wr .plain ⟨a.m+8,0,none⟩ (.chan (some (a.m+7)))]),
 (48,[.nw (.cells #[.int .u64 0,.int .u32 0] 125 (0,0)) (a.m+9)])]
def T0:Frame:=fr a.tm0 [.code au0]
def tmT(x26 x29 x30 x31 x33 x34 x35:Value):Array Value:=⟨a.v0:: .int .i64 a.i1:: .int .i64 a.i2::a.v3:: .int .i64 a.i4:: .int .i64 1::a.pt 0::a.pt 1::a.pt 2::a.pt 3::a.pt 4::a.w 11:: .slice none 0 0::a.pt 6::a.pt 8::a.pt 9::a.w 16:: .int .i64 a.n0:: .int .i64 a.n3::a.V:: .chan (some (a.m+7)):: .bool true:: .bool (decide (a.i1<0)):: .bool (decide (a.i2<0)):: .bool (decide (a.i4<0)):: .bool true::x26::a.w 27::a.w 28::x29::x30::x31::a.w 32::x33::x34::x35::a.w 36::a.w 37::a.rest⟩
def TB(k:Int)(x26 x30 x31 x33 x34 x35:Value):Frame:=fr (a.tmT x26 (.int .i64 k) x30 x31 x33 x34 x35) [.code bD8,.inLoop bD8,.inBlock 2,.code ca1]
def ansT:List (List An):=[[.r a.m],[.r (a.m+1)],[.r (a.m+2)],[.r (a.m+3)],[.r (a.m+4)],[.r (a.m+5)],[.r (a.m+6)],[.r (a.m+7)],[.r (a.m+8)],[.r (a.m+9)]]
def ch9:List (FuncId×List Did):=[(48,[.nw (.cells #[] 22 (0,0)) a.m]),(48,[.nw (.cells #[] 3 (0,0)) (a.m+1)]),(48,[.nw (.cells #[] 3 (0,0)) (a.m+2)]),(48,[.nw (.cells #[] 48 (0,0)) (a.m+3)]),(48,[.nw (.cells #[] 3 (0,0)) (a.m+4)]),
 (48,[.nw (.cells (Array.replicate a.n3 nul) 89 (0,0)) (a.m+5)]),(48,[.nw (.cells #[] 87 (0,0)) (a.m+6)]),(48,[.nw (.chan 0 #[] false 0 0 false) (a.m+7)]),(48,[.nw (.cells #[] 115 (0,0)) (a.m+8)]),(48,[.nw (.cells #[] 125 (0,0)) (a.m+9)])]
end Ar
open Ar
open Ar
theorem co4(a:Ar)(h:a.n3<=8)(cs:List Frame):runG Tryz.prog true 46 (a.F0,cs) a.ansA=some ((a.FA,cs),a.ci0):=by
 obtain⟨b0,n0,c0,i1,i2,b3,n3,c3,i4,m,w,rest⟩:=a;simp only at h
 rcases lt9 h with rfl|rfl|rfl|rfl|rfl|rfl|rfl|rfl|rfl<;>kernel_rfl
theorem co3(a:Ar)(h:a.n3<=8)(cs:List Frame):runR twp true 46 (a.T0,cs) a.ansT=some ((a.TB 0 (a.w 26) (a.w 30) (a.w 31) (a.w 33) (a.w 34) (a.w 35),cs),a.ch9):=by
 obtain⟨b0,n0,c0,i1,i2,b3,n3,c3,i4,m,w,rest⟩:=a;simp only at h
 rcases lt9 h with rfl|rfl|rfl|rfl|rfl|rfl|rfl|rfl|rfl<;>kernel_rfl
end Hid
namespace Hid
open Ar
open Go Go.Proofs Go.RowKit Go.Conc
variable [Junk]
def aI6(P:Program)(fr:Frame):Bool:=match fr.mode,fr.roundOf,fr.todo with
 |.run,none,.inRegion ops (i::_)::_=>((ops[i]?).map (Region.wanted · (yielded ops fr.tmps))).getD false&&bB1 fr.kind&&match fr.oper? with
  |some o=>match runA P (execOp fr.eval o) []with
   |some (.inr (.stuck _),[])=>true
   |some (.inr (.unsupported (.initOrder _)),[])=>false
   |some (.inr (.unsupported _),[])=>true
   |_=>false
  |none=>false
 |.run,none,.code (.refuse _)::_=>true
 |_,_,_=>false
theorem ac9{p:Program}{f:FuncId}{Q:Value->World->Prop}{fr:Frame}{cs:List Frame}{L:World}(h:aI6 p fr=true)(ht:Tree p (AtRet p f Q) (G fr cs) L):False:=by
 have hm:fr.mode=.run:=by
  cases e:fr.mode with
  |run=>rfl
  |_=>simp[aI6,e]at h
 obtain⟨g',L',es,e,_⟩:=ht.goes (au4 hm) L.drawn;cases hr:fr.roundOf with
 |some _=>simp[aI6,hm,hr]at h
 |none=>
  cases hq:fr.todo with
  |nil=>simp[aI6,hm,hr,hq]at h
  |cons i k=>
   cases i with
   |code c=>
    cases c with
    |refuse s=>simp[stepG,G,hm,stepG.exec,hq]at e
    |_=>simp[aI6,hm,hr,hq]at h
   |inRegion ops js=>
    cases js with
    |nil=>simp[aI6,hm,hr,hq]at h
    |cons j js=>
     simp only[aI6,hm,hr,hq,lr]at h;obtain⟨⟨hw,hk⟩,h⟩:=h;cases ho:fr.oper? with
     |none=>rw[ho]at h;cases h
     |some o=>
      rw[ho]at h;simp only at h
      have hk':(fr.kind==CallKind.early)=false:=by cases hh:fr.kind<;>first|rfl|(rw[hh]at hk;cases hk)
      have e1:stepG p true (G fr cs) (L.at L.drawn)=stepG.apply p true fr cs none (execOp fr.eval o) (L.at L.drawn):=by
       simp only[stepG,G,hm,stepG.exec,hq,hw,xj,stepG.oper,ho,hr]
      rw[e1]at e;unfold stepG.apply at e;split at h
      ·rename_i s hra;have hs:=ap5 hra (w:=L.at L.drawn) (es:=#[]) trivial;simp only[hs,ar1,hk',xj,lH,xn]at e;simp[GStep.after]at e
      ·cases h
      ·rename_i u hni hra;have hs:=ap5 hra (w:=L.at L.drawn) (es:=#[]) trivial;simp only[hs,ar1,hk',xj,lH,xn]at e;cases u<;>first|exact absurd rfl (hni _)|(simp[GStep.after]at e)
      ·cases h
   |_=>simp[aI6,hm,hr,hq]at h
def tT1:Code:=sR au0
def tT2:Code:=sR tT1
def tT3:Code:=sR tT2
theorem bZ6{f:FuncId}{Q:Value->World->Prop}{v0 v1 v2 v3 v4 v5:Value}{w:Nat->Value}{rest:List Value}{cs:List Frame}{L:World}(ht:Tree twp (AtRet twp f Q) (G (fr ⟨v0::v1::v2::v3::v4::v5::w 6::w 7::w 8::w 9::w 10::w 11::w 12::w 13::w 14::w 15::w 16::w 17::w 18::w 19::w 20::w 21::w 22::w 23::w 24::w 25::w 26::w 27::w 28::w 29::w 30::w 31::w 32::w 33::w 34::w 35::w 36::w 37::rest⟩ [.code au0]) cs) L):
  ∃b0 n0 c0 i1 i2 b3 n3 c3 i4,v0=.slice b0 n0 c0/\v1=.int .i64 i1/\v2=.int .i64 i2/\v3=.slice b3 n3 c3/\v4=.int .i64 i4/\v5=.int .i64 1/\n3<=8:=by
 have s0:=(ad6 (p:=twp) 2 (s:=(fr ⟨v0::v1::v2::v3::v4::v5::w 6::w 7::w 8::w 9::w 10::w 11::w 12::w 13::w 14::w 15::w 16::w 17::w 18::w 19::w 20::w 21::w 22::w 23::w 24::w 25::w 26::w 27::w 28::w 29::w 30::w 31::w 32::w 33::w 34::w 35::w 36::w 37::rest⟩ [.code au0],cs)) (s':=(fr ⟨v0::v1::v2::v3::v4::v5::w 6::w 7::w 8::w 9::w 10::w 11::w 12::w 13::w 14::w 15::w 16::w 17::w 18::w 19::w 20::w 21::w 22::w 23::w 24::w 25::w 26::w 27::w 28::w 29::w 30::w 31::w 32::w 33::w 34::w 35::w 36::w 37::rest⟩ [.inRegion az1 [0,1,2,3,4,5,6],.code tT1],cs)) (ans:=[]) (ls:=[]) (by kernel_rfl) trivial ht).1;have h0:∃b0 n0 c0,v0=.slice b0 n0 c0:=by
  cases v0 with
  |slice b n c=>exact⟨b,n,c,rfl⟩
  |pointer a=>cases a<;>exact(ac9 (p:=twp) (by kernel_rfl) s0).elim
  |_=>exact(ac9 (p:=twp) (by kernel_rfl) s0).elim
 obtain⟨b0,n0,c0,rfl⟩:=h0;have s1:=(ad6 (p:=twp) 1 (s:=(fr ⟨.slice b0 n0 c0::v1::v2::v3::v4::v5::w 6::w 7::w 8::w 9::w 10::w 11::w 12::w 13::w 14::w 15::w 16::w 17::w 18::w 19::w 20::w 21::w 22::w 23::w 24::w 25::w 26::w 27::w 28::w 29::w 30::w 31::w 32::w 33::w 34::w 35::w 36::w 37::rest⟩ [.inRegion az1 [0,1,2,3,4,5,6],.code tT1],cs)) (s':=(fr ⟨.slice b0 n0 c0::v1::v2::v3::v4::v5::w 6::w 7::w 8::w 9::w 10::w 11::w 12::w 13::w 14::w 15::w 16:: .int .i64 n0::w 18::w 19::w 20::w 21::w 22::w 23::w 24::w 25::w 26::w 27::w 28::w 29::w 30::w 31::w 32::w 33::w 34::w 35::w 36::w 37::rest⟩ [.inRegion az1 [1,2,3,4,5,6],.code tT1],cs)) (ans:=[]) (ls:=[]) (by kernel_rfl) trivial s0).1;have h1:∃b3 n3 c3,v3=.slice b3 n3 c3:=by
  cases v3 with
  |slice b n c=>exact⟨b,n,c,rfl⟩
  |pointer a=>cases a<;>exact(ac9 (p:=twp) (by kernel_rfl) s1).elim
  |_=>exact(ac9 (p:=twp) (by kernel_rfl) s1).elim
 obtain⟨b3,n3,c3,rfl⟩:=h1;have s2:=(ad6 (p:=twp) 1 (s:=(fr ⟨.slice b0 n0 c0::v1::v2:: .slice b3 n3 c3::v4::v5::w 6::w 7::w 8::w 9::w 10::w 11::w 12::w 13::w 14::w 15::w 16:: .int .i64 n0::w 18::w 19::w 20::w 21::w 22::w 23::w 24::w 25::w 26::w 27::w 28::w 29::w 30::w 31::w 32::w 33::w 34::w 35::w 36::w 37::rest⟩ [.inRegion az1 [1,2,3,4,5,6],.code tT1],cs)) (s':=(fr ⟨.slice b0 n0 c0::v1::v2:: .slice b3 n3 c3::v4::v5::w 6::w 7::w 8::w 9::w 10::w 11::w 12::w 13::w 14::w 15::w 16:: .int .i64 n0:: .int .i64 n3::w 19::w 20::w 21::w 22::w 23::w 24::w 25::w 26::w 27::w 28::w 29::w 30::w 31::w 32::w 33::w 34::w 35::w 36::w 37::rest⟩ [.inRegion az1 [2,3,4,5,6],.code tT1],cs)) (ans:=[]) (ls:=[]) (by kernel_rfl) trivial s1).1;have h2:∃i1,v1=.int .i64 i1:=by
  cases v1 with
  |int k n=>cases k<;>first|exact⟨n,rfl⟩|exact(ac9 (p:=twp) (by kernel_rfl) s2).elim
  |pointer a=>cases a<;>exact(ac9 (p:=twp) (by kernel_rfl) s2).elim
  |_=>exact(ac9 (p:=twp) (by kernel_rfl) s2).elim
 obtain⟨i1,rfl⟩:=h2;have s3:=(ad6 (p:=twp) 1 (s:=(fr ⟨.slice b0 n0 c0:: .int .i64 i1::v2:: .slice b3 n3 c3::v4::v5::w 6::w 7::w 8::w 9::w 10::w 11::w 12::w 13::w 14::w 15::w 16:: .int .i64 n0:: .int .i64 n3::w 19::w 20::w 21::w 22::w 23::w 24::w 25::w 26::w 27::w 28::w 29::w 30::w 31::w 32::w 33::w 34::w 35::w 36::w 37::rest⟩ [.inRegion az1 [2,3,4,5,6],.code tT1],cs)) (s':=(fr ⟨.slice b0 n0 c0:: .int .i64 i1::v2:: .slice b3 n3 c3::v4::v5::w 6::w 7::w 8::w 9::w 10::w 11::w 12::w 13::w 14::w 15::w 16:: .int .i64 n0:: .int .i64 n3::w 19::w 20::w 21:: .bool (decide (i1<0))::w 23::w 24::w 25::w 26::w 27::w 28::w 29::w 30::w 31::w 32::w 33::w 34::w 35::w 36::w 37::rest⟩ [.inRegion az1 [3,4,5,6],.code tT1],cs)) (ans:=[]) (ls:=[]) (by kernel_rfl) trivial s2).1;have h3:∃i2,v2=.int .i64 i2:=by
  cases v2 with
  |int k n=>cases k<;>first|exact⟨n,rfl⟩|exact(ac9 (p:=twp) (by kernel_rfl) s3).elim
  |pointer a=>cases a<;>exact(ac9 (p:=twp) (by kernel_rfl) s3).elim
  |_=>exact(ac9 (p:=twp) (by kernel_rfl) s3).elim
 obtain⟨i2,rfl⟩:=h3;have s4:=(ad6 (p:=twp) 1 (s:=(fr ⟨.slice b0 n0 c0:: .int .i64 i1:: .int .i64 i2:: .slice b3 n3 c3::v4::v5::w 6::w 7::w 8::w 9::w 10::w 11::w 12::w 13::w 14::w 15::w 16:: .int .i64 n0:: .int .i64 n3::w 19::w 20::w 21:: .bool (decide (i1<0))::w 23::w 24::w 25::w 26::w 27::w 28::w 29::w 30::w 31::w 32::w 33::w 34::w 35::w 36::w 37::rest⟩ [.inRegion az1 [3,4,5,6],.code tT1],cs)) (s':=(fr ⟨.slice b0 n0 c0:: .int .i64 i1:: .int .i64 i2:: .slice b3 n3 c3::v4::v5::w 6::w 7::w 8::w 9::w 10::w 11::w 12::w 13::w 14::w 15::w 16:: .int .i64 n0:: .int .i64 n3::w 19::w 20::w 21:: .bool (decide (i1<0)):: .bool (decide (i2<0))::w 24::w 25::w 26::w 27::w 28::w 29::w 30::w 31::w 32::w 33::w 34::w 35::w 36::w 37::rest⟩ [.inRegion az1 [4,5,6],.code tT1],cs)) (ans:=[]) (ls:=[]) (by kernel_rfl) trivial s3).1;have h4:∃i4,v4=.int .i64 i4:=by
  cases v4 with
  |int k n=>cases k<;>first|exact⟨n,rfl⟩|exact(ac9 (p:=twp) (by kernel_rfl) s4).elim
  |pointer a=>cases a<;>exact(ac9 (p:=twp) (by kernel_rfl) s4).elim
  |_=>exact(ac9 (p:=twp) (by kernel_rfl) s4).elim
 obtain⟨i4,rfl⟩:=h4;have s5:=(ad6 (p:=twp) 1 (s:=(fr ⟨.slice b0 n0 c0:: .int .i64 i1:: .int .i64 i2:: .slice b3 n3 c3:: .int .i64 i4::v5::w 6::w 7::w 8::w 9::w 10::w 11::w 12::w 13::w 14::w 15::w 16:: .int .i64 n0:: .int .i64 n3::w 19::w 20::w 21:: .bool (decide (i1<0)):: .bool (decide (i2<0))::w 24::w 25::w 26::w 27::w 28::w 29::w 30::w 31::w 32::w 33::w 34::w 35::w 36::w 37::rest⟩ [.inRegion az1 [4,5,6],.code tT1],cs)) (s':=(fr ⟨.slice b0 n0 c0:: .int .i64 i1:: .int .i64 i2:: .slice b3 n3 c3:: .int .i64 i4::v5::w 6::w 7::w 8::w 9::w 10::w 11::w 12::w 13::w 14::w 15::w 16:: .int .i64 n0:: .int .i64 n3::w 19::w 20::w 21:: .bool (decide (i1<0)):: .bool (decide (i2<0)):: .bool (decide (i4<0))::w 25::w 26::w 27::w 28::w 29::w 30::w 31::w 32::w 33::w 34::w 35::w 36::w 37::rest⟩ [.inRegion az1 [5,6],.code tT1],cs)) (ans:=[]) (ls:=[]) (by kernel_rfl) trivial s4).1;have h5:∃i5,v5=.int .i64 i5:=by
  cases v5 with
  |int k n=>cases k<;>first|exact⟨n,rfl⟩|exact(ac9 (p:=twp) (by kernel_rfl) s5).elim
  |pointer a=>cases a<;>exact(ac9 (p:=twp) (by kernel_rfl) s5).elim
  |_=>exact(ac9 (p:=twp) (by kernel_rfl) s5).elim
 obtain⟨i5,rfl⟩:=h5;have s6:=(ad6 (p:=twp) 1 (s:=(fr ⟨.slice b0 n0 c0:: .int .i64 i1:: .int .i64 i2:: .slice b3 n3 c3:: .int .i64 i4:: .int .i64 i5::w 6::w 7::w 8::w 9::w 10::w 11::w 12::w 13::w 14::w 15::w 16:: .int .i64 n0:: .int .i64 n3::w 19::w 20::w 21:: .bool (decide (i1<0)):: .bool (decide (i2<0)):: .bool (decide (i4<0))::w 25::w 26::w 27::w 28::w 29::w 30::w 31::w 32::w 33::w 34::w 35::w 36::w 37::rest⟩ [.inRegion az1 [5,6],.code tT1],cs)) (s':=(fr ⟨.slice b0 n0 c0:: .int .i64 i1:: .int .i64 i2:: .slice b3 n3 c3:: .int .i64 i4:: .int .i64 i5::w 6::w 7::w 8::w 9::w 10::w 11::w 12::w 13::w 14::w 15::w 16:: .int .i64 n0:: .int .i64 n3::w 19::w 20:: .bool (decide (i5=1)):: .bool (decide (i1<0)):: .bool (decide (i2<0)):: .bool (decide (i4<0))::w 25::w 26::w 27::w 28::w 29::w 30::w 31::w 32::w 33::w 34::w 35::w 36::w 37::rest⟩ [.inRegion az1 [6],.code tT1],cs)) (ans:=[]) (ls:=[]) (by kernel_rfl) trivial s5).1;have s7:=(ad6 (p:=twp) 3 (s:=(fr ⟨.slice b0 n0 c0:: .int .i64 i1:: .int .i64 i2:: .slice b3 n3 c3:: .int .i64 i4:: .int .i64 i5::w 6::w 7::w 8::w 9::w 10::w 11::w 12::w 13::w 14::w 15::w 16:: .int .i64 n0:: .int .i64 n3::w 19::w 20:: .bool (decide (i5=1)):: .bool (decide (i1<0)):: .bool (decide (i2<0)):: .bool (decide (i4<0))::w 25::w 26::w 27::w 28::w 29::w 30::w 31::w 32::w 33::w 34::w 35::w 36::w 37::rest⟩ [.inRegion az1 [6],.code tT1],cs)) (s':=(fr ⟨.slice b0 n0 c0:: .int .i64 i1:: .int .i64 i2:: .slice b3 n3 c3:: .int .i64 i4:: .int .i64 i5::w 6::w 7::w 8::w 9::w 10::w 11::w 12::w 13::w 14::w 15::w 16:: .int .i64 n0:: .int .i64 n3::w 19::w 20:: .bool (decide (i5=1)):: .bool (decide (i1<0)):: .bool (decide (i2<0)):: .bool (decide (i4<0)):: .bool (decide ((n3:Int)<=8))::w 26::w 27::w 28::w 29::w 30::w 31::w 32::w 33::w 34::w 35::w 36::w 37::rest⟩ [.code (sL tT1),.code tT2],cs)) (ans:=[]) (ls:=[]) (by kernel_rfl) trivial s6).1;by_cases h5:i5=1
 ·subst h5;have s8:=(ad6 (p:=twp) 3 (s:=(fr ⟨.slice b0 n0 c0:: .int .i64 i1:: .int .i64 i2:: .slice b3 n3 c3:: .int .i64 i4:: .int .i64 1::w 6::w 7::w 8::w 9::w 10::w 11::w 12::w 13::w 14::w 15::w 16:: .int .i64 n0:: .int .i64 n3::w 19::w 20:: .bool (decide (1=1)):: .bool (decide (i1<0)):: .bool (decide (i2<0)):: .bool (decide (i4<0)):: .bool (decide ((n3:Int)<=8))::w 26::w 27::w 28::w 29::w 30::w 31::w 32::w 33::w 34::w 35::w 36::w 37::rest⟩ [.code (sL tT1),.code tT2],cs)) (s':=(fr ⟨.slice b0 n0 c0:: .int .i64 i1:: .int .i64 i2:: .slice b3 n3 c3:: .int .i64 i4:: .int .i64 1::w 6::w 7::w 8::w 9::w 10::w 11::w 12::w 13::w 14::w 15::w 16:: .int .i64 n0:: .int .i64 n3::w 19::w 20:: .bool (decide (1=1)):: .bool (decide (i1<0)):: .bool (decide (i2<0)):: .bool (decide (i4<0)):: .bool (decide ((n3:Int)<=8))::w 26::w 27::w 28::w 29::w 30::w 31::w 32::w 33::w 34::w 35::w 36::w 37::rest⟩ [.code (sL tT2),.code tT3],cs)) (ans:=[]) (ls:=[]) (by kernel_rfl) trivial s7).1;by_cases h8:(n3:Int)<=8
  ·exact⟨b0,n0,c0,i1,i2,b3,n3,c3,i4,rfl,rfl,rfl,rfl,rfl,rfl,by omega⟩
  ·exfalso;rw[lf h8]at s8;have s9:=(ad6 (p:=twp) 1 (s:=(fr ⟨.slice b0 n0 c0::.int .i64 i1::.int .i64 i2::.slice b3 n3 c3::.int .i64 i4::.int .i64 1::w 6::w 7::w 8::w 9::w 10::w 11::w 12::w 13::w 14::w 15::w 16::.int .i64 n0::.int .i64 n3::w 19::w 20::.bool (decide (1=1))::.bool (decide (i1<0))::.bool (decide (i2<0))::.bool (decide (i4<0))::.bool false::w 26::w 27::w 28::w 29::w 30::w 31::w 32::w 33::w 34::w 35::w 36::w 37::rest⟩ [.code (sL tT2),.code tT3],cs)) (s':=(fr ⟨.slice b0 n0 c0::.int .i64 i1::.int .i64 i2::.slice b3 n3 c3::.int .i64 i4::.int .i64 1::w 6::w 7::w 8::w 9::w 10::w 11::w 12::w 13::w 14::w 15::w 16::.int .i64 n0::.int .i64 n3::w 19::w 20::.bool (decide (1=1))::.bool (decide (i1<0))::.bool (decide (i2<0))::.bool (decide (i4<0))::.bool false::w 26::w 27::w 28::w 29::w 30::w 31::w 32::w 33::w 34::w 35::w 36::w 37::rest⟩ [.code (.refuse "more than eight inks"),.code tT3],cs)) (ans:=[]) (ls:=[]) (by kernel_rfl) trivial s8).1;exact ac9 (p:=twp) (by kernel_rfl) s9
 ·exfalso;rw[lf h5]at s7;have s9:=(ad6 (p:=twp) 1 (s:=(fr ⟨.slice b0 n0 c0::.int .i64 i1::.int .i64 i2::.slice b3 n3 c3::.int .i64 i4::.int .i64 i5::w 6::w 7::w 8::w 9::w 10::w 11::w 12::w 13::w 14::w 15::w 16::.int .i64 n0::.int .i64 n3::w 19::w 20::.bool false::.bool (decide (i1<0))::.bool (decide (i2<0))::.bool (decide (i4<0))::.bool (decide ((n3:Int)<=8))::w 26::w 27::w 28::w 29::w 30::w 31::w 32::w 33::w 34::w 35::w 36::w 37::rest⟩ [.code (sL tT1),.code tT2],cs)) (s':=(fr ⟨.slice b0 n0 c0::.int .i64 i1::.int .i64 i2::.slice b3 n3 c3::.int .i64 i4::.int .i64 i5::w 6::w 7::w 8::w 9::w 10::w 11::w 12::w 13::w 14::w 15::w 16::.int .i64 n0::.int .i64 n3::w 19::w 20::.bool false::.bool (decide (i1<0))::.bool (decide (i2<0))::.bool (decide (i4<0))::.bool (decide ((n3:Int)<=8))::w 26::w 27::w 28::w 29::w 30::w 31::w 32::w 33::w 34::w 35::w 36::w 37::rest⟩ [.code (.refuse "more than one goroutine"),.code tT2],cs)) (ans:=[]) (ls:=[]) (by kernel_rfl) trivial s7).1;exact ac9 (p:=twp) (by kernel_rfl) s9
end Hid
namespace Hid
open Go Go.Proofs Go.RowKit Go.Conc
def SHa:An:= .s (some (125,2))
def c68:Code:=b80 Tryz.prog 62
def cW2:Code:=sR (sR c68)
def lpW:Code:=bB (bB cW2)
namespace Ar
variable (a:Ar)
def KV:Value:= .int .u64 4294967296
def dShW:List Did:=[.sh (a.m+9) (some (125,2)),.sh (a.m+9) (some (125,2))]
def ct3:List (FuncId×List Did):=[(61,[.mk (.extern 71),.mk .disable]),(61,[.mk (.extern 73)]),(77,[.mk (.extern 108),.rd .atomic ⟨a.m+9,0,none⟩ (.int .u64 0),.wr .atomic ⟨a.m+9,0,none⟩ KV]),(61,a.dShW),(61,[.mk (.extern 78),.mk (.read ⟨a.m+9,1,none⟩)]),(61,[.mk (.extern 72),.mk .enable])]
def clo:Value:= .func (.func 62) #[] #[a.pt 9,a.pt 8,a.pt 0,a.pt 1,a.pt 2,a.pt 3,a.pt 4,a.pt 6]
def tup0:Value:= .tuple #[]
def FG:Frame:=fr (a.tmP (a.w 16) (.int .i64 0) (.bool true) tup0 a.clo (a.w 26) (a.w 27) (a.w 28) (a.w 29) (a.w 30) (a.w 31) (a.w 32) (a.w 33) (a.w 34) (a.w 35) (a.w 36) (a.w 37)) [.inRegion (rO (sR (bB (sL (sR (sR lp1)))))) [1],.inBlock 1,.code (sR (sR (sR lp1))),.inLoop lp1,.inBlock 0,.code cA6]
def FP:Frame:=fr (a.tmP (a.w 16) (.int .i64 0) (.bool true) tup0 a.clo (a.w 26) (a.w 27) (a.w 28) (a.w 29) (a.w 30) (a.w 31) (a.w 32) (a.w 33) (a.w 34) (a.w 35) (a.w 36) (a.w 37)) [.inRegion (rO (sR (bB (sL (sR (sR lp1)))))) [],.inBlock 1,.code (sR (sR (sR lp1))),.inLoop lp1,.inBlock 0,.code cA6]
def child:Frame:={(default:Frame)with fn:=Tryz.prog.funcs.size,defers:=[{target:= .fn (.func 62) #[a.pt 9,a.pt 8,a.pt 0,a.pt 1,a.pt 2,a.pt 3,a.pt 4,a.pt 6],args:=#[]}],mode:= .panicking [goexitEntry]}
def gx:Frame:={(default:Frame)with fn:=Tryz.prog.funcs.size,defers:=[],mode:= .panicking [goexitEntry]}
def tmS(k x16 x30 x31 x32 x33 x34:Value):Array Value:=a.tmP x16 (.int .i64 1) (.bool false) tup0 a.clo (.int .i64 1) a.v3 (.int .i64 a.n3) k x30 x31 x32 x33 x34 (a.w 35) (a.w 36) (a.w 37)
def SP(k x16 x30 x31 x32 x33 x34:Value):Frame:=fr (a.tmS k x16 x30 x31 x32 x33 x34) [.code lp2,.inLoop lp2,.inBlock 2,.code cA8]
end Ar
open Ar
theorem co0(a:Ar)(cs:List Frame):runG Tryz.prog true 147 (a.FA,cs) [[.v (.int .u64 0)],[SHa,SHa]]=some ((a.FG,cs),a.ct3):=by kernel_rfl
theorem go_P(a:Ar)(cs:List Frame):a10 Tryz.prog true a.FG cs []=some (.spawn (G a.FP cs) (G a.child []),[]):=by kernel_rfl
theorem cn8(a:Ar)(cs:List Frame):runG Tryz.prog true 23 (a.FP,cs) [[.v a.v3]]=some ((a.SP (.int .i64 0) (a.w 16) (a.w 30) (a.w 31) (a.w 32) (a.w 33) (a.w 34),cs),[(48,[.rd .plain ⟨a.m+3,0,none⟩ a.v3])]):=by kernel_rfl
namespace Ar
variable (a:Ar)
def chV:Value:= .chan (some (a.m+7))
def it2:List Item:=[.inLoop lp2,.inBlock 2,.code cA8]
def SP1(k x16:Value)(b:Bool)(x31 x32 x33 x34:Value):Frame:=fr (a.tmS k x16 (.bool b) x31 x32 x33 x34) (.inRegion (rO (sL lp2)) []:: .code (sR lp2)::it2)
def bk3:Code:=bB (sL (sR (sR lp2)))
def SS(k x34:Value):Frame:=fr (a.tmS k k (.bool true) k a.chV k x34) (.inRegion (rO (sR bk3)) [2]:: .inBlock 3:: .code (sR (sR (sR lp2)))::it2)
def SS'(k x34:Value):Frame:=fr (a.tmS k k (.bool true) k a.chV k x34) (.inRegion (rO (sR bk3)) []:: .inBlock 3:: .code (sR (sR (sR lp2)))::it2)
def rdC:List Did:=[.rd .plain ⟨a.m+8,0,none⟩ a.chV]
def tmC(k x16 x30 x31 x32 x33 x34 x35:Value):Array Value:=a.tmP x16 (.int .i64 1) (.bool false) tup0 a.clo (.int .i64 1) a.v3 (.int .i64 a.n3) k x30 x31 x32 x33 x34 x35 (a.w 36) (a.w 37)
def SC(k x16 x31 x32 x33 x34:Value):Frame:=fr (a.tmC k x16 (.bool false) x31 x32 x33 x34 a.chV) [.inRegion (rO (sL cA8)) [1],.code (sR cA8)]
def SC'(k x16 x31 x32 x33 x34:Value):Frame:=fr (a.tmC k x16 (.bool false) x31 x32 x33 x34 a.chV) [.inRegion (rO (sL cA8)) [],.code (sR cA8)]
end Ar
theorem b43(a:Ar)(cs:List Frame)(k:Int)(x16 x30 x31 x32 x33 x34:Value):runG Tryz.prog true 3 (a.SP (.int .i64 k) x16 x30 x31 x32 x33 x34,cs) []=some ((a.SP1 (.int .i64 k) x16 (decide (k<(a.n3:Int))) x31 x32 x33 x34,cs),[]):=by kernel_rfl
theorem cn4(a:Ar)(cs:List Frame)(k:Int)(x16 x31 x32 x33 x34:Value):runG Tryz.prog true 14 (a.SP1 (.int .i64 k) x16 true x31 x32 x33 x34,cs) [[.v a.chV]]=some ((a.SS (.int .i64 k) x34,cs),[(48,a.rdC)]):=by kernel_rfl
theorem cm8(a:Ar)(cs:List Frame)(k:Int)(x34:Value):a10 Tryz.prog true (a.SS (.int .i64 k) x34) cs []=some (.comm (G (a.SS (.int .i64 k) x34) cs) #[scase (a.m+7) (.int .i64 k) (.tuple #[])] true .send,[]):=by kernel_rfl
theorem cm7(a:Ar)(k:Int)(x34:Value):(a.SS (.int .i64 k) x34).finish undef=a.SS' (.int .i64 k) x34:=by kernel_rfl
theorem cn2(a:Ar)(cs:List Frame)(k:Int)(x34:Value):runG Tryz.prog true 7 (a.SS' (.int .i64 k) x34,cs) []=some ((a.SP (.int .i64 (IntKind.i64.wrap (k+1))) (.int .i64 k) (.bool true) (.int .i64 k) a.chV (.int .i64 k) (.int .i64 (IntKind.i64.wrap (k+1))),cs),[]):=by kernel_rfl
theorem cn1(a:Ar)(cs:List Frame)(k:Int)(x16 x31 x32 x33 x34:Value):runG Tryz.prog true 7 (a.SP1 (.int .i64 k) x16 false x31 x32 x33 x34,cs) [[.v a.chV]]=some ((a.SC (.int .i64 k) x16 x31 x32 x33 x34,cs),[(48,a.rdC)]):=by kernel_rfl
theorem ci4(a:Ar)(cs:List Frame)(k:Int)(x16 x31 x32 x33 x34:Value)(s r:Nat):oneG Tryz.prog true (a.SC (.int .i64 k) x16 x31 x32 x33 x34,cs) [.o (.chan 0 #[] false s r false)]=some ((a.SC' (.int .i64 k) x16 x31 x32 x33 x34,cs),[.gt (a.m+7) (.chan 0 #[] false s r false),.st (a.m+7) (.chan 0 #[] true s r false)]):=by kernel_rfl
end Hid
namespace Hid
open Go Go.Proofs Go.RowKit Go.Conc
def updF(y:Nat->Value)(s:Nat)(v:Value):Nat->Value:=λj=>if j=s then v else y j
def opsW:Array Oper:=rO (sR (bB (sR (sR lpW))))
namespace Ar
variable (a:Ar)
def tmW(x8 x9 x10 x11 x12:Value)(y:Nat->Value):Array Value:=⟨a.pt 9::a.pt 8::a.pt 0::a.pt 1::a.pt 2::a.pt 3::a.pt 4::a.pt 6::x8::x9::x10::x11::x12::y 13::y 14::y 15::y 16::y 17::y 18::y 19::y 20::y 21::y 22::y 23::y 24::[]⟩
def dfr:List Deferred:=[{target:= .fn (.func 63) #[],args:=#[a.pt 9]}]
def wf(tm:Array Value)(k:List Item):Frame:={fn:=62,tmps:=tm,todo:=k,defers:=a.dfr,mode:= .run,kind:= .deferred}
def itW:List Item:=[.inLoop lpW,.inBlock 0]
def WRc(x8 x10 x11 x12:Value)(y:Nat->Value):Frame:=a.wf (a.tmW x8 a.chV x10 x11 x12 y) (.inRegion (rO (sL lpW)) [0,1]:: .code (sR lpW)::itW)
def WR1(x8 r x11 x12:Value)(y:Nat->Value):Frame:=a.wf (a.tmW x8 a.chV r x11 x12 y) (.inRegion (rO (sL lpW)) [1]:: .code (sR lpW)::itW)
def WJ(k:Value)(y:Nat->Value):Frame:=a.wf (a.tmW k a.chV (.tuple #[k,.bool true]) (.bool true) k y) (.code (sR (bB (sR (sR lpW)))):: .inBlock 1::itW)
def WO(k:Value)(y:Nat->Value)(l:List Nat):Frame:=a.wf (a.tmW k a.chV (.tuple #[k,.bool true]) (.bool true) k y) (.inRegion opsW l:: .inBlock 1::itW)
def z0:Value:= .int .i64 0
def WX(x8 x12:Value)(y:Nat->Value):Frame:=a.wf (a.tmW x8 a.chV (.tuple #[z0,.bool false]) (.bool false) x12 y) []
end Ar
open Ar
theorem co2(a:Ar):runG Tryz.prog false 13 (a.child,[]) [[.v a.chV]]=some ((a.WRc undef undef undef undef (λ_=>undef),[gx]),[(62,a.rdC)]):=by kernel_rfl
theorem b47(a:Ar)(x8 x10 x11 x12:Value)(y:Nat->Value):a10 Tryz.prog false (a.WRc x8 x10 x11 x12 y) [gx] []=some (.comm (G (a.WRc x8 x10 x11 x12 y) [gx]) #[rcase (a.m+7) z0] true (.recv true),[]):=by kernel_rfl
theorem cs5(a:Ar)(x8 x10 x11 x12 r:Value)(y:Nat->Value):(a.WRc x8 x10 x11 x12 y).finish r=a.WR1 x8 r x11 x12 y:=by kernel_rfl
theorem cn9(a:Ar)(k:Int)(x8 x11 x12:Value)(y:Nat->Value):runG Tryz.prog false 11 (a.WR1 x8 (.tuple #[.int .i64 k,.bool true]) x11 x12 y,[gx]) []=some ((a.WJ (.int .i64 k) y,[gx]),[]):=by kernel_rfl
theorem cn6(a:Ar)(x8 x11 x12:Value)(y:Nat->Value):runG Tryz.prog false 5 (a.WR1 x8 (.tuple #[z0,.bool false]) x11 x12 y,[gx]) []=some ((a.WX x8 x12 y,[gx]),[]):=by kernel_rfl
theorem b89:sR (bB (sR (sR lpW)))=.region 4 opsW true:=by kernel_rfl
theorem op0_W(a:Ar)(k:Value)(y:Nat->Value)(l:List Nat):oneG Tryz.prog false (a.WO k y (0::l),[gx]) [.v a.V]=some ((a.WO k (updF y 13 a.V) l,[gx]),[.rd .plain ⟨a.m+6,0,none⟩ a.V]):=by kernel_rfl
theorem op1_W(a:Ar)(k:Value)(y:Nat->Value)(l:List Nat):oneG Tryz.prog false (a.WO k y (1::l),[gx]) []=some ((a.WO k (updF y 14 k) l,[gx]),[]):=by kernel_rfl
theorem op2_W(a:Ar)(k:Value)(y:Nat->Value)(l:List Nat):oneG Tryz.prog false (a.WO k y (2::l),[gx]) [.v a.v0]=some ((a.WO k (updF y 15 a.v0) l,[gx]),[.rd .plain ⟨a.m+0,0,none⟩ a.v0]):=by kernel_rfl
theorem op3_W(a:Ar)(k:Value)(y:Nat->Value)(l:List Nat):oneG Tryz.prog false (a.WO k y (3::l),[gx]) [.v (.int .i64 a.i1)]=some ((a.WO k (updF y 16 (.int .i64 a.i1)) l,[gx]),[.rd .plain ⟨a.m+1,0,none⟩ (.int .i64 a.i1)]):=by kernel_rfl
theorem op4_W(a:Ar)(k:Value)(y:Nat->Value)(l:List Nat):oneG Tryz.prog false (a.WO k y (4::l),[gx]) [.v (.int .i64 a.i2)]=some ((a.WO k (updF y 17 (.int .i64 a.i2)) l,[gx]),[.rd .plain ⟨a.m+2,0,none⟩ (.int .i64 a.i2)]):=by kernel_rfl
theorem op5_W(a:Ar)(k:Value)(y:Nat->Value)(l:List Nat):oneG Tryz.prog false (a.WO k y (5::l),[gx]) [.v a.v3]=some ((a.WO k (updF y 18 a.v3) l,[gx]),[.rd .plain ⟨a.m+3,0,none⟩ a.v3]):=by kernel_rfl
theorem op6_W(a:Ar)(k:Value)(y:Nat->Value)(l:List Nat):oneG Tryz.prog false (a.WO k y (6::l),[gx]) []=some ((a.WO k (updF y 19 k) l,[gx]),[]):=by kernel_rfl
theorem op8_W(a:Ar)(k:Value)(ad:Addr)(v:Value)(y:Nat->Value)(l:List Nat):oneG Tryz.prog false (a.WO k (updF y 20 (.pointer (some ad))) (8::l),[gx]) [.v v]=some ((a.WO k (updF (updF y 20 (.pointer (some ad))) 21 v) l,[gx]),[.rd .plain ad v]):=by kernel_rfl
theorem op9_W(a:Ar)(k:Value)(y:Nat->Value)(l:List Nat):oneG Tryz.prog false (a.WO k y (9::l),[gx]) [.v (.int .i64 a.i4)]=some ((a.WO k (updF y 22 (.int .i64 a.i4)) l,[gx]),[.rd .plain ⟨a.m+4,0,none⟩ (.int .i64 a.i4)]):=by kernel_rfl
theorem cp4(a:Ar)(k v:Value)(y:Nat->Value)(l:List Nat):oneG Tryz.prog false (a.WO k (updF (updF (updF (updF (updF y 15 a.v0) 16 (.int .i64 a.i1)) 17 (.int .i64 a.i2)) 21 v) 22 (.int .i64 a.i4)) (10::l),[gx]) []=some ((Frame.enter Tryz.prog 64 #[a.v0,.int .i64 a.i1,.int .i64 a.i2,v,.int .i64 a.i4] .normal,[a.WO k (updF (updF (updF (updF (updF y 15 a.v0) 16 (.int .i64 a.i1)) 17 (.int .i64 a.i2)) 21 v) 22 (.int .i64 a.i4)) (10::l),gx]),[]):=by kernel_rfl
theorem cc7(a:Ar)(k v:Value)(y:Nat->Value)(l:List Nat):(a.WO k y (10::l)).finish v=a.WO k (updF y 23 v) l:=by kernel_rfl
theorem cp3(a:Ar)(k:Value)(y:Nat->Value):runG Tryz.prog false 5 (a.WO k y [],[gx]) []=some ((a.WRc k (.tuple #[k,.bool true]) (.bool true) k y,[gx]),[]):=by kernel_rfl
end Hid
namespace Hid
open Go Go.Proofs Go.RowKit Go.Conc
namespace Ar
variable (a:Ar)
def itT:List Item:=[.inLoop bD8,.inBlock 2,.code ca1]
def TB1(k x26:Value)(b:Bool)(x31 x33 x34 x35:Value):Frame:=fr (a.tmT x26 k (.bool b) x31 x33 x34 x35) (.inRegion cp2 []:: .code (sR bD8)::itT)
def TO(k x26 x31 x33 x34 x35:Value)(l:List Nat):Frame:=fr (a.tmT x26 k (.bool true) x31 x33 x34 x35) (.inRegion bL6 l:: .code (sR (sR (sR bD8)))::itT)
def TR0(k x26 x31 x33 x34 x35:Value):Frame:={fn:=48,tmps:=(a.tmT x26 k (.bool false) x31 x33 x34 x35).setIfInBounds 12 a.V,todo:=[.code .ret],defers:=[],mode:= .returning,kind:= .normal}
end Ar
open Ar
theorem b44(a:Ar)(cs:List Frame)(k:Int)(x26 x30 x31 x33 x34 x35:Value):runR twp true 3 (a.TB k x26 x30 x31 x33 x34 x35,cs) []=some ((a.TB1 (.int .i64 k) x26 (decide (k<(a.n3:Int))) x31 x33 x34 x35,cs),[]):=by kernel_rfl
theorem cn7(a:Ar)(cs:List Frame)(k:Int)(x26 x31 x33 x34 x35:Value):runR twp true 6 (a.TB1 (.int .i64 k) x26 true x31 x33 x34 x35,cs) []=some ((a.TO (.int .i64 k) x26 x31 x33 x34 x35 [0,1,2,3,4],cs),[]):=by kernel_rfl
theorem ld_T(a:Ar)(cs:List Frame)(k x31 x33 x34 x35 v:Value)(ad:Addr):runR twp true 1 (a.TO k (.pointer (some ad)) x31 x33 x34 x35 [1,2,3,4],cs) [[.v v]]=some ((a.TO k (.pointer (some ad)) v x33 x34 x35 [2,3,4],cs),[(48,[.rd .plain ad v])]):=by kernel_rfl
theorem ct6(a:Ar)(cs:List Frame)(k x26 v x33 x34 x35:Value):runR twp true 1 (a.TO k x26 v x33 x34 x35 [2,3,4],cs) []=some ((Frame.enter twp 64 #[a.v0,.int .i64 a.i1,.int .i64 a.i2,v,.int .i64 a.i4] .normal,a.TO k x26 v x33 x34 x35 [2,3,4]::cs),[]):=by kernel_rfl
theorem ch4(args:Array Value):Frame.enter twp 64 args .normal=Frame.enter Tryz.prog 64 args .normal:=by kernel_rfl
theorem ret_T(a:Ar)(k x26 v x33 x34 x35 r:Value):(a.TO k x26 v x33 x34 x35 [2,3,4]).finish r=a.TO k x26 v r x34 x35 [3,4]:=by kernel_rfl
theorem cn5(a:Ar)(cs:List Frame)(k:Int)(x26 x31 x33 x34 x35:Value):runR twp true 6 (a.TO (.int .i64 k) x26 x31 x33 x34 x35 [],cs) []=some ((a.TB (IntKind.i64.wrap (k+1)) x26 (.bool true) x31 x33 (.int .i64 (IntKind.i64.wrap (k+1))) x35,cs),[]):=by kernel_rfl
theorem cn3(a:Ar)(cs:List Frame)(k:Int)(x26 x31 x33 x34 x35:Value):runR twp true 9 (a.TB1 (.int .i64 k) x26 false x31 x33 x34 x35,cs) []=some ((a.TR0 (.int .i64 k) x26 x31 x33 x34 x35,cs),[]):=by kernel_rfl
theorem out_T(a:Ar)(x:Frame)(cs:List Frame)(k x26 x31 x33 x34 x35:Value):oneG twp true (a.TR0 k x26 x31 x33 x34 x35,x::cs) []=some ((x.finish a.V,cs),[]):=by kernel_rfl
theorem lt8'{k n:Nat}(h:k<n)(h8:n<=8):k=0\/k=1\/k=2\/k=3\/k=4\/k=5\/k=6\/k=7:=by omega
theorem op7_W(a:Ar)(ad:Addr)(hb:a.b3=some ad)(k:Nat)(h:k<a.n3)(h8:a.n3<=8)(y:Nat->Value)(l:List Nat):oneG Tryz.prog false (a.WO (.int .i64 k) (updF (updF y 18 a.v3) 19 (.int .i64 k)) (7::l),[gx]) []=some ((a.WO (.int .i64 k) (updF (updF (updF y 18 a.v3) 19 (.int .i64 k)) 20 (.pointer (some (ad.add (k*1))))) l,[gx]),[]):=by
 obtain⟨b0,n0,c0,i1,i2,b3,n3,c3,i4,m,w,rest⟩:=a;simp only at hb h8 h
 subst hb;rcases lt8' h h8 with rfl|rfl|rfl|rfl|rfl|rfl|rfl|rfl<;>rcases lt9 h8 with rfl|rfl|rfl|rfl|rfl|rfl|rfl|rfl|rfl<;>first|(exact absurd h (by decide))|kernel_rfl
theorem b52(a:Ar)(k:Nat)(h:k<a.n3)(h8:a.n3<=8)(y:Nat->Value)(l:List Nat):oneG Tryz.prog false (a.WO (.int .i64 k) (updF (updF y 13 a.V) 14 (.int .i64 k)) (11::l),[gx]) []=some ((a.WO (.int .i64 k) (updF (updF (updF y 13 a.V) 14 (.int .i64 k)) 24 (.pointer (some ((⟨a.m+5,0,none⟩:Addr).add (k*1))))) l,[gx]),[]):=by
 obtain⟨b0,n0,c0,i1,i2,b3,n3,c3,i4,m,w,rest⟩:=a;simp only at h8 h
 rcases lt8' h h8 with rfl|rfl|rfl|rfl|rfl|rfl|rfl|rfl<;>rcases lt9 h8 with rfl|rfl|rfl|rfl|rfl|rfl|rfl|rfl|rfl<;>first|(exact absurd h (by decide))|kernel_rfl
theorem ix_T(a:Ar)(ad:Addr)(hb:a.b3=some ad)(k:Nat)(h:k<a.n3)(h8:a.n3<=8)(cs:List Frame)(x26 x31 x33 x34 x35:Value):runR twp true 1 (a.TO (.int .i64 k) x26 x31 x33 x34 x35 [0,1,2,3,4],cs) []=some ((a.TO (.int .i64 k) (.pointer (some (ad.add (k*1)))) x31 x33 x34 x35 [1,2,3,4],cs),[]):=by
 obtain⟨b0,n0,c0,i1,i2,b3,n3,c3,i4,m,w,rest⟩:=a;simp only at hb h8 h
 subst hb;rcases lt8' h h8 with rfl|rfl|rfl|rfl|rfl|rfl|rfl|rfl<;>rcases lt9 h8 with rfl|rfl|rfl|rfl|rfl|rfl|rfl|rfl|rfl<;>first|(exact absurd h (by decide))|kernel_rfl
theorem iy_T(a:Ar)(k:Nat)(h:k<a.n3)(h8:a.n3<=8)(cs:List Frame)(x26 x31 x33 x34 x35:Value):runR twp true 1 (a.TO (.int .i64 k) x26 x31 x33 x34 x35 [3,4],cs) []=some ((a.TO (.int .i64 k) x26 x31 x33 x34 (.pointer (some ((⟨a.m+5,0,none⟩:Addr).add (k*1)))) [4],cs),[]):=by
 obtain⟨b0,n0,c0,i1,i2,b3,n3,c3,i4,m,w,rest⟩:=a;simp only at h8 h
 rcases lt8' h h8 with rfl|rfl|rfl|rfl|rfl|rfl|rfl|rfl<;>rcases lt9 h8 with rfl|rfl|rfl|rfl|rfl|rfl|rfl|rfl|rfl<;>first|(exact absurd h (by decide))|kernel_rfl
end Hid
namespace Hid
open Go Go.Proofs Go.RowKit Go.Conc
def aft(n:Nat)(s:St)(ans:List (List An)):St:=match runG Tryz.prog true n s ans with
 |some (s',_)=>s'
 |none=>s
namespace Ar
variable (a:Ar) (x:Frame) (xs:List Frame) (k:Int) (g16 g31 g32 g33 g34:Value)
def sV(k:Int):An:= .v (.int .u64 k)
def s0:St:=(a.SC' (.int .i64 k) g16 g31 g32 g33 g34,x::xs)
def sW1:St:=aft 27 (a.s0 x xs k g16 g31 g32 g33 g34) []
def sA:St:=aft 1 (a.sW1 x xs k g16 g31 g32 g33 g34) [[sV 4294967296]]
def sB:St:=aft 1 (a.sW1 x xs k g16 g31 g32 g33 g34) [[sV 0]]
def sW2:St:=aft 48 (a.sA x xs k g16 g31 g32 g33 g34) []
def sC:St:=aft 1 (a.sW2 x xs k g16 g31 g32 g33 g34) [[SHa,.b false,sV 4294967296]]
def sD:St:=aft 1 (a.sW2 x xs k g16 g31 g32 g33 g34) [[SHa,.b false,sV 0]]
def sW3:St:=aft 44 (a.sC x xs k g16 g31 g32 g33 g34) [[SHa,SHa]]
def sE:St:=aft 1 (a.sW3 x xs k g16 g31 g32 g33 g34) [[.v (.int .u32 1)]]
def rdW(v:Int):Did:= .rd .atomic ⟨a.m+9,0,none⟩ (.int .u64 v)
def endL:List (FuncId×List Did):=[(65,[.mk (.extern 72),.mk .enable]),(65,a.dShW),(65,[.mk (.extern 84),.mk (.acquire ⟨a.m+9,0,none⟩)]),(48,[.rd .plain ⟨a.m+6,0,none⟩ a.V])]
end Ar
open Ar
theorem by2(a:Ar)(x:Frame)(xs:List Frame)(k:Int)(g16 g31 g32 g33 g34:Value):
  runG Tryz.prog true 27 (a.s0 x xs k g16 g31 g32 g33 g34) []=some (a.sW1 x xs k g16 g31 g32 g33 g34,[(65,[.mk (.extern 71),.mk .disable])])/\
  oneG Tryz.prog true (a.sW1 x xs k g16 g31 g32 g33 g34) [sV 4294967296]=some (a.sA x xs k g16 g31 g32 g33 g34,[.mk (.extern 109),a.rdW 4294967296])/\
  oneG Tryz.prog true (a.sW1 x xs k g16 g31 g32 g33 g34) [sV 0]=some (a.sB x xs k g16 g31 g32 g33 g34,[.mk (.extern 109),a.rdW 0])/\
  runG Tryz.prog true 48 (a.sA x xs k g16 g31 g32 g33 g34) []=some (a.sW2 x xs k g16 g31 g32 g33 g34,[])/\
  oneG Tryz.prog true (a.sW2 x xs k g16 g31 g32 g33 g34) [SHa,.b false,sV 4294967296]=some (a.sC x xs k g16 g31 g32 g33 g34,[.mk (.extern 111),.sh (a.m+9) (some (125,2)),.fz ⟨a.m+9,0,none⟩ false,a.rdW 4294967296,.wr .atomic ⟨a.m+9,0,none⟩ (.int .u64 4294967297)])/\
  oneG Tryz.prog true (a.sW2 x xs k g16 g31 g32 g33 g34) [SHa,.b false,sV 0]=some (a.sD x xs k g16 g31 g32 g33 g34,[.mk (.extern 111),.sh (a.m+9) (some (125,2)),.fz ⟨a.m+9,0,none⟩ false,a.rdW 0])/\
  runG Tryz.prog true 44 (a.sC x xs k g16 g31 g32 g33 g34) [[SHa,SHa]]=some (a.sW3 x xs k g16 g31 g32 g33 g34,[(65,a.dShW),(65,[.mk (.extern 87),.mk (.write ⟨a.m+9,1,none⟩)])])/\
  oneG Tryz.prog true (a.sW3 x xs k g16 g31 g32 g33 g34) [.v (.int .u32 1)]=some (a.sE x xs k g16 g31 g32 g33 g34,[.mk (.extern 88),.mk .disable,.rd .atomic ⟨a.m+9,1,none⟩ (.int .u32 1),.wr .atomic ⟨a.m+9,1,none⟩ (.int .u32 0),.mk .enable])/\
  a10 Tryz.prog true (a.sW3 x xs k g16 g31 g32 g33 g34).1 (a.sW3 x xs k g16 g31 g32 g33 g34).2 [.v (.int .u32 0)]=some (.still {G (a.sW3 x xs k g16 g31 g32 g33 g34).1 (a.sW3 x xs k g16 g31 g32 g33 g34).2 with status:= .blocked},[.mk (.extern 88),.mk .disable,.rd .atomic ⟨a.m+9,1,none⟩ (.int .u32 0)])/\
  runG Tryz.prog true 65 (a.sB x xs k g16 g31 g32 g33 g34) [[SHa,SHa],[.v a.V]]=some ((x.finish a.V,xs),a.endL)/\
  runG Tryz.prog true 91 (a.sD x xs k g16 g31 g32 g33 g34) [[sV 0],[SHa,SHa],[.v a.V]]=some ((x.finish a.V,xs),(79,[.mk (.extern 109),a.rdW 0])::a.endL)/\
  runG Tryz.prog true 52 (a.sE x xs k g16 g31 g32 g33 g34) [[sV 0],[SHa,SHa],[.v a.V]]=some ((x.finish a.V,xs),(79,[.mk (.extern 109),a.rdW 0])::a.endL):=by
 refine⟨?_,?_,?_,?_,?_,?_,?_,?_,?_,?_,?_,?_⟩<;>kernel_rfl
end Hid
namespace Hid
open Go Go.Proofs Go.RowKit Go.Conc
def isMk:Did->Bool
 |.mk _=>true
 |_=>false
def aP1(P:Program):Nat->Nat->St->Bool
 |0,_,_=>false
 |n+1,d,s=>match a10 P false s.1 s.2 []with
  |some (.go g,l)=>l.all isMk&&((seen P s.1.fn (esOf l).toArray).all Event.mute&&match g.status with
   |.finished=>deafBehind d (seen P s.1.fn (esOf l).toArray)==0
   |_=>match toS g with
    |some s'=>aP1 P n (deafBehind d (seen P s.1.fn (esOf l).toArray)) s'
    |none=>false)
  |_=>false
theorem a42:∀{l:List Did},l.all isMk=true->∀w,Fits l w/\wOf l w=w
 | [],_,w=>⟨trivial,rfl⟩
 |d::l,h,w=>by
  simp only[lao,lr]at h;cases d with
  |mk m=>exact⟨⟨trivial,(a42 h.2 w).1⟩,(a42 h.2 w).2⟩
  |_=>exact absurd h.1 (by simp[isMk])
theorem a27{P:Program}:∀{n d:Nat}{s:St},aP1 P n d s=true->QuitsD P n d (G s.1 s.2)
 |0,_,_,h=>by cases h
 |n+1,d,s,h=>by
  unfold aP1 at h;split at h
  ·rename_i g l hs;simp only[lr]at h;obtain⟨h1,h2,h3⟩:=h;have hst:∀w,stepG P false (G s.1 s.2) w=.go g w (seen P s.1.fn (esOf l).toArray):=λw=>by
    rw[ai0 hs (a42 h1 w).1];simp only[SA.step,(a42 h1 w).2]
   refine .inr ⟨rfl,g,_,λe he=>?_,hst,?_⟩
   ·have:=lal.1 h2
    obtain⟨i,hi,rfl⟩:=ui.1 he;exact this i hi
   ·split at h3
    ·rename_i hf;have hd:deafBehind d (seen P s.1.fn (esOf l).toArray)=0:=by simpa using h3
     cases n with
     |zero=>exact⟨hf,hd⟩
     |succ n=>exact .inl ⟨hf,hd⟩
    ·split at h3
     ·rename_i s' hs';rw[b28 hs'];exact a27 h3
     ·cases h3
  ·cases h
def afw(n:Nat)(s:St)(ans:List (List An)):St:=match runG Tryz.prog false n s ans with
 |some (s',_)=>s'
 |none=>s
namespace Ar
variable (a:Ar) (x8 x12:Value) (y:Nat->Value)
def u0:St:=afw 17 (a.WX x8 x12 y,[gx]) [[SHa,SHa]]
def u1:St:=afw 1 (a.u0 x8 x12 y) []
def u2:St:=afw 3 (a.u1 x8 x12 y) []
def u3:St:=afw 1 (a.u2 x8 x12 y) []
def u4:St:=afw 34 (a.u3 x8 x12 y) []
def ua:St:=afw 1 (a.u4 x8 x12 y) [[sV 4294967296]]
def ub:St:=afw 1 (a.u4 x8 x12 y) [[sV 4294967297]]
def u5:St:=afw 103 (a.ub x8 x12 y) []
def u6:St:=afw 1 (a.u5 x8 x12 y) [[sV 1]]
def u7:St:=afw 20 (a.u6 x8 x12 y) []
def u8:St:=afw 1 (a.u7 x8 x12 y) []
def u9:St:=afw 27 (a.u8 x8 x12 y) []
def uc:St:=afw 1 (a.u9 x8 x12 y) [[.v (.int .u32 0)]]
def wrW(v:Int):Did:= .wr .atomic ⟨a.m+9,0,none⟩ (.int .u64 v)
end Ar
open Ar
theorem bD3(a:Ar)(x8 x12:Value)(y:Nat->Value):
  runG Tryz.prog false 17 (a.WX x8 x12 y,[gx]) [[SHa,SHa]]=some (a.u0 x8 x12 y,[(61,a.dShW)])/\
  oneG Tryz.prog false (a.u0 x8 x12 y) []=some (a.u1 x8 x12 y,[.mk (.extern 70),.mk (.releaseMerge ⟨a.m+9,0,none⟩)])/\
  runG Tryz.prog false 3 (a.u1 x8 x12 y) []=some (a.u2 x8 x12 y,[])/\
  oneG Tryz.prog false (a.u2 x8 x12 y) []=some (a.u3 x8 x12 y,[.mk (.extern 71),.mk .disable])/\
  runG Tryz.prog false 34 (a.u3 x8 x12 y) []=some (a.u4 x8 x12 y,[(61,[.mk (.extern 73)])])/\
  oneG Tryz.prog false (a.u4 x8 x12 y) [sV 4294967296]=some (a.ua x8 x12 y,[.mk (.extern 108),a.rdW 4294967296,a.wrW 0])/\
  oneG Tryz.prog false (a.u4 x8 x12 y) [sV 4294967297]=some (a.ub x8 x12 y,[.mk (.extern 108),a.rdW 4294967297,a.wrW 1])/\
  aP1 Tryz.prog 120 1 (a.ua x8 x12 y)=true/\
  runG Tryz.prog false 103 (a.ub x8 x12 y) []=some (a.u5 x8 x12 y,[])/\
  oneG Tryz.prog false (a.u5 x8 x12 y) [sV 1]=some (a.u6 x8 x12 y,[.mk (.extern 109),a.rdW 1])/\
  runG Tryz.prog false 20 (a.u6 x8 x12 y) []=some (a.u7 x8 x12 y,[])/\
  oneG Tryz.prog false (a.u7 x8 x12 y) []=some (a.u8 x8 x12 y,[.mk (.extern 110),a.wrW 0])/\
  runG Tryz.prog false 27 (a.u8 x8 x12 y) []=some (a.u9 x8 x12 y,[])/\
  oneG Tryz.prog false (a.u9 x8 x12 y) [.v (.int .u32 0)]=some (a.uc x8 x12 y,[.mk (.extern 82),.mk .disable,.rd .atomic ⟨a.m+9,1,none⟩ (.int .u32 0),.wr .atomic ⟨a.m+9,1,none⟩ (.int .u32 1),.mk .enable])/\
  aP1 Tryz.prog 60 1 (a.uc x8 x12 y)=true/\mayWake Tryz.prog (G (a.u9 x8 x12 y).1 (a.u9 x8 x12 y).2)=true:=by
 refine⟨?_,?_,?_,?_,?_,?_,?_,?_,?_,?_,?_,?_,?_,?_,?_,?_⟩<;>kernel_rfl
end Hid
end Go.Proofs.YtnhecfkpiojmhaaGreat
