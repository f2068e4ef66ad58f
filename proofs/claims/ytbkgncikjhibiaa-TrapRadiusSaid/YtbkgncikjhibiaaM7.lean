import Derived.Test.YtbkgncikjhibiaaM6
set_option linter.unusedSimpArgs false
set_option linter.unusedVariables false
set_option linter.unusedSectionVars false
/- Part 7 of the texts that the law's proof leans on. -/
namespace Go.Proofs.Ytbkgncikjhibiaa
namespace Rgl
open Rga
def inR (r:Rn) (y x:Int):Bool:=decide (r.y=y/\r.x0<=x/\x<r.x1)
def mem (L:List Rn) (y x:Int):Bool:=L.any (fun r=>inR r y x)
theorem ah4 (r:Rn) (y x:Int):inR r y x=true<->r.y=y/\r.x0<=x/\x<r.x1:=decide_eq_true_iff
theorem mem_iff (L:List Rn) (y x:Int):mem L y x=true<->∃ r∈L,r.y=y/\r.x0<=x/\x<r.x1:=by
 unfold mem;rw [uD];exact ⟨fun ⟨r,h,e⟩=>⟨r,h,(ah4 _ _ _).1 e⟩,fun ⟨r,h,e⟩=>⟨r,h,(ah4 _ _ _).2 e⟩⟩
theorem mem_cons (r:Rn) (L:List Rn) (y x:Int):mem (r::L) y x=(inR r y x||mem L y x):=rfl
theorem aX6 (L M:List Rn) (y x:Int):mem (L++M) y x=(mem L y x||mem M y x):=by
 unfold mem; rw [List.any_append]
theorem aC2 (r:Rn) (y x:Int):mem [r] y x=inR r y x:=by
 unfold mem; simp
theorem be4:vld []:=⟨fun _ h=>(lx h).elim,List.Pairwise.nil⟩
theorem af1 {r:Rn}{L:List Rn}:vld (r::L)<->okR r/\(∀ s∈L,ltR r s)/\vld L:=by
 unfold vld;rw [uL];constructor
 ·rintro ⟨h1,h2,h3⟩;exact ⟨h1 r (lS ..),h2,fun s hs=>h1 s (lU _ hs),h3⟩
 ·rintro ⟨h1,h2,h3,h4⟩;refine ⟨fun s hs=>?_,h2,h4⟩;rcases xd.1 hs with rfl | hs
  ·exact h1
  ·exact h3 s hs
theorem ay0 {r:Rn}{L:List Rn}:vld (L++[r])<->vld L/\okR r/\∀ s∈L,ltR s r:=by
 unfold vld;rw [List.pairwise_append];constructor
 ·rintro ⟨h1,h2,_,h3⟩;exact ⟨⟨fun s hs=>h1 s (List.mem_append_left _ hs),h2⟩,h1 r (List.mem_append_right _ (xn.2 rfl)),fun s hs=>h3 s hs r (xn.2 rfl)⟩
 ·rintro ⟨⟨h1,h2⟩,h3,h4⟩;refine ⟨fun s hs=>?_,h2,List.pairwise_singleton _ _,fun s hs t ht=>?_⟩
  ·rcases xZ.1 hs with hs | hs
   ·exact h1 s hs
   ·rw [xn.1 hs]; exact h3
  ·rw [xn.1 ht]; exact h4 s hs
theorem beyond {r:Rn}{L:List Rn}(h:vld (r::L)) {y x:Int}(hm:mem L y x=true):r.y<y\/(r.y=y/\r.x1<x):=by
 obtain ⟨s,hs,h1,h2,h3⟩:=(mem_iff _ _ _).1 hm;have:=(af1.1 h).2.1 s hs
 unfold ltR at this;omega
theorem aC8 {r:Rn}{L:List Rn}(h:vld (r::L)) {y x:Int}(hm:mem (r::L) y x=true):r.y<y\/(r.y=y/\r.x0<=x):=by
 rw [mem_cons,xe] at hm;rcases hm with hm | hm
 ·have:=(ah4 _ _ _).1 hm; omega
 ·have:=beyond h hm
  have:=(af1.1 h).1.2
  omega
theorem az7 {r:Rn}{L:List Rn}(h:vld (r::L)):mem (r::L) r.y r.x0=true:=by
 rw [mem_cons,(ah4 _ _ _).2 ⟨rfl,xC _,(af1.1 h).1.2⟩]; rfl
theorem bj8 {r:Rn}{L:List Rn}(h:vld (r::L)) (y x:Int):mem L y x=(mem (r::L) y x&&!inR r y x):=by
 rw [mem_cons];by_cases hr:inR r y x=true
 ·rw [hr];have:mem L y x≠true:=fun hm=>by
   have:=beyond h hm
   have:=(ah4 _ _ _).1 hr
   omega
  simpa using this
 ·rw [lac] at hr;rw [hr]; simp
theorem cd2 {r:Rn}{L:List Rn}(h:vld (r::L)):¬ mem (r::L) r.y r.x1=true:=by
 rw [mem_cons,xe];rintro (hm | hm)
 ·have:=(ah4 _ _ _).1 hm; omega
 ·have:=beyond h hm; omega
theorem uniq:∀ (L M:List Rn),vld L->vld M->(∀ y x,mem L y x=mem M y x)->L=M:=by
 intro L;induction L with
 | nil=>
  intro M _ hM h;cases M with
  | nil=>rfl
  | cons s M=>
   have:=az7 hM
   rw [<-h] at this;cases this
 | cons r L ih=>
  intro M hL hM h;cases M with
  | nil=>
   have:=az7 hL
   rw [h] at this;cases this
  | cons s M=>
   have h1:=aC8 hM (by rw [<-h]; exact az7 hL);have h2:=aC8 hL (by rw [h]; exact az7 hM);have ey:r.y=s.y:=by omega
   have ex:r.x0=s.x0:=by omega
   have o1:=(af1.1 hL).1.2;have o2:=(af1.1 hM).1.2;have e1:r.x1=s.x1:=by
    rcases Int.lt_trichotomy r.x1 s.x1 with hlt | he | hlt
    ·exact absurd (by rw [h,ey,mem_cons,(ah4 _ _ _).2 ⟨rfl,by omega,hlt⟩]; rfl) (cd2 hL)
    ·exact he
    ·exact absurd (by rw [<-h,<-ey,mem_cons,(ah4 _ _ _).2 ⟨rfl,by omega,hlt⟩]; rfl) (cd2 hM)
   have e:r=s:=by cases r; cases s; simp only at ey ex e1; subst ey ex e1; rfl
   subst e;rw [ih M (af1.1 hL).2.2 (af1.1 hM).2.2 (fun y x=>by rw [bj8 hL,bj8 hM,h])]
def key (r:Rn):Int:=r.y*16385+r.x0
theorem bJ7:∀ (L:List Rn) (r:Rn),vld (r::L)->((r::L).length:Int)<=134226112-key r:=by
 intro L;induction L with
 | nil=>
  intro r h;obtain ⟨⟨⟨h1,h2⟩,⟨h3,h4⟩,h5,h6⟩,h7⟩:=(af1.1 h).1;show (1:Int)<=_;unfold key; omega
 | cons s L ih=>
  intro r h;have h0:=ih s (af1.1 h).2.2;have hl:=(af1.1 h).2.1 s (lS ..);obtain ⟨⟨⟨h1,h2⟩,⟨h3,h4⟩,h5,h6⟩,h7⟩:=(af1.1 h).1;obtain ⟨⟨⟨k1,k2⟩,⟨k3,k4⟩,k5,k6⟩,k7⟩:=(af1.1 (af1.1 h).2.2).1;have e:((r::s::L).length:Int)=((s::L).length:Int)+1:=by simp
  rw [e];unfold key ltR at *
  omega
theorem aU2 {L:List Rn}(h:vld L):L.length<=300000000:=by
 cases L with
 | nil=>exact lE _
 | cons r L=>
  have:=bJ7 L r h
  obtain ⟨⟨⟨h1,h2⟩,⟨h3,h4⟩,h5,h6⟩,h7⟩:=(af1.1 h).1;unfold key at this;omega
theorem al7 (L:List Rn):L=[]\/∃ P s,L=P++[s]:=by
 rcases List.eq_nil_or_concat L with h | ⟨P,s,h⟩
 ·exact .inl h
 ·exact .inr ⟨P,s,by rw [h,List.concat_eq_append]⟩
theorem aB2 (P:List Rn) (s r:Rn):addR (P++[s]) r=if r.x0<r.x1 then (if s.y=r.y/\r.x0<=s.x1 then P++[⟨s.y,s.x0,if r.x1>s.x1 then r.x1 else s.x1⟩] else P++[s]++[r]) else P++[s]:=by
 unfold addR;simp
theorem add_nil (r:Rn):addR [] r=if r.x0<r.x1 then [r] else []:=rfl
def aft (L:List Rn) (y x:Int):Prop:=∀ s,L.getLast?=some s->s.y<y\/(s.y=y/\s.x0<=x)
def aftE (L:List Rn) (y x:Int):Prop:=∀ s,L.getLast?=some s->s.y<y\/(s.y=y/\s.x1<=x)
theorem aB0 {P:List Rn}{s:Rn}{y x:Int}:aft (P++[s]) y x<->s.y<y\/(s.y=y/\s.x0<=x):=by
 unfold aft; simp
theorem ap8 {P:List Rn}{s:Rn}{y x:Int}:aftE (P++[s]) y x<->s.y<y\/(s.y=y/\s.x1<=x):=by
 unfold aftE; simp
theorem b65 {y x:Int}:aft [] y x:=fun s h=>by cases h
theorem cg6 {L:List Rn}(hL:vld L) {y x:Int}(h:aftE L y x):aft L y x:=by
 rcases al7 L with rfl | ⟨P,s,rfl⟩
 ·exact b65
 ·rw [ap8] at h;rw [aB0];have:=(ay0.1 hL).2.1.2
  omega
theorem cg7 {L:List Rn}(hL:vld L) {r:Rn}(hr:r.x0<r.x1->okR r) (h:aft L r.y r.x0) :
  vld (addR L r)/\(∀ y x,mem (addR L r) y x=(mem L y x||inR r y x))/\(∀ y x,(r.y<y\/(r.y=y/\r.x0<=x))->aft (addR L r) y x):=by
 by_cases hx:r.x0<r.x1
 ·have hr:=hr hx;rcases al7 L with rfl | ⟨P,s,rfl⟩
  ·rw [add_nil,ln hx];refine ⟨af1.2 ⟨hr,fun _ h=>(lx h).elim,be4⟩,fun y x=>?_,fun y x hy=>?_⟩
   ·rw [aC2]; rfl
   ·exact (aB0 (P:=[])).2 hy
  ·rw [aB2,ln hx];obtain ⟨hP,hs,hPs⟩:=ay0.1 hL;rw [aB0] at h;obtain ⟨⟨⟨h1,h2⟩,⟨h3,h4⟩,h5,h6⟩,h7⟩:=hr;obtain ⟨⟨⟨k1,k2⟩,⟨k3,k4⟩,k5,k6⟩,k7⟩:=hs;by_cases hm:s.y=r.y/\r.x0<=s.x1
   ·rw [ln hm];refine ⟨ay0.2 ⟨hP,⟨⟨⟨k1,k2⟩,⟨k3,k4⟩,?_⟩,?_⟩,fun p hp=>hPs p hp⟩,fun y x=>?_,fun y x hy=>?_⟩
    ·show -8192<=(if r.x1>s.x1 then r.x1 else s.x1)/\(if r.x1>s.x1 then r.x1 else s.x1)<=8192;split<;>omega
    ·show s.x0<(if r.x1>s.x1 then r.x1 else s.x1);split<;>omega
    ·rw [aX6,aX6,aC2,aC2,Bool.or_assoc];congr 1;rw [Bool.eq_iff_iff,xe,ah4,ah4,ah4];show s.y=y/\s.x0<=x/\x<(if r.x1>s.x1 then r.x1 else s.x1)<->_;split<;>omega
    ·rw [aB0];show s.y<y\/(s.y=y/\s.x0<=x);omega
   ·rw [lr hm];refine ⟨ay0.2 ⟨hL,⟨⟨⟨h1,h2⟩,⟨h3,h4⟩,h5,h6⟩,h7⟩,fun p hp=>?_⟩,fun y x=>?_,fun y x hy=>aB0.2 hy⟩
    ·have hsr:ltR s r:=by unfold ltR; omega
     rcases xZ.1 hp with hp | hp
     ·have:=hPs p hp
      unfold ltR at *
      omega
     ·rw [xn.1 hp]; exact hsr
    ·rw [aX6 _ [r],aC2]
 ·have e:addR L r=L:=lr hx;rw [e];refine ⟨hL,fun y x=>?_,fun y x hy s hs=>?_⟩
  ·have:inR r y x=false:=by
    rw [<-lac,ah4]; omega
   rw [this,xb]
  ·have:=h s hs
   omega
theorem b67 {L:List Rn}{r:Rn}(h:aftE L r.y r.x0) (hx:r.x0<=r.x1):aftE (addR L r) r.y r.x1:=by
 by_cases hx':r.x0<r.x1
 ·rcases al7 L with rfl | ⟨P,s,rfl⟩
  ·rw [add_nil,ln hx'];exact (ap8 (P:=[])).2 (.inr ⟨rfl,xC _⟩)
  ·rw [aB2,ln hx'];rw [ap8] at h;split
   ·next hm=>
    rw [ap8];show s.y<r.y\/(s.y=r.y/\(if r.x1>s.x1 then r.x1 else s.x1)<=r.x1);split<;>omega
   ·exact ap8.2 (.inr ⟨rfl,xC _⟩)
 ·rw [show addR L r=L from lr hx'];intro s hs;have:=h s hs
  omega
end Rgl
namespace Rgm
open Rga Rgl
def eY (f:Nat->Rn) (k:Nat):Int:=(f (k / 2)).y
abbrev le2 (y x y' x':Int):Prop:=y<y'\/(y=y'/\x<=x')
abbrev lt2 (y x y' x':Int):Prop:=y<y'\/(y=y'/\x<x')
theorem lt_of {g:Rg}(h:vld g.L) {i j:Nat}(hij:i<j) (hj:j<g.n):ltR (g.f i) (g.f j):=by
 have:=xU.1 h.2 i j (by rw [Rg.len]; omega) (by rw [Rg.len]; exact hj) hij
 simpa [Rg.L] using this
structure CbG where
 a:Rg
 b:Rg
structure CsG where
 i:Nat
 j:Nat
 from':Eg
 L:List Rn
structure CbP (g:CbG) (K:Bool->Bool->Bool) (s:CsG):Prop where
 hi:s.i<=2*g.a.n
 hj:s.j<=2*g.b.n
 c1:0<s.i->le2 (eY g.a.f (s.i-1)) (eX g.a.f (s.i-1)) s.from'.y s.from'.x
 c2:0<s.j->le2 (eY g.b.f (s.j-1)) (eX g.b.f (s.j-1)) s.from'.y s.from'.x
 u1:0<s.i+s.j->s.i<2*g.a.n->le2 s.from'.y s.from'.x (eY g.a.f s.i) (eX g.a.f s.i)
 u2:0<s.i+s.j->s.j<2*g.b.n->le2 s.from'.y s.from'.x (eY g.b.f s.j) (eX g.b.f s.j)
 fok:(-8192<=s.from'.y/\s.from'.y<8192)/\ -8192<=s.from'.x/\s.from'.x<=8192
 hL:vld s.L
 hE:0<s.i+s.j->aftE s.L s.from'.y s.from'.x
 h0:s.i+s.j=0->s.L=[]
 hm:0<s.i+s.j->∀ y x,mem s.L y x=(decide (lt2 y x s.from'.y s.from'.x)&&K (mem g.a.L y x) (mem g.b.L y x))
end Rgm
namespace Rgn
open Rga Rgl Rgm
def sumR (f:Int->Int) (lo:Int):Nat->Int
 | 0=>0
 | n+1=>sumR f lo n+f (lo+n)
def b2i (b:Bool):Int:=if b then 1 else 0
def cnt (χ:Int->Int->Bool):Int:=sumR (fun y=>sumR (fun x=>b2i (χ y x)) (-8192) 16384) (-8192) 16384
def Lf (f:Nat->Rn) (n:Nat):List Rn:=(List.range n).map f
theorem a11 (f:Nat->Rn) (n:Nat):Lf f (n+1)=Lf f n++[f n]:=by
 unfold Lf;rw [List.range_succ,List.map_append];rfl
theorem av7 (f:Nat->Rn) (n:Nat):(Lf f n).length=n:=by simp [Lf]
theorem be0 (f:Nat->Rn) {n i:Nat}(h:i<n):rI (Lf f n) i=f i:=Rg.rI (g:=⟨n,f⟩) h
theorem bp0 {f g:Nat->Rn}{n:Nat}(h:∀ i,i<n->f i=g i):Lf f n=Lf g n:=uF (fun i hi=>h i (lP.1 hi))
theorem Lf_rI (L:List Rn):Lf (rI L) L.length=L:=Rg.L_of L
theorem b66 {L:List Rn}{r:Rn}(hr:r.x0<r.x1) (h:∀ s,L.getLast?=some s->ltR s r):addR L r=L++[r]:=by
 rcases al7 L with rfl | ⟨P,s,rfl⟩
 ·rw [add_nil,ln hr]; rfl
 ·have hs:=h s (by simp);unfold ltR at hs;rw [aB2,ln hr,lr (by omega)]
theorem b70 {f:Nat->Rn}{n:Nat}{s:Rn}(h:(Lf f n).getLast?=some s):0<n/\s=f (n-1):=by
 cases n with
 | zero=>cases h
 | succ n=>
  rw [a11] at h;simp at h;exact ⟨xI n,h.symm⟩
theorem bQ0 {f:Nat->Rn}{n:Nat}(hr:(f n).x0<(f n).x1) (h:0<n->ltR (f (n-1)) (f n)):addR (Lf f n) (f n)=Lf f (n+1):=by
 rw [a11];refine b66 hr (fun s hs=>?_);obtain ⟨h0,rfl⟩:=b70 hs;exact h h0
def shR (dx dy:Int) (r:Rn):Rn:=⟨r.y+dy,r.x0+dx,r.x1+dx⟩
structure JoP (f:Nat->Rn) (n i:Nat) (L:List Rn):Prop where
 hi:i<=n
 hL:vld L
 hm:∀ y x,mem L y x=mem (Lf f i) y x
 ha:∀ k,i<=k->k<n->aft L (f k).y (f k).x0
end Rgn
namespace Rge
open Go.Shelf Go.RowKit Go.Lib Go.Sort Num Rga
theorem a01 {X:World}{vs:Array Value}{T n i:Nat}{v:Value}(hn:X.heap.size=n) (hv:vs[i]?=some v):(X.alloc (.cells vs T)).cell? ⟨n,i,none⟩=some v:=by
 subst hn;simp [hv]
end Rge
namespace Rgb
open Go.RowKit Sx Num Aff Con Rga Rgl Rgm
set_option maxRecDepth 100000
theorem addL (L:List Rn) (r:Rn):AdG.L ⟨L.length,rI L,r⟩=addR L r:=by
 show addR (Rg.L ⟨L.length,rI L⟩) r=addR L r;rw [Rg.L_of]
end Rgb
namespace Rgc
open Go.RowKit Sx Num Aff Con Rga Rgl Rgm Rgn Rgb
set_option maxRecDepth 100000
def okP (s:SV):SV:= .tup 2 (lst [s,.int .i64 0])
theorem bnd {L:List Rn}(h:vld L):L.length<=4294967296:=xc (aU2 h) (by decide)
theorem bndg {g:Rg}(h:vld g.L):g.n<=4294967296:=Rg.len g▸bnd h
abbrev eqR:List (TypeId×List CK):=[(43,[.int,.int,.int])]
theorem cf7:bJ6 Tw.prog eqR:=⟨bG2 (m:=3) (by kernel_rfl) (by kernel_rfl) rfl (by decide) (by kernel_rfl),trivial⟩
structure EqG where
 a:Rg
 b:Rg
def EqG.ok (g:EqG):Prop:=vld g.a.L/\g.a.L=g.b.L
def bu6 (g:EqG):Inv:=⟨Nat,fun i=>i<=g.a.n,fun i=>⟨[(0,rgS g.a),(1,rgS g.b),(12,.int .i64 g.a.n),(13,.int .i64 i)],[]⟩,fun i=>g.a.n-i⟩
def b92:FSpec:=ac8 12 (γ:=EqG) (fun | [s,t]=>some ⟨⟨aG6 s,rgD s⟩,⟨aG6 t,rgD t⟩⟩ | _=>none) (fun g=>[rgS g.a,rgS g.b]) EqG.ok (fun _=> .lit true)
theorem cc7:aa9 Tw.prog b92:=by
 refine ab0 (specs:=[]) (ac7 trivial) (eqs:=eqR) (all_eq cf7) Aff.mixed Tw.func12 rfl (by kernel_rfl) (fun _ _=>by kernel_rfl) (fun g=>(⟨[(4,.inv (bu6 g))],[]⟩:Ann)) (fun g=>li (by kernel_rfl)) ?_;rintro g hg;refine af7 (B:=let A:=Sx.Ask;let z5:=(True/\True/\A (false=true));let z4:=(↑g.a.n:Int);let z0:=(IntKind.i64=IntKind.i64);let q0:=fun p:Int=>A z0/\A (p=p);let z2:=(A (g.b.n=g.b.n)/\∀ i:Nat,i<g.b.n->((True/\q0 ((g.b.f i).y))/\q0 ((g.b.f i).x0))/\q0 ((g.b.f i).x1));let z1:=(A (g.a.n=g.a.n)/\∀ i:Nat,i<g.a.n->((True/\q0 ((g.a.f i).y))/\q0 ((g.a.f i).x0))/\q0 ((g.a.f i).x1));True/\True/\True/\True/\True/\True/\Br (decide (z4≠(↑g.b.n:Int))) z5 (True/\True/\True/\(∃ g_1:Nat,A ((bu6 g).pre g_1)/\(z1/\z2/\(q0 z4)/\(A z0/\A ((0:Int)=(↑g_1:Int)))/\True)/\True)/\∀ g_1:Nat,let z3:=(↑g_1:Int); (bu6 g).pre g_1->True/\Br (decide (z3<z4)) (True/\True/\True/\True/\A ((0:Int)<=z3/\z3<z4)/\True/\True/\True/\A ((0:Int)<=z3/\z3<(↑g.b.n:Int))/\True/\True/\Br (!(decide ((g.a.f z3.toNat).y=(g.b.f z3.toNat).y)&&(decide ((g.a.f z3.toNat).x0=(g.b.f z3.toNat).x0)&&(decide ((g.a.f z3.toNat).x1=(g.b.f z3.toNat).x1)&&true)))) z5 (A ((-9223372036854775808:Int)<=z3+(1:Int)/\z3+(1:Int)<=(9223372036854775807:Int))/\True/\∃ (g':Nat),A ((bu6 g).pre g')/\((z1/\z2/\(q0 z4)/\(A z0/\A (z3+(1:Int)=(↑g':Int)))/\True)/\True)/\A ((bu6 g).meas g'<(bu6 g).meas g_1))) (True/\True/\A (true=true)))) (by kernel_rfl) ?_;simp only [cln];obtain ⟨va,he⟩:=hg;have hn:g.a.n=g.b.n:=by rw [<-Rg.len g.a,<-Rg.len g.b,he]
 have hf:∀ i,i<g.a.n->g.a.f i=g.b.f i:=fun i hi=>by rw [<-Rg.rI hi,he,Rg.rI (g:=g.b) (i:=i) (by omega)]
 have hb:=bndg va;refine ⟨fun h=>absurd (congrArg Int.ofNat hn) h,fun _=>⟨⟨0,lE _,rfl⟩,fun i hi hlt=>?_⟩⟩;have hi:i<=g.a.n:=hi;have z:((i:Int)).toNat=i:=rfl;rw [z,hf i (by omega),lk rfl,lk rfl,lk rfl];refine ⟨by omega,by omega,fun h=>absurd h (by decide),fun _=>⟨by omega,i+1,(by omega:i+1<=g.a.n),rfl,?_⟩⟩;show g.a.n-(i+1)<g.a.n-i;omega
end Rgc
namespace Rgd
open Go.RowKit Sx Num Aff Con Rga Rgl Rgm Rgn Rgb Rgc
set_option maxRecDepth 100000
structure ShG where
 g:Rg
 dx:Int
 dy:Int
def ShG.f (h:ShG):Nat->Rn:=fun i=>shR h.dx h.dy (h.g.f i)
structure ShG.ok (h:ShG):Prop where
 v:vld h.g.L
 x : -16384<=h.dx/\h.dx<=16384
 y : -16384<=h.dy/\h.dy<=16384
 r:∀ i,i<h.g.n->okR (h.f i)
def ShG.L (h:ShG):List Rn:=Lf h.f h.g.n
structure ReG where
 x0:Int
 y0:Int
 x1:Int
 y1:Int
def ReG.f (h:ReG):Nat->Rn:=fun k=>⟨h.y0+k,h.x0,h.x1⟩
def ReG.n (h:ReG):Nat:=(h.y1-h.y0).toNat
structure ReG.ok (h:ReG):Prop where
 x0 : -8192<=h.x0/\h.x0<=8192
 y0 : -8192<=h.y0/\h.y0<=8192
 x1 : -8192<=h.x1/\h.x1<=8192
 y1 : -8192<=h.y1/\h.y1<=8192
 x:h.x0<h.x1
 y:h.y0<=h.y1
def br8 (h:ReG):Inv:=⟨Nat,fun i=>h.y0+i<=h.y1,fun i=>⟨[(0,.int .i64 h.x0),(2,.int .i64 h.x1),(3,.int .i64 h.y1),(10,.own 0 0),(11,.int .i64 (h.y0+i))],
  [.cells 1 (lst [.osl 1 0]) 55,.row 0 i 3 (fun k=>lst (rnL (h.f k))) 43]⟩,fun i=>h.n-i⟩
def bR5:FSpec:=ac8 5 (γ:=ReG) (fun | [.int _ x0,.int _ y0,.int _ x1,.int _ y1]=>some ⟨x0,y0,x1,y1⟩ | _=>none) (fun h=>[.int .i64 h.x0,.int .i64 h.y0,.int .i64 h.x1,.int .i64 h.y1]) ReG.ok (fun h=>okP (runsS (Lf h.f h.n)))
theorem b17:aa9 Tw.prog bR5:=by
 refine ab0 (specs:=[aW5,bS0]) (ac7 (⟨a86,b22,trivial⟩)) (eqs:=[]) (fun _ _ h=>(lx h).elim) Aff.mixed Tw.func5 rfl (by kernel_rfl) (fun _ _=>by kernel_rfl) (fun g=>(⟨[(7,.inv (br8 g))],[(6,[.ownC 0 0 43 3])]⟩:Ann)) (fun g=>li (by kernel_rfl)) ?_;rintro g hg;refine af7 (B:=let T3:=fun p:Prop=>True/\True/\True/\p;let T4:=fun p:Prop=>True/\True/\True/\True/\p;let K:=Br;let A:=Sx.Ask;let z9:=((0:Nat)=(0:Nat));let z7:=((3:Int)=(0:Int));let z5:=(Lf g.f g.n);let z2:=(True/\A (z5.length=(0:Nat)));let z0:=(IntKind.i64=IntKind.i64);let q0:=fun p:Int=>A z0/\A (p=p);let z6:=(q0 g.y1);let z4:=(q0 g.x1);let z3:=(q0 g.x0);T3 (((z3/\True)/\A True)/\True/\True/\K (!(decide ((-8192:Int)<=g.x0)&&decide (g.x0<=(8192:Int)))) (T4 (T4 (z2/\A z0/\A z7))) (True/\(((q0 g.y0)/\True)/\A True)/\T3 (K (!(decide ((-8192:Int)<=g.y0)&&decide (g.y0<=(8192:Int)))) (T4 (True/\True/\z2/\A z0/\A z7)) (True/\((z4/\True)/\A True)/\T3 (K (!(decide ((-8192:Int)<=g.x1)&&decide (g.x1<=(8192:Int)))) (T4 (z2/\A z0/\A z7)) (True/\((z6/\True)/\A True)/\True/\True/\K (!(decide ((-8192:Int)<=g.y1)&&decide (g.y1<=(8192:Int)))) (T3 (z2/\A z0/\A z7)) (T4 (K (decide (g.x1<g.x0)) (T4 (z2/\A z0/\A ((18:Int)=(0:Int)))) (T4 (K (decide (g.y1<g.y0)) (T3 (z2/\A z0/\A ((18:Int)=(0:Int)))) (T3 ((∃ g_1:Nat,A ((br8 g).pre g_1)/\(z3/\z4/\z6/\A z9/\(A z0/\A (g.y0=g.y0+(↑g_1:Int)))/\True)/\(True/\True)/\(A ((0:Nat)=g_1)/\∀ i:Nat,i<g_1->((True/\False)/\False)/\False)/\True)/\∀ g_1:Nat,let z8:=(↑g_1:Int);let z1:=(AdG.mk g_1 (fun (i:Nat)=>Rn.mk (g.y0+(↑i:Int)) g.x0 g.x1) (Rn.mk (g.y0+z8) g.x0 g.x1)); (br8 g).pre g_1->T3 (K (decide (g.y0+z8<g.y1)) (T3 (((True/\(A z9/\(q0 (g.y0+z8))/\z3/\z4/\True)/\(True/\True)/\(A (g_1=g_1)/\∀ i:Nat,i<g_1->((True/\q0 (g.y0+(↑i:Int)))/\q0 g.x0)/\q0 g.x1)/\True)/\A (g_1<=(4294967296:Nat)))/\True/\A ((-9223372036854775808:Int)<=g.y0+z8+(1:Int)/\g.y0+z8+(1:Int)<=(9223372036854775807:Int))/\True/\∃ (g':Nat),A ((br8 g).pre g')/\((z3/\z4/\z6/\A z9/\(A z0/\A (g.y0+z8+(1:Int)=g.y0+(↑g':Int)))/\True)/\(True/\True)/\(A (z1.L.length=g')/\∀ i:Nat,i<g'->((True/\A z0/\A ((Rga.rI z1.L i).y=g.y0+(↑i:Int)))/\A z0/\A ((Rga.rI z1.L i).x0=g.x0))/\A z0/\A ((Rga.rI z1.L i).x1=g.x1))/\True)/\A ((br8 g).meas g'<(br8 g).meas g_1))) (T4 (True/\(True/\A (g_1=z5.length)/\∀ i:Nat,i<z5.length->((True/\A z0/\A (g.y0+(↑i:Int)=(Rga.rI z5 i).y))/\A z0/\A (g.x0=(Rga.rI z5 i).x0))/\A z0/\A (g.x1=(Rga.rI z5 i).x1))/\q0 ((0:Int)))))))))))))))))) (by kernel_rfl) ?_;simp only [cln];obtain ⟨⟨a1,a2⟩,⟨b1,b2⟩,⟨c1,c2⟩,⟨d1,d2⟩,hx,hy⟩:=hg;rw [lk a1,lk a2,lk b1,lk b2,lk c1,lk c2,lk d1,lk d2];refine ⟨fun h=>absurd h (by decide),fun _=>⟨fun h=>absurd h (by decide),fun _=>⟨fun h=>absurd h (by decide),fun _=>⟨fun h=>absurd h (by decide),fun _=>⟨fun h=>by omega,fun _=>⟨fun h=>by omega,fun _=>⟨⟨0,by show g.y0+0<=g.y1; omega,by omega,rfl,fun k hk=>absurd hk (lw _)⟩,fun i hi=>⟨fun hlt=>?_,fun hge=>?_⟩⟩⟩⟩⟩⟩⟩⟩
 ·have hi:g.y0+i<=g.y1:=hi;have e:AdG.L ⟨i,fun i=>⟨g.y0+i,g.x0,g.x1⟩,⟨g.y0+i,g.x0,g.x1⟩⟩=Lf g.f (i+1):=by
   refine bQ0 (f:=g.f) (n:=i) hx (fun h0=> .inl ?_);show g.y0+((i-1:Nat):Int)<g.y0+i;omega
  refine ⟨by omega,by omega,i+1,?_,⟨by omega,?_,fun k hk=>?_⟩,?_⟩
  ·show g.y0+((i+1:Nat):Int)<=g.y1;omega
  ·rw [e,av7]
  ·rw [e,be0 g.f hk];exact ⟨⟨rfl,rfl⟩,rfl⟩
  ·show (g.y1-g.y0).toNat-(i+1)<(g.y1-g.y0).toNat-i;omega
 ·have hi:g.y0+i<=g.y1:=hi;have e:i=g.n:=by unfold ReG.n; omega
  subst e;rw [av7];refine ⟨rfl,fun k hk=>?_⟩;rw [be0 g.f hk];exact ⟨⟨rfl,rfl⟩,rfl⟩
abbrev lA:List Rn:=[⟨0,0,2⟩,⟨1,0,2⟩]
theorem eA:Lf (ReG.f ⟨0,0,2,2⟩) (ReG.n ⟨0,0,2,2⟩)=lA:=rfl
end Rgd
section
open Go Go.Proofs Go.Shelf
def Tw.b01:Go.Shelf.Ren:=⟨fun | 6=>64 | 15=>74 | 14=>76 | 28=>105 | 29=>106 | 20=>107 | 21=>108 | 22=>109 | 23=>110 | 24=>111 | 25=>112 | 26=>113 | 27=>114 | 46=>125 | 47=>121 | 48=>122 | 49=>126 | 50=>127 | 57=>129 | n=>n,fun | 22=>25 | 24=>43 | 25=>96 | 3=>3 | 39=>130 | 0=>0 | 53=>125 | 55=>122 | 4=>4 | 46=>158 | 45=>157 | 50=>93 | 5=>5 | 9=>9 | 66=>176 | 70=>179 | 76=>183 | 77=>184 | n=>n,fun | n=>n⟩
end
namespace Rgf
open Go.Shelf Go.RowKit Go.Lib Go.Sort Sx Num Rga Rgl Rgm Rgn Rge
theorem bq8 {P:Program}{f:FuncId}(hent:∀ args w,(callFunc f args).run P w = .ok (.enter f args) w)
  {paths:List NP}{γ:Type}{dec:List SV->List SO->Option γ}{args:γ->List SV}{objs:γ->List SO}{pre:γ->Prop}{res:γ->SV}{post:γ->List SO}
  (h:∀ g,pre g->∀ (vals:Array Value) (w:World) (X:Fr) (E:Env),(∀ k,X.nm k≠none->k<paths.length)->Rep w X (objs g) E w->vals.size=(args g).length->
   (∀ i,i<(args g).length->R w (Xo X E (objs g)) E ((args g).getD i .any) (vals.getD i undef))->
   Calls P f vals w fun e w'=>∃ v Es,e = .returned v/\Rep w X (post g) Es w'/\R w' (Xo X Es (post g)) Es (res g) v):aa9 P (af4 f paths dec args objs pre res post):=by
 refine ⟨hent,fun l H HF nm y he hns hrun=>?_,fun l H nm y hrun hask w0 X0 E w hrep hfree vals ha=>?_⟩
 ·simp only [af4] at hrun ⊢;split at hrun
  case h_2=>cases hrun
  rename_i ks hks;split at hrun
  case h_2=>cases hrun
  rename_i hnd;simp only [lu] at hnd;rw [aw6 he paths [] ks hks];simp only [aS2 he hnd.2,hnd.1,hnd.2,Bool.and_self];exact hrun
 ·simp only [af4] at hrun;split at hrun
  case h_2=>cases hrun
  rename_i ks hks;split at hrun
  case h_2=>cases hrun
  rename_i hnd;simp only [lu] at hnd;obtain ⟨hn,hal⟩:=hnd;split at hrun
  case h_2=>cases hrun
  rename_i g hdec;cases hrun;obtain ⟨⟨hle,⟨hpre⟩⟩,hholes⟩:=ax9 hask;obtain ⟨hkn,hkl⟩:=aq4 hrep ha paths [] ks (fun k hk=>by cases hk) (aL9 hholes) hks;have hkl':ks.length=paths.length:=by simpa using hkl
  unfold b62 at hle;split at hle
  case h_2=>exact hle.elim
  rename_i hll;have hll':=lJ hll;rw [lW] at hll';obtain ⟨hs,hxs⟩:=hrep.sml hn hal;have hv:=hrep.aU3 hal;have hnm:∀ k,(smlF X0 H E ks).nm k≠none->k<paths.length:=fun k hk=>by
   cases he:smlE E ks k with
   | none=>exact absurd he hk
   | some e=>
    obtain ⟨k',hk',_⟩:=am9 he;have:=(lR.1 hk').1
    omega
  have hT:=al8 (args g).length vals (l.map (sml (aa4 H ks) ks)) w (Xo (smlF X0 H E ks) (smlE E ks) ((aa4 H ks).map (smlO (aa4 H ks) ks))) (smlE E ks) (by rw [ha.1,lW]) (by rw [lW,hll']; exact lf _) (fun i hi=>by
   rw [lW] at hi;have e1:(l.map (sml (aa4 H ks) ks)).getD i .any=sml (aa4 H ks) ks (l.getD i .any):=by
    rw [la,lT,la,lD hi]; rfl
   rw [e1];exact bd8 hxs hv (ha.2 i hi))
  have hvs:vals.size=(args g).length:=by rw [ha.1,hll']
  have hst:StR w (smlF X0 H E ks) (args g).length ⟨ar0 0 (l.map (sml (aa4 H ks) ks)),(aa4 H ks).map (smlO (aa4 H ks) ks)⟩ ⟨vals++Array.replicate ((args g).length-vals.size) undef,[]⟩ w:=⟨smlE E ks,hs,hT.1,ax6.nil _ _ _,hT.2⟩
  have hst2:=hst.le (m:=((aa4 H ks).map (smlO (aa4 H ks) ks)).length) (fun k hk=>by rw [lW,aa4,lW,hkl']; exact hnm k hk) hle.get.1 hle.get.2;obtain ⟨E2,hrep2,hsz2,_,hT2⟩:=hst2;refine (h g hpre vals w (smlF X0 H E ks) E2 hnm hrep2 hvs (fun i hi=>?_)).mono ?_
  ·have:=hT2 i hi
   rw [aC4 _ _ _ (lE _),Nat.sub_zero] at this;rw [hvs,ur] at this;simpa using this
  ·rintro e w' ⟨v,Es,rfl,h3,h4⟩;exact ⟨v,rfl,Goes.bT6 hrep hn hkn hal h3 h4⟩
instance:Inhabited Rn:=⟨⟨0,0,0⟩⟩
def cl (v:Int):Int:=if v < -8192 then -8192 else if 8192<v then 8192 else v
theorem bd0 {v:Int}(h1 : -8192<=v) (h2:v<=8192):cl v=v:=by
 unfold cl;rw [lr (by omega),lr (by omega)]
theorem cl_b (v:Int) : -8192<=cl v/\cl v<=8192:=by
 unfold cl;split
 ·omega
 ·split<;>omega
def enR (r:Rn):List Value:=[.int .i64 (cl r.y),.int .i64 (cl r.x0),.int .i64 (cl r.x1)]
def cfR (x y:Rn):Int:=orI (cl x.y-cl y.y) (cl x.x0-cl y.x0)
theorem lt_iff (x y:Rn):ltOf cfR x y=true<->(cl x.y<cl y.y\/(cl x.y=cl y.y/\cl x.x0<cl y.x0)):=by
 unfold ltOf cfR orI;rw [decide_eq_true_iff];split<;>omega
theorem aC3 (x y:Rn):ltOf cfR x y=false<->¬ (cl x.y<cl y.y\/(cl x.y=cl y.y/\cl x.x0<cl y.x0)):=by
 rw [<-lt_iff,lac]
theorem swo:SWO (ltOf cfR) where
 irrefl x:=by rw [aC3]; omega
 trans x y z h1 h2:=by rw [lt_iff] at *; omega
 ntrans x y z h1 h2:=by rw [aC3] at *; omega
def srtA (d:Array Rn):Array Rn:=pdq (ltOf cfR) d 0 d.size (Lib.bitLen d.size) true true
def srt (g:Rg):List Rn:=(srtA g.L.toArray).toList
theorem am1 (d:Array Rn):PermIn 0 d.size d (srtA d)/\SortedIn (ltOf cfR) 0 d.size (srtA d):=
 pdq_sorts (ltOf cfR) swo d 0 d.size (Lib.bitLen d.size) true true (lE _) (lf _) (Or.inl rfl)
theorem aW3 (g:Rg):(srt g).length=g.n:=by
 have:=(am1 g.L.toArray).1.1
 unfold srt;rw [lF,this,xA,Rg.len]
def soD:List SV->List SO->Option Rg
 | [_,.fn _ _ _],[.row _ n _ g _]=>some ⟨n,fun i=>rnD (g i)⟩
 | _,_=>none
def rowS (ver:Nat) (n:Nat) (f:Nat->Rn):SO:= .row ver n 3 (fun i=>lst (rnL (f i))) 43
def bz9:FSpec:=af4 64 [.arg 0] soD (fun _=>[.osl 0 0,.fn 65 0 (lst [])]) (fun g=>[rowS 0 g.n g.f]) (fun g=>(∀ i,i<g.n->okR (g.f i))/\g.n<=4294967296) (fun _=> .tup 0 (lst [])) (fun g=>[rowS 0 g.n (rI (srt g))])
end Rgf
section
open Go Go.Proofs Go.Shelf
def Tw.bf7:Go.Shelf.Ren:=⟨fun | 6=>57 | 15=>74 | 14=>73 | 28=>105 | 29=>106 | 20=>97 | 21=>98 | 22=>99 | 23=>100 | 24=>101 | 25=>102 | 26=>103 | 27=>104 | 46=>120 | 47=>121 | 48=>122 | 49=>123 | 50=>124 | 57=>128 | n=>n,fun | 22=>103 | 24=>105 | 25=>108 | 3=>3 | 39=>130 | 0=>0 | 53=>125 | 55=>122 | 4=>4 | 46=>158 | 45=>157 | 50=>93 | 5=>5 | 9=>9 | 66=>176 | 70=>179 | 76=>183 | 77=>184 | n=>n,fun | n=>n⟩
theorem Tw.bA3:Go.Proofs.SlLaysF0.n6 Tw.prog Tw.bf7:={
  mixed:=by kernel_rfl
  f6:=⟨Try.f57.name,by decide,Tw.func57.trans (congrArg some (by kernel_rfl))⟩
  f14:=⟨Try.f73.name,by decide,Tw.func73.trans (congrArg some (by kernel_rfl))⟩
  f15:=Tw.func74.trans (congrArg some (by kernel_rfl))
  f20:=⟨Try.f97.name,by decide,Tw.func97.trans (congrArg some (by kernel_rfl))⟩
  f21:=⟨Try.f98.name,by decide,Tw.func98.trans (congrArg some (by kernel_rfl))⟩
  f22:=⟨Try.f99.name,by decide,Tw.func99.trans (congrArg some (by kernel_rfl))⟩
  f23:=⟨Try.f100.name,by decide,Tw.func100.trans (congrArg some (by kernel_rfl))⟩
  f24:=⟨Try.f101.name,by decide,Tw.func101.trans (congrArg some (by kernel_rfl))⟩
  f25:=⟨Try.f102.name,by decide,Tw.func102.trans (congrArg some (by kernel_rfl))⟩
  f26:=⟨Try.f103.name,by decide,Tw.func103.trans (congrArg some (by kernel_rfl))⟩
  f27:=⟨Try.f104.name,by decide,Tw.func104.trans (congrArg some (by kernel_rfl))⟩
  f28:=Tw.func105.trans (congrArg some (by kernel_rfl))
  f29:=Tw.func106.trans (congrArg some (by kernel_rfl))
  f46:=⟨Try.f120.name,by decide,Tw.func120.trans (congrArg some (by kernel_rfl))⟩
  f47:=Tw.func121.trans (congrArg some (by kernel_rfl))
  f48:=Tw.func122.trans (congrArg some (by kernel_rfl))
  f49:=⟨Try.f123.name,by decide,Tw.func123.trans (congrArg some (by kernel_rfl))⟩
  f50:=⟨Try.f124.name,by decide,Tw.func124.trans (congrArg some (by kernel_rfl))⟩
  f57:=⟨Try.f128.name,by decide,Tw.func128.trans (congrArg some (by kernel_rfl))⟩
  t0:=Tw.underlying0
  a0:=Tw.isAgg0
  z0:=Tw.sizeOf0
  v0:=Tw.zeroValue0
  t3:=Tw.underlying3
  a3:=Tw.isAgg3
  z3:=Tw.sizeOf3
  v3:=Tw.zeroValue3
  t4:=Tw.underlying4
  a4:=Tw.isAgg4
  z4:=Tw.sizeOf4
  v4:=Tw.zeroValue4
  t5:=Tw.underlying5
  a5:=Tw.isAgg5
  z5:=Tw.sizeOf5
  v5:=Tw.zeroValue5
  t9:=Tw.underlying9
  a9:=Tw.isAgg9
  z9:=Tw.sizeOf9
  v9:=Tw.zeroValue9
  t22:=Tw.underlying103
  a22:=Tw.isAgg103
  z22:=Tw.sizeOf103
  v22:=Tw.zeroValue103
  t25:=Tw.underlying108
  a25:=Tw.isAgg108
  z25:=Tw.sizeOf108
  v25:=Tw.zeroValue108
  t39:=Tw.underlying130
  a39:=Tw.isAgg130
  z39:=Tw.sizeOf130
  v39:=Tw.zeroValue130
  t45:=Tw.underlying157
  a45:=Tw.isAgg157
  z45:=Tw.sizeOf157
  v45:=Tw.zeroValue157
  t46:=Tw.underlying158
  a46:=Tw.isAgg158
  z46:=Tw.sizeOf158
  v46:=Tw.zeroValue158
  t50:=Tw.underlying93
  a50:=Tw.isAgg93
  z50:=Tw.sizeOf93
  v50:=Tw.zeroValue93
  t53:=Tw.underlying125
  a53:=Tw.isAgg125
  z53:=Tw.sizeOf125
  v53:=Tw.zeroValue125
  t55:=Tw.underlying122
  a55:=Tw.isAgg122
  z55:=Tw.sizeOf122
  v55:=Tw.zeroValue122
  t66:=Tw.underlying176
  a66:=Tw.isAgg176
  z66:=Tw.sizeOf176
  v66:=Tw.zeroValue176
  t70:=Tw.underlying179
  a70:=Tw.isAgg179
  z70:=Tw.sizeOf179
  v70:=Tw.zeroValue179
  t76:=Tw.underlying183
  a76:=Tw.isAgg183
  z76:=Tw.sizeOf183
  v76:=Tw.zeroValue183
  t77:=Tw.underlying184
  a77:=Tw.isAgg184
  z77:=Tw.sizeOf184
  v77:=Tw.zeroValue184 }
end
namespace Ows
open Go.Shelf Go.RowKit Go.Lib Go.Sort Sx Num Rga Rgl Rgm Rgn Rge Rgf
set_option maxRecDepth 100000
structure Ow where
 y:Int
 x0:Int
 x1:Int
 k:Int
def owL (o:Ow):List SV:=[.int .i64 o.y,.int .i64 o.x0,.int .i64 o.x1,.int .i64 o.k]
def owD (g:Nat->SV):Ow:=⟨Sx.intOf (g 0),Sx.intOf (g 1),Sx.intOf (g 2),Sx.intOf (g 3)⟩
def oI (L:List Ow) (i:Nat):Ow:=L.getD i ⟨0,0,0,0⟩
structure Og where
 n:Nat
 f:Nat->Ow
def Og.L (g:Og):List Ow:=(List.range g.n).map g.f
theorem Og.len (g:Og):g.L.length=g.n:=by simp [Og.L]
theorem Og.oI {g:Og}{i:Nat}(h:i<g.n):oI g.L i=g.f i:=by
 unfold Ows.oI Og.L;rw [la,lT,um h];rfl
def okO (o:Ow):Prop:=((-8192<=o.y/\o.y<=8192)/\(-8192<=o.x0/\o.x0<=8192)/\ -8192<=o.x1/\o.x1<=8192)/\ -8192<=o.k/\o.k<=8192
def or3 (x y z:Int):Int:=if x=0 then (if y=0 then z else y) else x
theorem bM3 (x y z:Int) (b:Nat) (W:World) (h0:W.cell? ⟨b,0,none⟩=some (.int .i64 x)) (h1:W.cell? ⟨b,1,none⟩=some (.int .i64 y)) (h2:W.cell? ⟨b,2,none⟩=some (.int .i64 z)) :
  Calls Tw.prog 59 #[.slice (some ⟨b,0,none⟩) 3 3] W fun e w'=>e = .returned (.int .i64 (or3 x y z))/\w'=W:=by
 by_cases hx:x=0
 ·by_cases hy:y=0
  ·have e:or3 x y z=z:=by unfold or3; rw [ln hx,ln hy]
   rw [e];clear e;subst hx;subst hy;by_cases hz:z=0
   ·subst hz;go_enter Tw.func59,Tw.ntmps59
    go_wp2
    refine wp_loop_rounds 4 ?_;rw [rounds_succ];go_wp2
    rw [rounds_succ];go_wp2
    rw [rounds_succ];go_wp2
    rw [rounds_succ];go_wp2
    go_ret
    exact ⟨rfl,rfl⟩
   ·go_enter Tw.func59,Tw.ntmps59
    go_wp2
    refine wp_loop_rounds 4 ?_;rw [rounds_succ];go_wp2
    rw [rounds_succ];go_wp2
    rw [rounds_succ];go_wp2
    go_ret
    exact ⟨rfl,rfl⟩
  ·have e:or3 x y z=y:=by unfold or3; rw [ln hx,lr hy]
   rw [e];clear e;subst hx;go_enter Tw.func59,Tw.ntmps59
   go_wp2
   refine wp_loop_rounds 4 ?_;rw [rounds_succ];go_wp2
   rw [rounds_succ];go_wp2
   go_ret
   exact ⟨rfl,rfl⟩
 ·have e:or3 x y z=x:=lr hx;rw [e];clear e;go_enter Tw.func59,Tw.ntmps59
  go_wp2
  refine wp_loop_rounds 4 ?_;rw [rounds_succ];go_wp2
  go_ret
  exact ⟨rfl,rfl⟩
theorem bP4 (a0 a1 a2 a3 b0 b1 b2 b3:Int) (W:World) (h0 : -9223372036854775808<=a0-b0/\a0-b0<=9223372036854775807) (h1 : -9223372036854775808<=a1-b1/\a1-b1<=9223372036854775807) (h2 : -9223372036854775808<=a3-b3/\a3-b3<=9223372036854775807) :
  Calls Tw.prog 58 #[.agg #[.int .i64 a0,.int .i64 a1,.int .i64 a2,.int .i64 a3],.agg #[.int .i64 b0,.int .i64 b1,.int .i64 b2,.int .i64 b3]] W fun e w'=>e = .returned (.int .i64 (or3 (a0-b0) (a1-b1) (a3-b3)))/\∃ q os',w'=grow (W.drewN q) os':=by
 have hcon:=fun b W' h0 h1 h2=>bM3 (a0-b0) (a1-b1) (a3-b3) b W' h0 h1 h2
 generalize or3 (a0-b0) (a1-b1) (a3-b3)=r at hcon ⊢;go_enter Tw.func58,Tw.ntmps58
 go_wp2_with (go_at_call 59; refine (hcon _ _ (a01 (by simp) rfl) (a01 (by simp) rfl) (a01 (by simp) rfl)).mono ?_; rintro e w' ⟨rfl,rfl⟩)
 go_ret
 exact ⟨rfl,0,_,by rw [alloc_eq_grow,alloc_eq_grow,alloc_eq_grow,grow_grow,grow_grow]; rfl⟩
instance:Inhabited Ow:=⟨⟨0,0,0,0⟩⟩
def enR (r:Ow):List Value:=[.int .i64 (cl r.y),.int .i64 (cl r.x0),.int .i64 (cl r.x1),.int .i64 (cl r.k)]
def cfR (x y:Ow):Int:=or3 (cl x.y-cl y.y) (cl x.x0-cl y.x0) (cl x.k-cl y.k)
theorem lt_iff (x y:Ow):ltOf cfR x y=true<->(cl x.y<cl y.y\/(cl x.y=cl y.y/\(cl x.x0<cl y.x0\/(cl x.x0=cl y.x0/\cl x.k<cl y.k)))):=by
 unfold ltOf cfR or3;rw [decide_eq_true_iff];split
 ·split<;>omega
 ·omega
theorem aC3 (x y:Ow):ltOf cfR x y=false<->¬ (cl x.y<cl y.y\/(cl x.y=cl y.y/\(cl x.x0<cl y.x0\/(cl x.x0=cl y.x0/\cl x.k<cl y.k)))):=by
 rw [<-lt_iff,lac]
theorem swo:SWO (ltOf cfR) where
 irrefl x:=by rw [aC3]; omega
 trans x y z h1 h2:=by rw [lt_iff] at *; omega
 ntrans x y z h1 h2:=by rw [aC3] at *; omega
theorem b59 (blk off sz:Nat) (w:World):CmpLays Tw.prog 58 #[] enR 4 cfR blk off sz w:=fun _ _ _ _ x y=>by
 have a1:=cl_b x.y; have a2:=cl_b y.y; have a3:=cl_b x.x0; have a4:=cl_b y.x0; have a5:=cl_b x.k; have a6:=cl_b y.k;exact bP4 (cl x.y) (cl x.x0) (cl x.x1) (cl x.k) (cl y.y) (cl y.x0) (cl y.x1) (cl y.k) _ (by omega) (by omega) (by omega)
def srtA (d:Array Ow):Array Ow:=pdq (ltOf cfR) d 0 d.size (Lib.bitLen d.size) true true
def srt (g:Og):List Ow:=(srtA g.L.toArray).toList
theorem am1 (d:Array Ow):PermIn 0 d.size d (srtA d)/\SortedIn (ltOf cfR) 0 d.size (srtA d):=
 pdq_sorts (ltOf cfR) swo d 0 d.size (Lib.bitLen d.size) true true (lE _) (lf _) (Or.inl rfl)
theorem aW3 (g:Og):(srt g).length=g.n:=by
 have:=(am1 g.L.toArray).1.1
 unfold srt;rw [lF,this,xA,Og.len]
theorem aW2 (g:Og):(srt g).Perm g.L:=by
 have h:=(am1 g.L.toArray).1;have h2:=h.2.2;have e1:((srtA g.L.toArray).extract 0 g.L.toArray.size)=srtA g.L.toArray:=by rw [<-h.1]; simp
 have e2:(g.L.toArray.extract 0 g.L.toArray.size)=g.L.toArray:=by simp
 rw [e1,e2] at h2;unfold srt;simpa using h2
theorem bq7 (g:Og) {i j:Nat}(hij:i<j) (hj:j<g.n):ltOf cfR (oI (srt g) j) (oI (srt g) i)=false:=by
 have h:=(am1 g.L.toArray).2 i j (lE _) hij (by rw [xA,Og.len]; exact hj);have hs:(srtA g.L.toArray).size=g.n:=by rw [(am1 g.L.toArray).1.1,xA,Og.len]
 have e:∀ k,k<g.n->oI (srt g) k=(srtA g.L.toArray)[k]!:=fun k hk=>by
  unfold oI srt;rw [getElem!_pos _ k (by omega),la,lD (by rw [lF]; omega)];simp
 rw [e i (by omega),e j hj];exact h
theorem bk9 {w w':World}{X:Fr}{E:Env}{n:Nat}{g g':Nat->Nat->SV}{T:TypeId}{v:Value}{us:Nat->Option Nat}(h:Rep w X [.row 0 n 4 g T] E w) (he:E 0=some (.slc 0 v us))
  (hos:w'.os=w.os) (htp:w'.tape=w.tape) (hout:w'.output=w.output) (hsz:w.heap.size<=w'.heap.size)
  (hblk:∀ k,k<w.heap.size->(∀ b,holds (.slc 0 v us) (.row 0 n 4 g T) b->k≠b)->w'.heap[k]?=w.heap[k]?)
  (hok:∃ xs,ah9 w' T 4 v n xs/\∀ i j,i<n->j<4->ab1 (xs.getD (i*4+j) undef)/\∀ X',R w' X' E0 (g' i j) (xs.getD (i*4+j) undef)) :
  Rep w X [.row 0 n 4 g' T] E w':=by
 have hd:∀ k e,E k=some e->k=0/\e = .slc 0 v us:=fun k e hk=>by
  have h1:=h.dom k e hk;have h0:k=0:=by simp at h1; omega
  subst h0;rw [he] at hk;exact ⟨rfl,(Option.some.inj hk).symm⟩
 have hh:∀ b,holds (.slc 0 v us) (.row 0 n 4 g' T) b->holds (.slc 0 v us) (.row 0 n 4 g T) b:=fun b hb=>hb
 refine ⟨⟨hos,htp,hout,hsz,fun k hk hdk=>hblk k hk (fun b hb hkb=>?_)⟩,h.x0,h.nm,h.dom,fun k e hk=>?_,fun k e b hk hb=>?_,fun k k' e e' b hk hk' hb hb'=>?_⟩
 ·rcases h.low 0 _ b he hb with h1 | h1
  ·omega
  ·exact hdk (hkb▸h1)
 ·obtain ⟨rfl,rfl⟩:=hd k e hk;obtain ⟨xs,h1,h2⟩:=hok;exact ⟨rfl,xs,h1,fun i j hi hj=>⟨(h2 i j hi hj).1,(h2 i j hi hj).2 _⟩⟩
 ·obtain ⟨rfl,rfl⟩:=hd k e hk;exact h.low 0 _ b he (hh b hb)
 ·rw [(hd k e hk).1,(hd k' e' hk').1]
theorem br0 {oo:Nat}{w:World}{b:Nat}{cur:Array Value}{T:TypeId}(hb:w.heap[b]?=some (.cells cur T (0,0))) (m:Nat) (d:Array Ow) (os:Array Obj) :
  (sortWorldK enR 4 w b oo m d os).heap[b]?=some (.cells (putCells id oo (flatK enR 4 d) cur) T (0,0)):=by
 have hlt:b<w.heap.size:=lt_of_block hb;show ((w.heap.modify b (onCells (putCells id oo (flatK enR 4 d))))++os)[b]?=_;rw [xp (by rw [Array.size_modify]; exact hlt),uz,ln rfl,hb];rfl
theorem bq9 {oo:Nat}{w:World}{b k:Nat}(hk:k<w.heap.size) (hne:k≠b) (m:Nat) (d:Array Ow) (os:Array Obj):(sortWorldK enR 4 w b oo m d os).heap[k]?=w.heap[k]?:=by
 show ((w.heap.modify b (onCells (putCells id oo (flatK enR 4 d))))++os)[k]?=_;rw [xp (by rw [Array.size_modify]; exact hk),uz,lr (xy hne)]
theorem bA4 {oo:Nat}(w:World) (b m:Nat) (d:Array Ow) (os:Array Obj):w.heap.size<=(sortWorldK enR 4 w b oo m d os).heap.size:=by
 show _<=((w.heap.modify b (onCells (putCells id oo (flatK enR 4 d))))++os).size;rw [Array.size_append,Array.size_modify];exact Nat.le_add_right _ _
theorem bl1 {r:Ow}{j:Nat}(hj:j<4) (P:SV->Value->Prop) (h0:P (.int .i64 r.y) (.int .i64 r.y)) (h1:P (.int .i64 r.x0) (.int .i64 r.x0)) (h2:P (.int .i64 r.x1) (.int .i64 r.x1)) (h3:P (.int .i64 r.k) (.int .i64 r.k)) (ok:okO r):P (lst (owL r) j) ((enR r)[j]!):=by
 obtain ⟨⟨⟨a1,a2⟩,⟨a3,a4⟩,a5,a6⟩,a7,a8⟩:=ok;unfold enR;rw [bd0 a1 a2,bd0 a3 a4,bd0 a5 a6,bd0 a7 a8];match j,hj with
 | 0,_=>exact h0
 | 1,_=>exact h1
 | 2,_=>exact h2
 | 3,_=>exact h3
def soD:List SV->List SO->Option Og
 | [_,.fn _ _ _],[.row _ n _ g _]=>some ⟨n,fun i=>owD (g i)⟩
 | _,_=>none
def rowW (ver:Nat) (n:Nat) (f:Nat->Ow):SO:= .row ver n 4 (fun i=>lst (owL (f i))) 105
def bz9:FSpec:=af4 57 [.arg 0] soD (fun _=>[.osl 0 0,.fn 58 0 (lst [])]) (fun g=>[rowW 0 g.n g.f]) (fun g=>(∀ i,i<g.n->okO (g.f i))/\g.n<=4294967296) (fun _=> .tup 0 (lst [])) (fun g=>[rowW 0 g.n (oI (srt g))])
theorem b15:aa9 Tw.prog bz9:=by
 refine bq8 (enters_of Tw.func57 (by kernel_rfl) rfl) (fun g hg vals w X E hnm hrep hsz hr=>?_);obtain ⟨hok,hn⟩:=hg;have h0:=hr 0 (by show 0<2; decide);have h1:=hr 1 (by show 1<2; decide);obtain ⟨v0,v1,rfl⟩:∃ v0 v1,vals = #[v0,v1]:=by
  have hs:vals.size=2:=hsz;exact ⟨vals[0],vals[1],by
   apply Array.ext
   ·exact hs
   ·intro i hi1 hi2;have:i=0\/i=1:=by omega
    rcases this with rfl | rfl<;>rfl⟩
 have h0:R w (Xo X E [rowW 0 g.n g.f]) E (.osl 0 0) v0:=h0;have h1:R w (Xo X E [rowW 0 g.n g.f]) E (.fn 58 0 (lst [])) v1:=h1;have hv1:v1 = .func (.func 58) #[] #[]:=by
  cases h1 with
  | fn hs hr=>rw [uv.1 hs]
 subst hv1;obtain ⟨us,he⟩:∃ us,E 0=some (.slc 0 v0 us):=by
  cases h0 with
  | osl he _=>exact ⟨_,he⟩
  | oslOld he hl _=>
   have:=(hrep.ok 0 _ he).1
   omega
 obtain ⟨_,xs,hown,hxs⟩:=hrep.ok 0 _ he;have rtup:∀ (w':World) (X':Nat->Prop) (E':Env),R w' X' E' (.tup 0 (lst [])) (.tuple #[]):=fun _ _ _=> .tup rfl (fun i hi=>absurd hi (lw _))
 rcases hown with ⟨a,rfl,hz,rfl⟩ | ⟨b,oo,cap,cur,rfl,hb,hlc,hcap,hcs,htake,hxl⟩
 ·refine (AnyF.slices_SortFunc_none Tw.bA3 a 0 (.func (.func 58) #[] #[]) w).mono ?_;rintro e w' ⟨rfl,rfl⟩;refine ⟨.tuple #[],E,rfl,bk9 hrep he rfl rfl rfl (lf _) (fun _ _ _=>rfl) ⟨[],.inl ⟨a,rfl,hz,rfl⟩,fun i j hi=>?_⟩,rtup _ _ _⟩;rw [hz] at hi;exact absurd hi (lw _)
 ·have hd:g.L.toArray.size=g.n:=by rw [xA,Og.len]
  have gL:∀ i,i<g.n->(g.L.toArray)[i]! = g.f i:=fun i hi=>by
   rw [getElem!_pos _ i (by omega)];simp [Og.L]
  have as7:∀ j,j<g.n*4->cur[oo+j]?=some ((flatK enR 4 g.L.toArray)[j]!):=fun j hj=>by
   have hij:j / 4*4+j % 4=j:=by omega
   have hi:j / 4<g.n:=by omega
   have hj3:j % 4<4:=by omega
   obtain ⟨_,hR⟩:=hxs (j / 4) (j % 4) hi hj3;rw [hij] at hR;have ex:xs.getD j undef=(cur[oo+j]?).getD undef:=by
    rw [<-htake,la,uG hj,xw];simp
   have hlt:oo+j<cur.size:=by rw [hcs]; have:=lj 4 hlc; omega
   rw [ex] at hR;rw [lH hlt] at hR ⊢;rw [get_flatK _ _ _ _ (by rw [hd]; exact hj),gL _ hi];congr 1;refine bl1 (P:=fun s u=>R w (Xo X E [rowW 0 g.n g.f]) E0 s cur[oo+j]->cur[oo+j]=u) hj3 ?_ ?_ ?_ ?_ (hok _ hi) hR
   ·intro h; exact aj7 h
   ·intro h; exact aj7 h
   ·intro h; exact aj7 h
   ·intro h; exact aj7 h
  have hH:HoldsK enR 4 w b oo g.L.toArray:=fun j hj=>by
   rw [size_flatK,hd] at hj;have hc:=as7 j hj;refine ⟨?_,?_⟩
   ·unfold World.cell?;rw [hb];exact hc
   ·unfold World.frozen?;rw [hb];simp
  have hcon:=AnyQ.slices_SortFunc_eq Tw.bA3 4 (fun w=>by kernel_rfl) (fun w=>by kernel_rfl) enR (fun _=>rfl) (fun x v hv=>by
   simp only [enR,xd,lx,or_false] at hv;rcases hv with rfl | rfl | rfl | rfl<;>rfl) cfR swo 58 #[] b oo (cap+1) g.L.toArray w (enters_of Tw.func58 (by kernel_rfl) rfl) (b59 _ _ _ _) hH (lt_of_block hb) (by rw [hd]; omega)
  rw [hd] at hcon;refine hcon.mono ?_;rintro e w' ⟨rfl,m,os,rfl⟩;have es:pdq (ltOf cfR) g.L.toArray 0 g.n (Lib.bitLen g.n) true true=srtA g.L.toArray:=by unfold srtA; rw [hd]
  rw [es];have hsd:(srtA g.L.toArray).size=g.n:=by rw [(am1 g.L.toArray).1.1,hd]
  have pc:∀ j,j<g.n*4->(putCells id oo (flatK enR 4 (srtA g.L.toArray)) cur)[oo+j]?=some ((flatK enR 4 (srtA g.L.toArray))[j]!):=fun j hj=>by
   have hlt:oo+j<cur.size:=by rw [hcs]; have:=lj 4 hlc; omega
   unfold putCells;rw [Array.getElem?_mapIdx,lH hlt];simp only [lC];rw [ln ⟨Nat.le_add_right _ _,by rw [size_flatK,hsd]; omega⟩,xM];rfl
  have psz:(putCells id oo (flatK enR 4 (srtA g.L.toArray)) cur).size=cur.size:=by unfold putCells; simp
  refine ⟨.tuple #[],E,rfl,bk9 hrep he rfl rfl rfl (bA4 _ _ _ _ _) (fun k hk hne=>bq9 hk (hne b rfl) _ _ _) ⟨((putCells id oo (flatK enR 4 (srtA g.L.toArray)) cur).toList.drop oo).take (g.n*4),.inr ⟨b,oo,cap,_,rfl,br0 hb m _ os,hlc,hcap,by rw [psz,hcs],rfl,?_⟩,fun i j hi hj=>?_⟩,rtup _ _ _⟩
  ·rw [xr,xE,lF,psz,hcs];have:=lj 4 hlc
   omega
  ·have hk:i*4+j<g.n*4:=by omega
   have ex:(((putCells id oo (flatK enR 4 (srtA g.L.toArray)) cur).toList.drop oo).take (g.n*4)).getD (i*4+j) undef=(enR (oI (srt g) i))[j]!:=by
    rw [la,uG hk,xw,lO,pc _ hk,get_flatK _ _ _ _ (by rw [hsd]; exact hk),show (i*4+j) / 4=i by omega,show (i*4+j) % 4=j by omega];have e:(srtA g.L.toArray)[i]! = oI (srt g) i:=by
     unfold oI srt;rw [getElem!_pos _ i (by omega),la,lD (by rw [lF]; omega)];simp
    rw [e];rfl
   rw [ex];have okd:okO (oI (srt g) i):=by
    have hm:oI (srt g) i∈srt g:=by
     unfold oI;rw [la,lD (by rw [aW3]; exact hi)];exact ue _
    have:=(aW2 g).mem_iff.1 hm
    obtain ⟨k,hk,e⟩:=xq.1 this;rw [<-e];exact hok k (lP.1 hk)
   exact bl1 (P:=fun s u=>ab1 u/\∀ X':Nat->Prop,R (sortWorldK enR 4 w b oo m (srtA g.L.toArray) os) X' E0 s u) hj ⟨rfl,fun _=> .int⟩ ⟨rfl,fun _=> .int⟩ ⟨rfl,fun _=> .int⟩ ⟨rfl,fun _=> .int⟩ okd
end Ows
namespace Apl
open Go.RowKit Go.Lib Go.Sort Sx Num Aff Con Rga Rgl Rgm Rgn Rgf Gat Gar Ows
set_option maxRecDepth 100000
def Pcs.L (P:Pcs) (k:Nat):List Rn:=Lf (P.p k) (P.m k)
def ow (r:Rn) (k:Nat):Ow:=⟨r.y,r.x0,r.x1,k⟩
def Ow.r (o:Ow):Rn:=⟨o.y,o.x0,o.x1⟩
def alr (P:Pcs) (k j:Nat):List Ow:=(List.range j).map fun i=>ow (P.p k i) k
def al (P:Pcs):Nat->List Ow
 | 0=>[]
 | k+1=>al P k++alr P k (P.m k)
structure PcOK (P:Pcs):Prop where
 n:P.n<=4096
 tot:(al P P.n).length<=100000000
 v:∀ k,k<P.n->vld (Pcs.L P k)
 ne:∀ k,k<P.n->0<P.m k
 dist:∀ i j,i<j->j<P.n->kOf (P.ink i)≠kOf (P.ink j)
 disj:∀ i j,i<j->j<P.n->∀ y x,mem (Pcs.L P i) y x=true->mem (Pcs.L P j) y x=true->False
 ord:∀ k,k+1<P.n->(P.p k 0).y<(P.p (k+1) 0).y\/((P.p k 0).y=(P.p (k+1) 0).y/\(P.p k 0).x0<=(P.p (k+1) 0).x0)
theorem bo5 (P:Pcs) (k j:Nat):alr P k (j+1)=alr P k j++[ow (P.p k j) k]:=by
 unfold alr;rw [List.range_succ,List.map_append];rfl
theorem an9 (P:Pcs) (k j:Nat):(alr P k j).length=j:=by simp [alr]
theorem bi9 (P:Pcs):∀ k l,k<=l->(al P k).length<=(al P l).length
 | k,0,h=>by rw [Nat.le_zero.1 h]; exact lf _
 | k,l+1,h=>by
  by_cases hk:k=l+1
  ·rw [hk]; exact lf _
  ·have:=bi9 P k l (by omega)
   show _<=(al P l++alr P l (P.m l)).length;rw [lB];omega
theorem bg4 {P:Pcs}{k j:Nat}{o:Ow}:o∈alr P k j<->∃ i,i<j/\o=ow (P.p k i) k:=by
 unfold alr;rw [xq];exact ⟨fun ⟨i,h,e⟩=>⟨i,lP.1 h,e.symm⟩,fun ⟨i,h,e⟩=>⟨i,lP.2 h,e.symm⟩⟩
theorem a94 {P:Pcs}{o:Ow}:∀ {n},o∈al P n<->∃ k i,k<n/\i<P.m k/\o=ow (P.p k i) k
 | 0=>⟨fun h=>(lx h).elim,fun ⟨_,_,h,_⟩=>absurd h (lw _)⟩
 | n+1=>by
  show o∈al P n++alr P n (P.m n)<->_;rw [xZ,a94,bg4];constructor
  ·rintro (⟨k,i,h1,h2,h3⟩ | ⟨i,h1,h2⟩)
   ·exact ⟨k,i,by omega,h2,h3⟩
   ·exact ⟨n,i,by omega,h1,h2⟩
  ·rintro ⟨k,i,h1,h2,h3⟩;by_cases hk:k=n
   ·subst hk; exact .inr ⟨i,h2,h3⟩
   ·exact .inl ⟨k,i,by omega,h2,h3⟩
theorem aE0 {P:Pcs}{k i:Nat}(h:i<P.m k):P.p k i∈Pcs.L P k:=xq.2 ⟨i,lP.2 h,rfl⟩
theorem b13 {P:Pcs}(h:PcOK P) {k i j:Nat}(hk:k<P.n) (hij:i<j) (hj:j<P.m k):ltR (P.p k i) (P.p k j):=lt_of (g:=⟨P.m k,P.p k⟩) (h.v k hk) hij hj
theorem bd6 {P:Pcs}(h:PcOK P) {k:Nat}(hk:k<P.n):∀ j,j<=P.m k->(alr P k j).Nodup
 | 0,_=>List.nodup_nil
 | j+1,hj=>by
  rw [bo5,List.nodup_append];refine ⟨bd6 h hk j (by omega),(by simp),fun a ha b hb hab=>?_⟩;obtain ⟨i,hi,rfl⟩:=bg4.1 ha;rw [xn] at hb;rw [hb] at hab;have hl:=b13 h hk hi (by omega:j<P.m k);have e1:(P.p k i).y=(P.p k j).y:=congrArg Ow.y hab;have e2:(P.p k i).x0=(P.p k j).x0:=congrArg Ow.x0 hab;have e3:(P.p k i).x1=(P.p k j).x1:=congrArg Ow.x1 hab;have ok:=(h.v k hk).1 _ (aE0 (show i<P.m k by omega));have:=ok.2
  unfold ltR at hl;omega
theorem bo8 {P:Pcs}(h:PcOK P):∀ n,n<=P.n->(al P n).Nodup
 | 0,_=>List.nodup_nil
 | n+1,hn=>by
  show (al P n++alr P n (P.m n)).Nodup;rw [List.nodup_append];refine ⟨bo8 h n (by omega),bd6 h (by omega) _ (lf _),fun a ha b hb hab=>?_⟩;obtain ⟨k,i,h1,h2,rfl⟩:=a94.1 ha;obtain ⟨j,h3,rfl⟩:=bg4.1 hb;have:((k:Nat):Int)=(n:Int):=congrArg Ow.k hab
  omega
def alG (P:Pcs):Og:=⟨(al P P.n).length,oI (al P P.n)⟩
theorem Og_of (L:List Ow):Og.L ⟨L.length,oI L⟩=L:=by
 refine laa (by simp [Og.L]) fun i h1 h2=>?_
 simp [Og.L,oI,h2]
theorem cg5 (P:Pcs):(alG P).L=al P P.n:=Og_of _
theorem bP9 {P:Pcs}(h:PcOK P) {o:Ow}(ho:o∈al P P.n):okO o:=by
 obtain ⟨k,i,h1,h2,rfl⟩:=a94.1 ho;have ok:=(h.v k h1).1 _ (aE0 h2);obtain ⟨⟨q1,q2,q3⟩,q4⟩:=ok;have hn:=h.n;exact ⟨⟨⟨q1.1,by show (P.p k i).y<=8192; omega⟩,q2,q3⟩,by show -8192<=(k:Int); omega,by show (k:Int)<=8192; omega⟩
theorem bm7 {L:List Ow}{i:Nat}(h:i<L.length):oI L i∈L:=by
 unfold oI;rw [la,lD h];exact ue h
theorem bz7 {P:Pcs}(h:PcOK P) {i:Nat}(hi:i+1<(al P P.n).length) (hy:(oI (Ows.srt (alG P)) i).y=(oI (Ows.srt (alG P)) (i+1)).y):(oI (Ows.srt (alG P)) i).x1<=(oI (Ows.srt (alG P)) (i+1)).x0:=by
 have hlen:(Ows.srt (alG P)).length=(al P P.n).length:=Ows.aW3 _;have hp:(Ows.srt (alG P)).Perm (al P P.n):=by have:=aW2 (alG P); rwa [cg5] at this
 have nd:(Ows.srt (alG P)).Nodup:=hp.nodup_iff.2 (bo8 h _ (lf _));have m1:=hp.mem_iff.1 (bm7 (L:=srt (alG P)) (i:=i) (by omega));have m2:=hp.mem_iff.1 (bm7 (L:=srt (alG P)) (i:=i+1) (by omega));have hs:=bq7 (alG P) (i:=i) (j:=i+1) (by omega) (by show i+1<(al P P.n).length; omega);have hne:oI (Ows.srt (alG P)) i≠oI (Ows.srt (alG P)) (i+1):=by
  unfold oI;rw [la,la,lD (show i<(Ows.srt (alG P)).length by omega),lD (show i+1<(Ows.srt (alG P)).length by omega)];exact xU.1 nd i (i+1) (by omega) (by omega) (by omega)
 generalize oI (Ows.srt (alG P)) i=a at *
 generalize oI (Ows.srt (alG P)) (i+1)=b at *
 have oka:=bP9 h m1;have okb:=bP9 h m2;rw [Ows.aC3] at hs;rw [bd0 okb.1.1.1 okb.1.1.2,bd0 oka.1.1.1 oka.1.1.2,bd0 okb.1.2.1.1 okb.1.2.1.2,bd0 oka.1.2.1.1 oka.1.2.1.2] at hs;have hx:a.x0<=b.x0:=by omega
 obtain ⟨k,s,h1,h2,rfl⟩:=a94.1 m1;obtain ⟨l,t,h3,h4,rfl⟩:=a94.1 m2;have ra:=((h.v k h1).1 _ (aE0 h2)).2;have rb:=((h.v l h3).1 _ (aE0 h4)).2;have hy:(P.p k s).y=(P.p l t).y:=hy;have hx:(P.p k s).x0<=(P.p l t).x0:=hx;show (P.p k s).x1<=(P.p l t).x0;by_cases hkl:k=l
 ·subst hkl;rcases xB s t with hst | hst | hst
  ·have:=b13 h h1 hst h4
   unfold ltR at this;omega
  ·subst hst; exact absurd rfl hne
  ·have:=b13 h h1 hst h2
   unfold ltR at this;omega
 ·refine Int.not_lt.1 fun hc=>?_
  have i1:mem (Pcs.L P k) (P.p k s).y (P.p l t).x0=true:=(mem_iff _ _ _).2 ⟨_,aE0 h2,rfl,hx,hc⟩;have i2:mem (Pcs.L P l) (P.p k s).y (P.p l t).x0=true:=(mem_iff _ _ _).2 ⟨_,aE0 h4,hy.symm,xC _,rb⟩;rcases uf hkl with hlt | hgt
  ·exact h.disj k l hlt h3 _ _ i1 i2
  ·exact h.disj l k hgt h1 _ _ i2 i1
end Apl
namespace Apt
open Go.RowKit Sx Num Aff Con Rga Rgl Rgm Rgn Gat Gar Ows Apl
set_option maxRecDepth 100000
def bk6:FSpec:=ac8 62 (γ:=Rn×Rn) (fun | [.agg _ x,.agg _ y]=>some (rnD x,rnD y) | _=>none) (fun g=>[rnS g.1,rnS g.2]) (fun _=>True)
 (fun g=> .bool (decide (g.1.y<g.2.y)||(decide (g.1.y=g.2.y)&&decide (g.1.x0<g.2.x0))))
theorem bC7:aa9 Tw.prog bk6:=by
 refine ab0 (specs:=[]) (ac7 trivial) (eqs:=[]) (fun _ _ h=>(lx h).elim) Aff.mixed Tw.func62 rfl (by kernel_rfl) (fun _ _=>by kernel_rfl) (fun g=>A0) (fun g=>li (by kernel_rfl)) ?_;rintro ⟨a,b⟩ _;refine af7 (B:=let T9:=fun p:Prop=>True/\True/\True/\True/\True/\True/\True/\True/\True/\p;let z0:=(decide (a.y<b.y)||decide (a.y=b.y)&&decide (a.x0<b.x0));T9 (Br (decide (a.y<b.y)) (True/\True/\True/\Sx.Ask (true=z0)) (True/\True/\True/\True/\True/\True/\Br (decide (a.y=b.y)) (T9 (Sx.Ask (decide (a.x0<b.x0)=z0))) (True/\True/\True/\True/\Sx.Ask (false=z0))))) (by kernel_rfl) ?_;simp only [cln,ly,xb];refine ⟨fun h=>by rw [lk h]; rfl,fun h=>?_⟩;rw [lm h,Bool.false_or];refine ⟨fun h2=>by rw [lk h2]; rfl,fun h2=>by rw [lm h2]; rfl⟩
structure DlG where
 n:Nat
 f:Nat->Ow
 o:Ow
def dlD:List SV->List SO->Option DlG
 | _,[.row _ n _ g _,.cells _ c _]=>some ⟨n,fun i=>owD (g i),owD c⟩
 | _,_=>none
def rowO (ver n:Nat) (f:Nat->Ow):SO:= .row ver n 4 (fun i=>lst (owL (f i))) 105
def celO (o:Ow):SO:= .cells 4 (lst (owL o)) 105
def dlF:SV:= .fn 61 1 (lst [.own 1 0])
def bZ9:FSpec:=af4 61 [.arg 1] (fun | [.agg _ x,_],[.cells _ c _]=>some (owD x,owD c) | _,_=>none) (fun g=>[.agg 4 (lst (owL g.1)),.own 0 0]) (fun g=>[celO g.2]) (fun _=>True) (fun g=> .bool (decide (g.1.x1<=g.2.x0))) (fun g=>[celO g.2])
theorem bT3:aa9 Tw.prog bZ9:=by
 refine ae4 (specs:=[]) (ac7 trivial) (eqs:=[]) (fun _ _ h=>(lx h).elim) Aff.mixed Tw.func61 rfl (by kernel_rfl) (fun _ _=>by kernel_rfl) (fun g=>A0) true (fun g=>li (by kernel_rfl)) ?_;rintro ⟨a,b⟩ _;refine af7 (B:=let A:=Sx.Ask;let z0:=(IntKind.i64=IntKind.i64);let q0:=fun p:Int=>A z0/\A (p=p);True/\True/\True/\True/\True/\True/\True/\True/\True/\True/\True/\True/\(A (decide (a.x1<=b.x0)=decide (a.x1<=b.x0))/\True)/\((((True/\q0 b.y)/\q0 b.x0)/\q0 b.x1)/\q0 b.k)/\True) (by kernel_rfl) ?_;simp only [cln,ly,xb]
def DlG.Ok (g:DlG):Prop:=g.n<=1/\∀ i,i<g.n->(g.f i).x1<=g.o.x0
def b91:FSpec:=af4 75 [.arg 0,.part 1 0] dlD (fun _=>[.osl 0 0,dlF]) (fun g=>[rowO 0 g.n g.f,celO g.o]) (fun g=>g.Ok) (fun g=> .int .i64 (if g.n=0 then -1 else 0)) (fun g=>[rowO 0 g.n g.f,celO g.o])
theorem cc5:aa9 Tw.prog b91:=by
 refine ae4 (specs:=[bZ9]) (ac7 (⟨bT3,trivial⟩)) (eqs:=[]) (fun _ _ h=>(lx h).elim) Aff.mixed Tw.func75 rfl (by kernel_rfl) (fun _ _=>by kernel_rfl) (fun g=>(⟨[(2,.rounds 2)],[]⟩:Ann)) true (fun g=>li (by kernel_rfl)) ?_;rintro g hg;refine af7 (B:=let T5:=fun p:Prop=>True/\True/\True/\True/\True/\p;let K:=Br;let A:=Sx.Ask;let z7:=(1:Int);let z6:=(0:Int);let z4:=(g.f (Int.toNat z6));let z3:=(g.f (z6+z7).toNat);let z2:=(IntKind.i64=IntKind.i64);let q2:=fun p:Int=>A z2/\A (p=p);let z1:=(A (g.n=g.n)/\∀ i:Nat,i<g.n->(((True/\q2 ((g.f i).y))/\q2 ((g.f i).x0))/\q2 ((g.f i).x1))/\q2 ((g.f i).k));let z0:=((((True/\q2 g.o.y)/\q2 g.o.x0)/\q2 g.o.x1)/\q2 g.o.k);let z5:=(True/\True/\True/\((A z2/\A ((-1:Int)=if g.n=(0:Nat) then (-1:Int) else z6))/\True)/\z1/\z0/\True);T5 (K (decide (z6<(↑g.n:Int))) (T5 (A (z6<=z6/\z6<(↑g.n:Int))/\A (Int.toNat z6<g.n)/\((True/\(((((True/\q2 z4.y)/\q2 z4.x0)/\q2 z4.x1)/\q2 z4.k)/\A ((0:Nat)=(0:Nat))/\True)/\z0/\True)/\A True)/\K (decide (z4.x1<=g.o.x0)) (True/\True/\True/\True/\((A z2/\A (z6=if g.n=(0:Nat) then (-1:Int) else z6))/\True)/\z1/\z0/\True) (A ((-9223372036854775808:Int)<=z6+z7/\z6+z7<=(9223372036854775807:Int))/\True/\True/\K (decide (z6+z7<(↑g.n:Int))) (T5 (A (z6<=z6+z7/\z6+z7<(↑g.n:Int))/\A ((z6+z7).toNat<g.n)/\((True/\(((((True/\q2 z3.y)/\q2 z3.x0)/\q2 z3.x1)/\q2 z3.k)/\A ((0:Nat)=(0:Nat))/\True)/\z0/\True)/\A True)/\K (decide (z3.x1<=g.o.x0)) (True/\True/\True/\True/\((A z2/\A (z6+z7=if g.n=(0:Nat) then (-1:Int) else z6))/\True)/\z1/\z0/\True) (A ((-9223372036854775808:Int)<=z6+z7+z7/\z6+z7+z7<=(9223372036854775807:Int))/\True/\False))) z5))) z5)) (by kernel_rfl) ?_;simp only [cln,ly,xb];obtain ⟨h1,h2⟩:=hg;refine ⟨fun h=>⟨by omega,by show 0<g.n; omega,fun _=>by rw [lr (by omega)],fun hc=>absurd (h2 0 (by omega)) hc⟩,fun h=>by rw [ln (by omega)]⟩
def bR7:FSpec:=af4 60 [.arg 0,.part 1 0] dlD (fun _=>[.osl 0 0,dlF]) (fun g=>[rowO 0 g.n g.f,celO g.o]) (fun g=>g.Ok) (fun _=> .osl 0 1) (fun g=>[rowO 1 0 g.f,celO g.o])
theorem b19:aa9 Tw.prog bR7:=by
 refine ae4 (specs:=[b91,bZ9]) (ac7 (⟨cc5,bT3,trivial⟩)) (eqs:=[]) (fun _ _ h=>(lx h).elim) Aff.mixed Tw.func60 rfl (by kernel_rfl) (fun _ _=>by kernel_rfl) (fun g=>(⟨[(5,.rounds 1)],[(1000012,[.shrink 4])]⟩:Ann)) true (fun g=>li (by kernel_rfl)) ?_;rintro g hg;refine af7 (B:=let T3:=fun p:Prop=>True/\True/\True/\p;let K:=Int.ofNat;let A:=Sx.Ask;let z11:=(↑g.n:Int);let z9:=(1:Int);let z8:=(0:Int);let z7:=(0:Nat);let z10:=(z8<=if g.n=z7 then (-1:Int) else z8);let z2:=(IntKind.i64=IntKind.i64);let q2:=fun p:Int=>A z2/\A (p=p);let z1:=((((True/\q2 g.o.y)/\q2 g.o.x0)/\q2 g.o.x1)/\q2 g.o.k);let z0:=(if g.n=z7 then (-1:Int) else z8);let z6:=((-9223372036854775808:Int)<=z0+z9/\z0+z9<=(9223372036854775807:Int));let z5:=((-9223372036854775808:Int)<=z0+z9+z9/\z0+z9+z9<=(9223372036854775807:Int));let z4:=(g.f (z0+z9).toNat);T3 (((True/\(True/\(A ((61:Go.FuncId)=(61:Go.FuncId))/\True/\A (z7=z7))/\True)/\(A (g.n=g.n)/\∀ i:Nat,i<g.n->(((True/\q2 ((g.f i).y))/\q2 ((g.f i).x0))/\q2 ((g.f i).x1))/\q2 ((g.f i).k))/\z1/\True)/\A g.Ok)/\T3 (Br (decide (z0=(-1:Int))) (T3 (True/\(True/\True)/\(A (g.n=z7)/\∀ i:Nat,i<z7->(((True/\q2 ((g.f i).y))/\q2 ((g.f i).x0))/\q2 ((g.f i).x1))/\q2 ((g.f i).k))/\z1/\True)) (True/\A z6/\T3 (True/\True/\Br (decide (z0+z9<z11)) (True/\True/\A (z8<=z0+z9/\z0+z9<z11)/\A ((z0+z9).toNat<g.n)/\T3 (True/\((True/\(((((True/\q2 z4.y)/\q2 z4.x0)/\q2 z4.x1)/\q2 z4.k)/\A (z7=z7)/\True)/\z1/\True)/\A True)/\True/\Br (!decide (z4.x1<=g.o.x0)) (T3 (A (z10/\z0<z11)/\A (z0.toNat<g.n)/\True/\A z6/\True/\True/\A z5/\True/\False)) (True/\A z5/\True/\False))) (True/\True/\A (z10/\z0<=K g.n/\K g.n<=K g.n/\K g.n<=z11)/\T3 (A (z8<=K z7/\(K z7<=if g.n=z7 then (-1:Int) else z8)/\z0<=K g.n/\K g.n<=z11)/\T3 ((True/\True)/\(A ((z0-K z7).toNat=z7)/\∀ i:Nat,let z3:=(z0.toNat<=i/\i<z0.toNat+(K g.n-if g.n=z7 then (-1:Int) else z8).toNat); i<z7->(((True/\A z2/\A ((bif decide z3 then z8 else (g.f i).y)=(g.f i).y))/\A z2/\A ((bif decide z3 then z8 else (g.f i).x0)=(g.f i).x0))/\A z2/\A ((bif decide z3 then z8 else (g.f i).x1)=(g.f i).x1))/\A z2/\A ((bif decide z3 then z8 else (g.f i).k)=(g.f i).k))/\z1/\True)))))))) (by kernel_rfl) ?_;simp only [cln,ly,xb];simp only [xm];obtain ⟨h1,h2⟩:=id hg;refine ⟨hg,fun h=>?_,fun h=>?_⟩
 ·by_cases hn:g.n=0
  ·exact hn
  ·rw [lr hn] at h; omega
 ·have hn:¬ g.n=0:=fun hn=>h (ln hn)
  simp only [lr hn];exact ⟨by omega,fun hc=>by omega,fun _=>⟨by omega,by omega,by omega,fun i hi=>absurd hi (lw _)⟩⟩
def seen (P:Pcs):Nat->List Int->Bool
 | 0,_=>false
 | i+1,l=>decide (l=kOf (P.ink i))||seen P i l
def a57 (P:Pcs):Nat->List Int->Int
 | 0,_=>0
 | i+1,l=>bif decide (l=kOf (P.ink i)) then (i:Int) else a57 P i l
noncomputable def sS (P:Pcs) (i:Nat):Ow:=oI (srt (alG P)) i
def ap1 (P:Pcs):Inv:=⟨Nat,fun k=>k<=P.n,fun k=>⟨[(0,pcS P),(3,.osl 0 0),(20,pcS P),(21,.int .i64 P.n),(22,.int .i64 k)],[rowO 0 (al P k).length (oI (al P k))]⟩,fun k=>P.n-k⟩
def ap2 (P:Pcs) (k:Nat):Inv:=⟨Nat,fun j=>k<P.n/\j<=P.m k,fun j=>⟨[(0,pcS P),(3,.osl 0 0),(4,.int .i64 k),(20,pcS P),(21,.int .i64 P.n),(22,.int .i64 k),(5,.own 1 0),(28,rgS ⟨P.m k,P.p k⟩),(29,.int .i64 (P.m k)),(30,.int .i64 j)],
 [rowO 0 (al P k++alr P k j).length (oI (al P k++alr P k j)),.cells 9 (pcC P k) 35]⟩,fun j=>P.m k-j⟩
def twS (P:Pcs):SO:= .row 0 P.n 1 (fun _ _=> .bool false) 4
noncomputable def ap3 (P:Pcs):Inv:=⟨Nat,fun i=>i<=(al P P.n).length,fun i=>⟨[(0,pcS P),(8,.osl 1 0),(9,.int .i64 (if i=0 then -1 else (sS P (i-1)).y)),(10,.osl 2 0),(47,.osl 0 0),(48,.int .i64 (al P P.n).length),(49,.int .i64 i)],
 [rowO 0 (al P P.n).length (sS P),twS P,rowO 0 (if i=0 then 0 else 1) (fun _=>sS P (i-1))]⟩,fun i=>(al P P.n).length-i⟩
def ap4 (P:Pcs):Inv:=⟨Nat,fun i=>i<=P.n,fun i=>⟨[(0,pcS P),(8,.osl 1 0),(15,.omap 3),(86,pcS P),(87,.int .i64 P.n),(88,.int .i64 i)],
 [.dead,twS P,.dead,.mpi (.arr 8 .u8) false (seen P i) (fun l=> .int .i64 (a57 P i l))]⟩,fun i=>P.n-i⟩
noncomputable def bA1:FSpec:=ac8 43 (γ:=Pcs) (fun | [s]=>some (pcD s) | _=>none) (fun P=>[pcS P]) PcOK (fun _=> .int .i64 0)
theorem bM6:aa9 Tw.prog bA1:=by
 refine ab0 (specs:=[Ows.bz9,bR7,bk6]) (ac7 (⟨Ows.b15,b19,bC7,trivial⟩)) (eqs:=[]) (fun _ _ h=>(lx h).elim) Aff.mixed Tw.func43 rfl (by kernel_rfl) (fun _ _=>by kernel_rfl) (fun g=>(⟨[(3,.nest (ap1 g) (fun k=>[(6,.inv (ap2 g k))])),(16,.nest (ap3 g) (fun i=>[(22,.rounds 1)])),(30,.inv (ap4 g))],[(2,[.own 3 105 4]),(15,[.own 10 105 4]),(1000019,[.shrink 10])]⟩:Ann)) (fun g=>li (by kernel_rfl)) ?_;rintro P hP;refine af7 (B:=let T2:=fun p:Prop=>True/\True/\p;let T8:=fun p:Prop=>True/\True/\True/\True/\True/\True/\True/\True/\p;let J:=Int.ofNat;let K:=Br;let A:=Sx.Ask;let z47:=(7:Nat);let z46:=(6:Nat);let z45:=(5:Nat);let z44:=(4:Nat);let z43:=(3:Nat);let z42:=(2:Nat);let z36:=(al P P.n);let z28:=(↑P.n:Int);let z27:=(1:Int);let z26:=(0:Int);let z22:=(-9223372036854775808:Int);let z19:=(↑z36.length:Int);let z18:=(9223372036854775807:Int);let z10:=(A (P.n=P.n)/\∀ i:Nat,i<P.n->True/\A (false=false));let z8:=(1:Nat);let z7:=(0:Nat);let z33:=(J z7-J z7);let z32:=(True/\(A ((61:Nat)=(61:Go.FuncId))/\True/\A (z7=z7))/\True);let z30:=(z7+z8<=(9223372036854775807:Nat)/\(z7+z8)*(32:Nat)<=(140737488355328:Nat));let z3:=(IntKind.u8=IntKind.u8);let q3:=fun p:Int=>A z3/\A (p=p);let z1:=(IntKind.i64=IntKind.i64);let q1:=fun p:Int=>A z1/\A (p=p);let z11:=(q1 z28);let z9:=(A (z36.length=z36.length)/\∀ i:Nat,i<z36.length->(((True/\q1 ((sS P i).y))/\q1 ((sS P i).x0))/\q1 ((sS P i).x1))/\q1 ((sS P i).k));let z0:=(A (P.n=P.n)/\∀ i:Nat,i<P.n->(chp (True/\A (P.m i=P.m i)/\∀ i_1:Nat,let z48:=(P.p i i_1); i_1<P.m i->((True/\q1 z48.y)/\q1 z48.x0)/\q1 z48.x1) (fun j:Nat=>q3 (P.ink i j)) 7)/\q3 (P.ink i z47));T2 (T2 (True/\(∃ g:Nat,A ((ap1 P).pre g)/\(z0/\True/\z0/\z11/\(A z1/\A (z26=(↑g:Int)))/\True)/\(A (z7=(al P g).length)/\∀ i:Nat,i<(al P g).length->(((True/\False)/\False)/\False)/\False)/\True)/\∀ g:Nat,let z39:=(↑(P.m g):Int);let z17:=(↑g:Int);let z31:=(q1 z17);let z13:=(al P g); (ap1 P).pre g->True/\K (decide (z17<z28)) (True/\A (z26<=z17/\z17<z28)/\T8 ((∃ g_1:Nat,let z23:=(al P g++alr P g g_1); A ((ap2 P g).pre g_1)/\(z0/\True/\z31/\z0/\z11/\z31/\A (z7=z7)/\(A (P.m z17.toNat=P.m g)/\∀ i:Nat,i<P.m g->((True/\A z1/\A ((P.p z17.toNat i).y=(P.p g i).y))/\A z1/\A ((P.p z17.toNat i).x0=(P.p g i).x0))/\A z1/\A ((P.p z17.toNat i).x1=(P.p g i).x1))/\(A z1/\A ((↑(P.m z17.toNat):Int)=z39))/\(A z1/\A (z26=(↑g_1:Int)))/\True)/\(A (z13.length=z23.length)/\∀ i:Nat,i<z23.length->(((True/\A z1/\A ((Ows.oI z13 i).y=(Ows.oI z23 i).y))/\A z1/\A ((Ows.oI z13 i).x0=(Ows.oI z23 i).x0))/\A z1/\A ((Ows.oI z13 i).x1=(Ows.oI z23 i).x1))/\A z1/\A ((Ows.oI z13 i).k=(Ows.oI z23 i).k))/\(((((((((True/\A (P.m z17.toNat=P.m g)/\∀ i:Nat,i<P.m g->((True/\A z1/\A ((P.p z17.toNat i).y=(P.p g i).y))/\A z1/\A ((P.p z17.toNat i).x0=(P.p g i).x0))/\A z1/\A ((P.p z17.toNat i).x1=(P.p g i).x1))/\A z3/\A (P.ink z17.toNat z7=P.ink g z7))/\A z3/\A (P.ink z17.toNat z8=P.ink g z8))/\A z3/\A (P.ink z17.toNat z42=P.ink g z42))/\A z3/\A (P.ink z17.toNat z43=P.ink g z43))/\A z3/\A (P.ink z17.toNat z44=P.ink g z44))/\A z3/\A (P.ink z17.toNat z45=P.ink g z45))/\A z3/\A (P.ink z17.toNat z46=P.ink g z46))/\A z3/\A (P.ink z17.toNat z47=P.ink g z47))/\True)/\∀ g_1:Nat,let z35:=(↑g_1:Int);let z5:=(al P g++alr P g g_1); (ap2 P g).pre g_1->True/\K (decide (z35<z39)) (A (z26<=z35/\z35<z39)/\T8 (A (z5.length+z8<=(9223372036854775807:Nat)/\(z5.length+z8)*(32:Nat)<=(140737488355328:Nat))/\True/\A (z22<=z35+z27/\z35+z27<=z18)/\True/\∃ (g':Nat),let z24:=(al P g++alr P g g'); A ((ap2 P g).pre g')/\((z0/\True/\z31/\z0/\z11/\z31/\A (z7=z7)/\(A (P.m g=P.m g)/\∀ i:Nat,i<P.m g->((True/\q1 ((P.p g i).y))/\q1 ((P.p g i).x0))/\q1 ((P.p g i).x1))/\(q1 z39)/\(A z1/\A (z35+z27=(↑g':Int)))/\True)/\(A (z5.length+z8=z24.length)/\∀ i:Nat,let z49:=(i<z5.length); i<z24.length->(((True/\A z1/\A ((bif decide z49 then (Ows.oI z5 i).y else (P.p g z35.toNat).y)=(Ows.oI z24 i).y))/\A z1/\A ((bif decide z49 then (Ows.oI z5 i).x0 else (P.p g z35.toNat).x0)=(Ows.oI z24 i).x0))/\A z1/\A ((bif decide z49 then (Ows.oI z5 i).x1 else (P.p g z35.toNat).x1)=(Ows.oI z24 i).x1))/\A z1/\A ((bif decide z49 then (Ows.oI z5 i).k else z17)=(Ows.oI z24 i).k))/\(chp (True/\A (P.m g=P.m g)/\∀ i:Nat,i<P.m g->((True/\q1 ((P.p g i).y))/\q1 ((P.p g i).x0))/\q1 ((P.p g i).x1)) (fun j:Nat=>q3 (P.ink g j)) 8)/\True)/\A ((ap2 P g).meas g'<(ap2 P g).meas g_1))) (A (z22<=z17+z27/\z17+z27<=z18)/\True/\∃ (g':Nat),A ((ap1 P).pre g')/\((z0/\True/\z0/\z11/\(A z1/\A (z17+z27=(↑g':Int)))/\True)/\(A (z5.length=(al P g').length)/\∀ i:Nat,let z37:=(Ows.oI (al P g') i); i<(al P g').length->(((True/\A z1/\A ((Ows.oI z5 i).y=z37.y))/\A z1/\A ((Ows.oI z5 i).x0=z37.x0))/\A z1/\A ((Ows.oI z5 i).x1=z37.x1))/\A z1/\A ((Ows.oI z5 i).k=z37.k))/\True)/\A ((ap1 P).meas g'<(ap1 P).meas g)))) (True/\((True/\(True/\(A ((58:Nat)=(58:Go.FuncId))/\True)/\True)/\(A (z13.length=z13.length)/\∀ i:Nat,let z34:=(Ows.oI z13 i); i<z13.length->(((True/\q1 z34.y)/\q1 z34.x0)/\q1 z34.x1)/\q1 z34.k)/\True)/\A ((∀ i:Nat,i<z13.length->okO (Ows.oI z13 i))/\z13.length<=(4294967296:Nat)))/\T2 (A (z26<=z28/\z28<=z28/\(↑z8:Int)*z28<=(140737488355328:Int)/\z28<=z18)/\T2 (T2 (T2 ((∃ g_1:Nat,A ((ap3 P).pre g_1)/\(z0/\True/\(A z1/\A ((-1:Int)=if g_1=z7 then (-1:Int) else (sS P (g_1-z8)).y))/\T2 ((A z1/\A ((↑z13.length:Int)=z19))/\(A z1/\A (z26=(↑g_1:Int)))/\True))/\(A (z13.length=z36.length)/\∀ i:Nat,let z20:=(Ows.oI (Ows.srt (Og.mk z13.length (Ows.oI z13))) i); i<z36.length->(((True/\A z1/\A (z20.y=(sS P i).y))/\A z1/\A (z20.x0=(sS P i).x0))/\A z1/\A (z20.x1=(sS P i).x1))/\A z1/\A (z20.k=(sS P i).k))/\(A (z28.toNat=P.n)/\∀ i:Nat,i<P.n->True/\A (false=false))/\(A (z7=if g_1=z7 then z7 else z8)/\∀ i:Nat,(i<if g_1=z7 then z7 else z8)->(((True/\False)/\False)/\False)/\False)/\True)/\∀ g:Nat,let z38:=(↑g:Int);let z29:=(if g=z7 then z7 else z8);let z25:=(sS P (g-z8));let z16:=(((True/\q1 z25.y)/\q1 z25.x0)/\q1 z25.x1);let z2:=(sS P z38.toNat);let z21:=((((True/\q1 z2.y)/\q1 z2.x0)/\q1 z2.x1)/\q1 z2.k); (ap3 P).pre g->True/\K (decide (z38<z19)) (A (z26<=z38/\z38<z19)/\A (z38.toNat<z36.length)/\T2 (T2 (T2 (True/\K (decide (z2.y≠if g=z7 then (-1:Int) else z25.y)) (True/\A (z26<=J z7/\J z7<=J z7/\J z7<=J z29/\J z29<=(↑z29:Int))/\T2 (T2 (T2 (True/\((True/\z32/\(A (z33.toNat=z33.toNat)/\∀ i:Nat,i<z33.toNat->z16/\q1 z25.k)/\z21/\True)/\A (DlG.mk z33.toNat (fun (x:Nat)=>sS P (g-z8)) z2).Ok)/\T8 (A z30/\True/\A (z22<=z38+z27/\z38+z27<=z18)/\True/\∃ (g':Nat),let z40:=(sS P (g'-z8)); A ((ap3 P).pre g')/\((z0/\True/\(A z1/\A (z2.y=if g'=z7 then (-1:Int) else z40.y))/\T2 ((q1 z19)/\(A z1/\A (z38+z27=(↑g':Int)))/\True))/\z9/\z10/\(A (z7+z8=if g'=z7 then z7 else z8)/\∀ i:Nat,(i<if g'=z7 then z7 else z8)->(((True/\A z1/\A (z2.y=z40.y))/\A z1/\A (z2.x0=z40.x0))/\A z1/\A (z2.x1=z40.x1))/\A z1/\A (z2.k=z40.k))/\True)/\A ((ap3 P).meas g'<(ap3 P).meas g)))))) (T2 (((True/\z32/\(A (z29=if g=z7 then z7 else z8)/\∀ i:Nat,(i<if g=z7 then z7 else z8)->z16/\q1 z25.k)/\z21/\True)/\A (DlG.mk z29 (fun (x:Nat)=>sS P (g-z8)) z2).Ok)/\T8 (A z30/\True/\A (z22<=z38+z27/\z38+z27<=z18)/\True/\∃ (g':Nat),let z41:=(sS P (g'-z8)); A ((ap3 P).pre g')/\((z0/\True/\(A z1/\A ((if g=z7 then (-1:Int) else z25.y)=if g'=z7 then (-1:Int) else z41.y))/\T2 ((q1 z19)/\(A z1/\A (z38+z27=(↑g':Int)))/\True))/\z9/\z10/\(A (z7+z8=if g'=z7 then z7 else z8)/\∀ i:Nat,(i<if g'=z7 then z7 else z8)->(((True/\A z1/\A (z2.y=z41.y))/\A z1/\A (z2.x0=z41.x0))/\A z1/\A (z2.x1=z41.x1))/\A z1/\A (z2.k=z41.k))/\True)/\A ((ap3 P).meas g'<(ap3 P).meas g)))))))) (T2 (T2 (True/\(∃ g:Nat,A ((ap4 P).pre g)/\(z0/\T2 (z0/\z11/\(A z1/\A (z26=(↑g:Int)))/\True))/\True/\z10/\True/\(∀ (l:List Int),l.length=(8:Nat)->A (false=seen P g l)/\((seen P g l||false)=true->False))/\True)/\∀ g:Nat,let z4:=(↑g:Int);let z12:=(P.p z4.toNat (Int.toNat z26));let z6:=(P.p (z4-z27).toNat (Int.toNat z26)); (ap4 P).pre g->True/\K (decide (z4<z28)) (True/\A (z26<=z4/\z4<z28)/\T8 (T2 (T2 (T2 (True/\K (seen P g [P.ink z4.toNat z7,P.ink z4.toNat z8,P.ink z4.toNat z42,P.ink z4.toNat z43,P.ink z4.toNat z44,P.ink z4.toNat z45,P.ink z4.toNat z46,P.ink z4.toNat z47]) (T2 (True/\A z1/\A ((7:Int)=z26))) (T2 (A (z26<=z4/\z4<z28)/\A (z4.toNat<P.n)/\T8 (True/\K (decide (z26<z4)) (T2 (A (z26<=z26/\z26<(↑(P.m z4.toNat):Int))/\T2 (True/\A (z22<=z4-z27/\z4-z27<=z18)/\A (z26<=z4-z27/\z4-z27<z28)/\T2 (A (z26<=z26/\z26<(↑(P.m (z4-z27).toNat):Int))/\True/\(((((True/\q1 z12.y)/\q1 z12.x0)/\q1 z12.x1)/\(((True/\q1 z6.y)/\q1 z6.x0)/\q1 z6.x1)/\True)/\A True)/\True/\K (decide (z12.y<z6.y)||decide (z12.y=z6.y)&&decide (z12.x0<z6.x0)) (T2 (A z1/\A ((18:Int)=z26))) (A (z22<=z4+z27/\z4+z27<=z18)/\True/\∃ (g':Nat),A ((ap4 P).pre g')/\((z0/\T2 (z0/\z11/\(A z1/\A (z4+z27=(↑g':Int)))/\True))/\True/\z10/\True/\(∀ (l:List Int),let z14:=(l=[P.ink z4.toNat z7,P.ink z4.toNat z8,P.ink z4.toNat z42,P.ink z4.toNat z43,P.ink z4.toNat z44,P.ink z4.toNat z45,P.ink z4.toNat z46,P.ink z4.toNat z47]); l.length=(8:Nat)->A ((decide z14||seen P g l)=seen P g' l)/\((seen P g' l||false)=true->A z1/\A ((bif decide z14 then z4 else a57 P g l)=a57 P g' l)))/\True)/\A ((ap4 P).meas g'<(ap4 P).meas g)))))) (True/\A (z22<=z4+z27/\z4+z27<=z18)/\True/\∃ (g':Nat),A ((ap4 P).pre g')/\((z0/\T2 (z0/\z11/\(A z1/\A (z4+z27=(↑g':Int)))/\True))/\True/\z10/\True/\(∀ (l:List Int),let z15:=(l=[P.ink z4.toNat z7,P.ink z4.toNat z8,P.ink z4.toNat z42,P.ink z4.toNat z43,P.ink z4.toNat z44,P.ink z4.toNat z45,P.ink z4.toNat z46,P.ink z4.toNat z47]); l.length=(8:Nat)->A ((decide z15||seen P g l)=seen P g' l)/\((seen P g' l||false)=true->A z1/\A ((bif decide z15 then z4 else a57 P g l)=a57 P g' l)))/\True)/\A ((ap4 P).meas g'<(ap4 P).meas g)))))))))) (T2 (q1 z26))))))))))))) (by kernel_rfl) ?_;simp only [chp];simp only [cln,ly,xb];simp only [xm,bn2];have hn:=hP.n;have htot:=hP.tot;have rows:∀ {L M:List Ow},L=M->L.length=M.length/\∀ i,i<M.length->(((oI L i).y=(oI M i).y/\(oI L i).x0=(oI M i).x0)/\(oI L i).x1=(oI M i).x1)/\(oI L i).k=(oI M i).k:=by
  rintro L M rfl;exact ⟨rfl,fun _ _=>⟨⟨⟨rfl,rfl⟩,rfl⟩,rfl⟩⟩
 have happ:∀ (L:List Ow) (o:Ow) i,i<(L++[o]).length->oI (L++[o]) i=bif decide (i<L.length) then oI L i else o:=fun L o i hi=>by
  unfold oI;rw [la,la];by_cases h:i<L.length
  ·rw [lk h,xh h]; rfl
  ·rw [lm h,lQ (by omega)];rw [lB,xx] at hi;rw [show i-L.length=0 by omega]; rfl
 have seenMem:∀ k l,seen P k l=true->∃ j,j<k/\l=kOf (P.ink j):=by
  intro k;induction k with
  | zero=>intro l h; cases h
  | succ k ih=>
   intro l h;have h:(decide (l=kOf (P.ink k))||seen P k l)=true:=h;rw [xe,lM] at h;rcases h with h | h
   ·exact ⟨k,by omega,h⟩
   ·obtain ⟨j,h1,h2⟩:=ih l h;exact ⟨j,by omega,h2⟩
 have nodup:∀ k,k<P.n->seen P k (kOf (P.ink k))=true->False:=fun k hk h=>by
  obtain ⟨j,h1,h2⟩:=seenMem _ _ h;exact hP.dist j k h1 hk h2.symm
 have nextP:∀ k:Nat,(k:Int)<P.n->(ap4 P).pre (k+1:Nat)/\((k:Int)+1=((k+1:Nat):Int)/\∀ l:List Int,l.length=8->(decide (l=kOf (P.ink k))||seen P k l)=seen P (k+1) l/\(seen P (k+1) l=true->(bif decide (l=kOf (P.ink k)) then (k:Int) else a57 P k l)=a57 P (k+1) l))/\(ap4 P).meas (k+1:Nat)<(ap4 P).meas k:=fun k hk=>
  ⟨by show k+1<=P.n; omega,⟨by simp,fun l _=>⟨rfl,fun _=>rfl⟩⟩,by show P.n-(k+1)<P.n-k; omega⟩
 refine ⟨⟨0,lE _,rfl,rfl,fun i hi=>absurd hi (lw _)⟩,fun k hk=>⟨fun hlt=>⟨by omega,⟨0,⟨by omega,lE _⟩,rfl,rows (uH _).symm⟩,fun j hj=>⟨fun hjl=>?_,fun hjg=>?_⟩⟩,fun hge=>?_⟩⟩
 ·have hkn:k<P.n:=by omega
  have hjm:j<P.m k:=by omega
  have hlen:(al P k++alr P k j).length+1<=4294967296:=by
   have h1:=bi9 P (k+1) P.n hkn;have h2:(al P (k+1)).length=(al P k).length+P.m k:=by show (al P k++alr P k (P.m k)).length=_; rw [lB,an9]
   rw [lB,an9];omega
  have hm:P.m k<=4294967296:=by
   have h1:=bi9 P (k+1) P.n hkn;have h2:(al P (k+1)).length=(al P k).length+P.m k:=by show (al P k++alr P k (P.m k)).length=_; rw [lB,an9]
   omega
  have e:al P k++alr P k (j+1)=(al P k++alr P k j)++[ow (P.p k j) k]:=by rw [bo5,xz]
  refine ⟨by omega,by omega,by omega,j+1,⟨hkn,hjm⟩,⟨by simp,?_⟩,by show P.m k-(j+1)<P.m k-j; omega⟩;rw [e];refine ⟨by simp [xa],fun i hi=>?_⟩;rw [happ _ _ i hi];cases decide (i<(al P k++alr P k j).length)<;>exact ⟨⟨⟨rfl,rfl⟩,rfl⟩,rfl⟩
 ·have hkn:k<P.n:=by omega
  have hjm:j<=P.m k:=hj.2;refine ⟨by omega,k+1,hkn,⟨by simp,rows ?_⟩,by show P.n-(k+1)<P.n-k; omega⟩;show _=al P k++alr P k (P.m k);rw [show P.m k=j by omega]
 ·have hkn:k=P.n:=by have:k<=P.n:=hk; omega
  subst hkn;have hsrt:∀ i,oI (srt { n:=(al P P.n).length,f:=oI (al P P.n) }) i=sS P i:=fun i=>rfl
  refine ⟨⟨fun i hi=>bP9 hP (bm7 hi),by omega⟩,by omega,⟨0,lE _,⟨rfl,rfl,rfl⟩,⟨rfl,fun i _=>⟨⟨⟨rfl,rfl⟩,rfl⟩,rfl⟩⟩,rfl,fun i hi=>absurd hi (lw _)⟩,fun i hi=>⟨fun hil=>?_,fun hig=>⟨⟨0,lE _,rfl,fun l _=>⟨rfl,fun h=>by cases h⟩⟩,fun k hk hkl=>?_⟩⟩⟩
  ·have hil':i<(al P P.n).length:=by omega
   have e1:(if i+1=0 then 0 else 1:Nat)=1:=rfl;have next:∀ y:Int,y=(sS P i).y->(ap3 P).pre (i+1:Nat)/\(((y=if i+1=0 then -1 else (sS P (i+1-1)).y)/\(i:Int)+1=((i+1:Nat):Int))/\(1=if i+1=0 then 0 else 1)/\∀ j,(j<if i+1=0 then 0 else 1)->(((sS P i).y=(sS P (i+1-1)).y/\(sS P i).x0=(sS P (i+1-1)).x0)/\(sS P i).x1=(sS P (i+1-1)).x1)/\(sS P i).k=(sS P (i+1-1)).k)/\(ap3 P).meas (i+1:Nat)<(ap3 P).meas i:=fun y hy=>
    ⟨hil',⟨⟨by rw [lr (by omega),Nat.add_sub_cancel]; exact hy,by simp⟩,rfl,fun j _=>by rw [Nat.add_sub_cancel]; exact ⟨⟨⟨rfl,rfl⟩,rfl⟩,rfl⟩⟩,by show (al P P.n).length-(i+1)<(al P P.n).length-i; omega⟩
   refine ⟨by omega,hil',fun hne=>⟨⟨by omega,by omega,by split<;>omega,by omega⟩,⟨lE _,fun j hj=>absurd hj (lw _)⟩,by omega,by omega,i+1,next _ rfl⟩,fun heq=>?_⟩;have heq:=Decidable.not_not.1 heq;have hS:=Ows.aW3 (alG P);have ymem:∀ j,j<(al P P.n).length->okO (sS P j):=fun j hj=>by
    have hp:(Ows.srt (alG P)).Perm (al P P.n):=by have:=aW2 (alG P); rwa [cg5] at this
    exact bP9 hP (hp.mem_iff.1 (bm7 (by rw [hS]; exact hj)))
   refine ⟨⟨by show (if i=0 then 0 else 1)<=1; split<;>omega,fun j hj=>?_⟩,by omega,by omega,i+1,next _ heq.symm⟩;have hi0:i≠0:=fun h0=>by
    have hj:j<if i=0 then 0 else 1:=hj
    rw [ln h0] at hj;omega
   rw [lr hi0] at heq;have:=bz7 hP (i:=i-1) (by omega) (by rw [show i-1+1=i by omega]; exact heq.symm)
   rw [show i-1+1=i by omega] at this;exact this
  ·have hkn:k<P.n:=by omega
   have hne:=hP.ne k hkn;refine ⟨by omega,fun h=>(nodup k hkn h).elim,fun _=>⟨by omega,hkn,fun h0=>?_,fun h0=>⟨by omega,k+1,nextP k hkl⟩⟩⟩;have ek:((k:Int)-1).toNat=k-1:=by omega
   rw [ek];have hne2:=hP.ne (k-1) (by omega);have ho:=hP.ord (k-1) (by omega);rw [show k-1+1=k by omega] at ho;refine ⟨by omega,by omega,by omega,by omega,fun h=>?_,fun _=>⟨by omega,k+1,nextP k hkl⟩⟩;rw [xe,lu,lM,lM,lM] at h;have h:(P.p k 0).y<(P.p (k-1) 0).y\/(P.p k 0).y=(P.p (k-1) 0).y/\(P.p k 0).x0<(P.p (k-1) 0).x0:=h;omega
structure ChG where
 w:Nat
 h:Nat
 P:Pcs
structure ChG.Ok (g:ChG):Prop where
 w:1<=g.w/\g.w<=256
 h:1<=g.h/\g.h<=256
 P:PcOK g.P
 nz:∀ k,k<g.P.n->kOf (g.P.ink k)≠nul
 r:∀ k r,k<g.P.n->r<g.P.m k->(0<=(g.P.p k r).y/\(g.P.p k r).y<16*g.h)/\0<=(g.P.p k r).x0/\(g.P.p k r).x1<=16*g.w
def ch1 (g:ChG):Inv:=⟨Nat,fun k=>k<=g.P.n,fun k=>⟨[(0,.int .i64 g.w),(1,.int .i64 g.h),(2,pcS g.P),(19,pcS g.P),(20,.int .i64 g.P.n),(21,.int .i64 k)],[]⟩,fun k=>g.P.n-k⟩
def ch2 (g:ChG) (k:Nat):Inv:=⟨Nat,fun j=>k<g.P.n/\j<=g.P.m k,fun j=>⟨[(0,.int .i64 g.w),(1,.int .i64 g.h),(2,pcS g.P),(19,pcS g.P),(20,.int .i64 g.P.n),(21,.int .i64 k),(8,.own 0 0),(36,rgS ⟨g.P.m k,g.P.p k⟩),(37,.int .i64 (g.P.m k)),(38,.int .i64 j)],
 [.cells 9 (pcC g.P k) 35]⟩,fun j=>g.P.m k-j⟩
noncomputable def aW4:FSpec:=ac8 25 (γ:=ChG) (fun | [.int _ w,.int _ h,s]=>some ⟨w.toNat,h.toNat,pcD s⟩ | _=>none) (fun g=>[.int .i64 g.w,.int .i64 g.h,pcS g.P]) ChG.Ok (fun _=> .int .i64 0)
theorem a84:aa9 Tw.prog aW4:=by
 refine ab0 (specs:=[bf5,bk5,bA1]) (ac7 ⟨bm4,bC6,bM6,trivial⟩) (eqs:=eqI) (all_eq bc5) Aff.mixed Tw.func25 rfl (by kernel_rfl) (fun _ _=>by kernel_rfl)
  (fun g=>(⟨[(6,.nest (ch1 g) (fun k=>[(14,.inv (ch2 g k))]))],[]⟩:Ann)) (fun g=>li (by kernel_rfl)) ?_
 rintro g hg;refine af7 (B:=let T3:=fun p:Prop=>True/\True/\True/\p;let T5:=fun p:Prop=>True/\True/\True/\True/\True/\p;let T7:=fun p:Prop=>True/\True/\True/\True/\True/\True/\True/\p;let K:=Br;let A:=Sx.Ask;let z22:=(1:Int);let z21:=(↑g.P.n:Int);let z15:=(↑g.w:Int);let z14:=(↑g.h:Int);let z13:=(0:Nat);let z11:=(9223372036854775807:Int);let z9:=(-9223372036854775808:Int);let z7:=(0:Int);let z16:=((3:Int)=z7);let z2:=(IntKind.u8=IntKind.u8);let q2:=fun p:Int=>A z2/\A (p=p);let z1:=(IntKind.i64=IntKind.i64);let q1:=fun p:Int=>A z1/\A (p=p);let z23:=(True/\True/\A z1/\A z16);let z6:=(q1 z21);let z5:=(q1 z14);let z4:=(q1 z15);let z0:=(A (g.P.n=g.P.n)/\∀ i:Nat,i<g.P.n->(chp (True/\A (g.P.m i=g.P.m i)/\∀ i_1:Nat,let z18:=(g.P.p i i_1); i_1<g.P.m i->((True/\q1 z18.y)/\q1 z18.x0)/\q1 z18.x1) (fun j:Nat=>q2 (g.P.ink i j)) 7)/\q2 (g.P.ink i (7:Nat)));T3 (((z4/\z5/\True)/\A True)/\True/\K (!(decide (z22<=z15)&&(decide (z15<=(256:Int))&&(decide (z22<=z14)&&decide (z14<=(256:Int)))))) z23 (T3 (K (decide ((4096:Int)<z21)) (True/\True/\A z1/\A ((2:Int)=z7)) (T3 ((∃ g_1:Nat,A ((ch1 g).pre g_1)/\(z4/\z5/\z0/\z0/\z6/\(A z1/\A (z7=(↑g_1:Int)))/\True)/\True)/\∀ g_1:Nat,let z12:=(↑(g.P.m g_1):Int);let z3:=(↑g_1:Int); (ch1 g).pre g_1->True/\K (decide (z3<z21)) (A (z7<=z3/\z3<z21)/\T5 ((((A (g.P.m z3.toNat=g.P.m z3.toNat)/\∀ i:Nat,let z10:=(g.P.p z3.toNat i); i<g.P.m z3.toNat->((True/\q1 z10.y)/\q1 z10.x0)/\q1 z10.x1)/\True)/\A (vld (Rg.mk (g.P.m z3.toNat) (g.P.p z3.toNat)).L/\g.P.m z3.toNat<=(4294967296:Nat)))/\T7 (K (decide ((↑(g.P.m z3.toNat):Int)=z7)) (True/\True/\A z1/\A ((8:Int)=z7)) (T3 (True/\(∃ g_2:Nat,A ((ch2 g g_1).pre g_2)/\(z4/\z5/\z0/\z0/\z6/\(q1 z3)/\A (z13=z13)/\(A (g.P.m z3.toNat=g.P.m g_1)/\∀ i:Nat,i<g.P.m g_1->((True/\A z1/\A ((g.P.p z3.toNat i).y=(g.P.p g_1 i).y))/\A z1/\A ((g.P.p z3.toNat i).x0=(g.P.p g_1 i).x0))/\A z1/\A ((g.P.p z3.toNat i).x1=(g.P.p g_1 i).x1))/\(A z1/\A ((↑(g.P.m z3.toNat):Int)=z12))/\(A z1/\A (z7=(↑g_2:Int)))/\True)/\(((((((((True/\A (g.P.m z3.toNat=g.P.m g_1)/\∀ i:Nat,i<g.P.m g_1->((True/\A z1/\A ((g.P.p z3.toNat i).y=(g.P.p g_1 i).y))/\A z1/\A ((g.P.p z3.toNat i).x0=(g.P.p g_1 i).x0))/\A z1/\A ((g.P.p z3.toNat i).x1=(g.P.p g_1 i).x1))/\A z2/\A (g.P.ink z3.toNat z13=g.P.ink g_1 z13))/\A z2/\A (g.P.ink z3.toNat (1:Nat)=g.P.ink g_1 (1:Nat)))/\A z2/\A (g.P.ink z3.toNat (2:Nat)=g.P.ink g_1 (2:Nat)))/\A z2/\A (g.P.ink z3.toNat (3:Nat)=g.P.ink g_1 (3:Nat)))/\A z2/\A (g.P.ink z3.toNat (4:Nat)=g.P.ink g_1 (4:Nat)))/\A z2/\A (g.P.ink z3.toNat (5:Nat)=g.P.ink g_1 (5:Nat)))/\A z2/\A (g.P.ink z3.toNat (6:Nat)=g.P.ink g_1 (6:Nat)))/\A z2/\A (g.P.ink z3.toNat (7:Nat)=g.P.ink g_1 (7:Nat)))/\True)/\∀ g_2:Nat,let z17:=(↑g_2:Int);let z8:=(g.P.p g_1 z17.toNat); (ch2 g g_1).pre g_2->True/\K (decide (z17<z12)) (A (z7<=z17/\z17<z12)/\T7 (K (decide (z8.y<z7)) (T7 (A z1/\A z16)) (T3 (A (z9<=(16:Int)*z14/\(16:Int)*z14<=z11)/\T3 (K (decide ((16:Int)*z14<=z8.y)) (T5 (A z1/\A z16)) (T5 (K (decide (z8.x0<z7)) (T3 (A z1/\A z16)) (T3 (A (z9<=(16:Int)*z15/\(16:Int)*z15<=z11)/\True/\True/\K (decide ((16:Int)*z15<z8.x1)) z23 (A (z9<=z17+z22/\z17+z22<=z11)/\True/\∃ (g':Nat),A ((ch2 g g_1).pre g')/\((z4/\z5/\z0/\z0/\z6/\(q1 z3)/\A (z13=z13)/\(A (g.P.m g_1=g.P.m g_1)/\∀ i:Nat,let z19:=(g.P.p g_1 i); i<g.P.m g_1->((True/\q1 z19.y)/\q1 z19.x0)/\q1 z19.x1)/\(q1 z12)/\(A z1/\A (z17+z22=(↑g':Int)))/\True)/\(chp (True/\A (g.P.m g_1=g.P.m g_1)/\∀ i:Nat,let z20:=(g.P.p g_1 i); i<g.P.m g_1->((True/\q1 z20.y)/\q1 z20.x0)/\q1 z20.x1) (fun j:Nat=>q2 (g.P.ink g_1 j)) 8)/\True)/\A ((ch2 g g_1).meas g'<(ch2 g g_1).meas g_2))))))))))) (T3 (True/\K (decide (g.P.ink g_1 z13=z7)&&(decide (g.P.ink g_1 (1:Nat)=z7)&&(decide (g.P.ink g_1 (2:Nat)=z7)&&(decide (g.P.ink g_1 (3:Nat)=z7)&&(decide (g.P.ink g_1 (4:Nat)=z7)&&(decide (g.P.ink g_1 (5:Nat)=z7)&&(decide (g.P.ink g_1 (6:Nat)=z7)&&(decide (g.P.ink g_1 (7:Nat)=z7)&&true)))))))) (True/\True/\A z1/\A ((4:Int)=z7)) (A (z9<=z3+z22/\z3+z22<=z11)/\True/\∃ (g':Nat),A ((ch1 g).pre g')/\((z4/\z5/\z0/\z0/\z6/\(A z1/\A (z3+z22=(↑g':Int)))/\True)/\True)/\A ((ch1 g).meas g'<(ch1 g).meas g_1))))))))) (True/\((z0/\True)/\A (PcOK g.P))/\True/\True/\q1 z7))))))) (by kernel_rfl) ?_;simp only [chp];simp only [cln,ly,xb];simp only [Nat.reduceAdd,zer,lM,xN];have hw:=hg.w;have hh:=hg.h;have hn:=hg.P.n;have hsz:(decide (1<=(g.w:Int))&&(decide ((g.w:Int)<=256)&&(decide (1<=(g.h:Int))&&decide ((g.h:Int)<=256))))=true:=by
  simp only [lu,lM]; omega
 refine ⟨fun h=>(by rw [hsz] at h; cases h),fun _=>⟨fun h=>by omega,fun _=>⟨⟨0,lE _,rfl⟩,fun k hk=>⟨fun hlt=>?_,fun _=>hg.P⟩⟩⟩⟩;have hkn:k<g.P.n:=by omega
 have hv:=hg.P.v k hkn;have hl:=aU2 hv;have hm:g.P.m k<=300000000:=by
  have e:(Pcs.L g.P k).length=g.P.m k:=av7 _ _;rwa [e] at hl
 have hne:=hg.P.ne k hkn;refine ⟨by omega,⟨hv,by omega⟩,fun h=>by omega,fun _=>⟨⟨0,⟨hkn,lE _⟩,rfl⟩,fun j hj=>⟨fun hjl=>?_,fun _=>⟨fun h=>absurd h (hg.nz k hkn),fun _=>⟨by omega,k+1,hkn,by omega,by show g.P.n-(k+1)<g.P.n-k; omega⟩⟩⟩⟩⟩;have hr:=hg.r k j hkn (by omega);exact ⟨by omega,fun h=>by omega,fun _=>⟨by omega,fun h=>by omega,fun _=>⟨fun h=>by omega,fun _=>⟨by omega,fun h=>by omega,fun _=>⟨by omega,j+1,⟨hkn,by omega⟩,by omega,by show g.P.m k-(j+1)<g.P.m k-j; omega⟩⟩⟩⟩⟩
end Apt
namespace Wid
def mx (f:Nat->Int) (a:Nat):Nat->Int
 | 0=>0
 | k+1=>max (mx f a k) (f (a+k))
theorem cd7 {f:Nat->Int}{a:Nat}:∀ {k j},a<=j->j<a+k->f j<=mx f a k
 | 0,j,h1,h2=>by omega
 | k+1,j,h1,h2=>by
  unfold mx;by_cases h:j=a+k
  ·subst h; omega
  ·have:=cd7 (f:=f) (a:=a) (k:=k) h1 (by omega); omega
theorem cd5 (f:Nat->Int) (a:Nat):∀ k,0<=mx f a k
 | 0=>xC _
 | k+1=>by have:=cd5 f a k; unfold mx; omega
theorem cd6 {f:Nat->Int}{a:Nat}{v:Int}(hv:0<=v):∀ {k},(∀ j,a<=j->j<a+k->f j<=v)->mx f a k<=v
 | 0,_=>hv
 | k+1,h=>by
  have h1:=cd6 (f:=f) (a:=a) hv (k:=k) fun j h1 h2=>h j h1 (by omega)
  have h2:=h (a+k) (by omega) (by omega);unfold mx;omega
def wid (f:Nat->Int) (n r i:Nat):Int:=mx f (i-r) (min n (i+r+1)-(i-r))
theorem a13 {f:Nat->Int}{n r i j:Nat}(h1:i<=j+r) (h2:j<=i+r) (h3:j<n):f j<=wid f n r i:=cd7 (by omega) (by omega)
theorem bj3 (f:Nat->Int) (n r i:Nat):0<=wid f n r i:=cd5 _ _ _
theorem aR1 {f:Nat->Int}{n r i:Nat}{v:Int}(hv:0<=v) (h:∀ j,i<=j+r->j<=i+r->j<n->f j<=v):wid f n r i<=v:=cd6 hv fun j h1 h2=>h j (by omega) (by omega) (by omega)
theorem bj2 {f:Nat->Int}{n i:Nat}(hi:i<n) (h:0<=f i):wid f n 0 i=f i:=
 uy (aR1 h fun j h1 h2 _=>by rw [show j=i by omega]; exact xC _) (a13 (by omega) (by omega) hi)
theorem aH1 {f g:Nat->Int}{n r s i:Nat}(hr:r<=s) (h:∀ j,j<n->f j<=g j):wid f n r i<=wid g n s i:=
 aR1 (bj3 _ _ _ _) fun j h1 h2 h3=>Int.le_trans (h j h3) (a13 (by omega) (by omega) h3)
theorem bW8 {f:Nat->Int}{n r i:Nat}{m:Int}(hm:0<=m) (h:∀ j,j<n->f j<=m):wid f n r i<=m:=aR1 hm fun j _ _ h3=>h j h3
theorem a14 {f g:Nat->Int}{n r i:Nat}(h:∀ j,j<n->f j=g j):wid f n r i=wid g n r i:=
 uy (aH1 (lf _) fun j hj=>Int.le_of_eq (h j hj)) (aH1 (lf _) fun j hj=>Int.le_of_eq (h j hj).symm)
structure Qu where
 m:Nat
 q:Nat->Nat
structure Wp (f:Nat->Int) (Q:Qu) (lo nx:Nat) (c:Prop):Prop where
 srt:∀ i j,i<j->j<Q.m->Q.q i<Q.q j
 fal:∀ i j,i<j->j<Q.m->f (Q.q j)<f (Q.q i)
 lt:∀ i,i<Q.m->Q.q i<nx
 cov:∀ j,lo<=j->j<nx->(∃ i,i<Q.m/\j<=Q.q i/\f j<=f (Q.q i))\/(c/\f j<=f nx)
def Qu.pop (Q:Qu):Qu:=⟨Q.m-1,Q.q⟩
def Qu.front (Q:Qu):Qu:=⟨Q.m-1,fun i=>Q.q (i+1)⟩
def Qu.push (Q:Qu) (x:Nat):Qu:=⟨Q.m+1,fun i=>bif decide (i<Q.m) then Q.q i else x⟩
theorem Wp.nil (f:Nat->Int) (q:Nat->Nat):Wp f ⟨0,q⟩ 0 0 False:=⟨fun _ _ _ h=>absurd h (lw _),fun _ _ _ h=>absurd h (lw _),fun _ h=>absurd h (lw _),fun j _ h=>absurd h (lw _)⟩
theorem Wp.lo {f Q lo lo' nx c} (h:Wp f Q lo nx c) (hl:lo<=lo'):Wp f Q lo' nx c:=⟨h.srt,h.fal,h.lt,fun j h1 h2=>h.cov j (by omega) h2⟩
theorem Wp.open {f Q lo nx} (h:Wp f Q lo nx False):Wp f Q lo nx True:=⟨h.srt,h.fal,h.lt,fun j h1 h2=>(h.cov j h1 h2).elim .inl fun h=>h.1.elim⟩
theorem Wp.pop {f Q lo nx} (h:Wp f Q lo nx True) (hp:0<Q.m) (hl:f (Q.q (Q.m-1))<=f nx):Wp f Q.pop lo nx True:=by
 refine ⟨fun i j h1 h2=>?_,fun i j h1 h2=>?_,fun i hi=>?_,fun j h1 h2=>?_⟩
 ·have h2:j<Q.m-1:=h2; exact h.srt i j h1 (by omega)
 ·have h2:j<Q.m-1:=h2; exact h.fal i j h1 (by omega)
 ·have hi:i<Q.m-1:=hi; exact h.lt i (by omega)
 ·rcases h.cov j h1 h2 with ⟨i,h3,h4,h5⟩ | h3
  ·by_cases hi:i=Q.m-1
   ·subst hi; exact .inr ⟨trivial,by omega⟩
   ·exact .inl ⟨i,by show i<Q.m-1; omega,h4,h5⟩
  ·exact .inr h3
theorem Wp.push {f Q lo nx} (h:Wp f Q lo nx True) (hl:0<Q.m->f nx<f (Q.q (Q.m-1))):Wp f (Q.push nx) lo (nx+1) False:=by
 have old:∀ i,i<Q.m->(Q.push nx).q i=Q.q i:=fun i hi=>by show (bif decide (i<Q.m) then _ else _)=_; rw [lk hi]; rfl
 have new:(Q.push nx).q Q.m=nx:=by show (bif decide (Q.m<Q.m) then _ else _)=_; rw [lm (ul _)]; rfl
 have hm:(Q.push nx).m=Q.m+1:=rfl;refine ⟨fun i j h1 h2=>?_,fun i j h1 h2=>?_,fun i hi=>?_,fun j h1 h2=> .inl ?_⟩
 ·rw [hm] at h2;by_cases hj:j=Q.m
  ·rw [hj,new,old i (by omega)]; exact h.lt i (by omega)
  ·rw [old i (by omega),old j (by omega)]; exact h.srt i j h1 (by omega)
 ·rw [hm] at h2;by_cases hj:j=Q.m
  ·rw [hj,new,old i (by omega)];by_cases hi:i=Q.m-1
   ·rw [hi]; exact hl (by omega)
   ·have:=h.fal i (Q.m-1) (by omega) (by omega)
    have:=hl (by omega)
    omega
  ·rw [old i (by omega),old j (by omega)]; exact h.fal i j h1 (by omega)
 ·rw [hm] at hi;by_cases hj:i=Q.m
  ·rw [hj,new]; omega
  ·rw [old i (by omega)]; have:=h.lt i (by omega); omega
 ·by_cases hj:j=nx
  ·exact ⟨Q.m,by rw [hm]; omega,by rw [new]; omega,by rw [new,hj]; exact xC _⟩
  ·rcases h.cov j h1 (by omega) with ⟨i,h3,h4,h5⟩ | h3
   ·exact ⟨i,by rw [hm]; omega,by rw [old i h3]; exact h4,by rw [old i h3]; exact h5⟩
   ·exact ⟨Q.m,by rw [hm]; omega,by rw [new]; omega,by rw [new]; exact h3.2⟩
theorem Wp.front {f Q lo nx} (h:Wp f Q lo nx False) (hl:Q.q 0<lo):Wp f Q.front lo nx False:=by
 refine ⟨fun i j h1 h2=>?_,fun i j h1 h2=>?_,fun i hi=>?_,fun j h1 h2=>?_⟩
 ·have h2:j<Q.m-1:=h2; exact h.srt (i+1) (j+1) (by omega) (by omega)
 ·have h2:j<Q.m-1:=h2; exact h.fal (i+1) (j+1) (by omega) (by omega)
 ·have hi:i<Q.m-1:=hi; exact h.lt (i+1) (by omega)
 ·rcases h.cov j h1 h2 with ⟨i,h3,h4,h5⟩ | h3
  ·cases i with
   | zero=>omega
   | succ i=>exact .inl ⟨i,by show i<Q.m-1; omega,h4,h5⟩
  ·exact h3.1.elim
theorem Wp.some {f Q lo nx i} (h:Wp f Q lo nx False) (h1:lo<=i) (h2:i<nx):0<Q.m:=by
 rcases h.cov i h1 h2 with ⟨k,h3,_⟩ | h3
 ·omega
 ·exact h3.1.elim
theorem Wp.id {f Q lo nx c} (h:Wp f Q lo nx c):∀ i,i<Q.m->i<=Q.q i
 | 0,_=>lE _
 | i+1,hi=>by have:=h.srt i (i+1) (by omega) hi; have:=h.id i (by omega); omega
theorem Wp.le {f Q lo nx c} (h:Wp f Q lo nx c):Q.m<=nx:=by
 by_cases hm:Q.m=0
 ·omega
 ·have:=h.id (Q.m-1) (by omega); have:=h.lt (Q.m-1) (by omega); omega
theorem Wp.head {f Q n r i nx} (h:Wp f Q (i-r) nx False) (hi:i<n) (hnx:nx=min n (i+r+1)) (h0:i-r<=Q.q 0) (hf:∀ j,j<n->0<=f j):f (Q.q 0)=wid f n r i:=by
 have hp:=h.some (i:=i) (by omega) (by omega);have hlt:=h.lt 0 hp;refine uy (a13 (by omega) (by omega) (by omega)) (aR1 (hf _ (by omega)) fun j h1 h2 h3=>?_);rcases h.cov j (by omega) (by omega) with ⟨k,h4,h5,h6⟩ | h4
 ·by_cases hk:k=0
  ·subst hk; exact h6
  ·have:=h.fal 0 k (by omega) h4; omega
 ·exact h4.1.elim
end Wid
namespace Sx
open Go.RowKit
def cf3:SV->Prop
 | .int ..=>True
 | .bool _=>True
 | .lit _=>True
 | .str _=>True
 | _=>False
theorem bO5 {w w' X X' E E' sv v} (hf:cf3 sv) (h:R w X E sv v):R w' X' E' sv v:=by
 cases h<;>first | exact hf.elim | constructor
def bg9:SO->Prop
 | .row _ len n g _=>∀ i j,i<len->j<n->cf3 (g i j)
 | _=>False
theorem Rep.hide {X:Nat->Prop}{w w':World}{row:SO}{E:Env}(h:Rep w (Fr.of fun _=>False) [row] E w') (hx:∀ b,X b->b<w.heap.size) (hf:bg9 row):Rep w (Fr.of X) [row] E w':=by
 refine ⟨h.below,fun b hb=>⟨hx b hb,id⟩,h.nm,h.dom,fun k e he=>?_,h.low,h.inj⟩;have hk:k=0:=by have:=h.dom k e he; simpa using this
 subst hk;have hok:=h.ok 0 e he;have hrow:[row].getD 0 SO.dead=row:=rfl;rw [hrow] at hok ⊢;cases row<;>simp only [bg9] at hf
 rename_i ver len n g T;cases e with
 | blk b=>exact hok
 | slc ver' v us=>
  obtain ⟨h1,xs,h2,h3⟩:=hok;exact ⟨h1,xs,h2,fun i j hi hj=>⟨(h3 i j hi hj).1,bO5 (hf i j hi hj) (h3 i j hi hj).2⟩⟩
def bN4 (f:FuncId) {γ:Type}(dec:List SV->Option γ) (args:γ->List SV) (pre:γ->Prop) (row:γ->SO):FSpec:=
 { f:=f,eff:=false,run:=fun l H nm=>match aw3 H l with
   | some l'=>match dec l' with
     | some g=>some ⟨ac8.leArgs l' (args g)/\Ask (pre g),big [.dead] [nm] (.osl 0 0),.new (bigO [.dead] [nm] 0 (row g))⟩
     | none=>none
   | none=>none }
theorem a47 {P:Program}{specs:List FSpec}(hspecs:∀ s∈specs,aa9 P s) {eqs:List (TypeId×List CK)}(heqs:∀ t n,(t,n)∈eqs->EqOK P t n) (hm:P.follows .mixedOrders=true)
  {f:FuncId}{fn:Func}{body:Code}(hf:P.funcs[f]?=some fn) (hb:fn.body=some body) (_:al4 (effS specs) body=true) (hent:∀ args w,(callFunc f args).run P w = .ok (.enter f args) w)
  {γ:Type}{dec:List SV->Option γ}{args:γ->List SV}{pre:γ->Prop}{row:γ->SO}(A:γ->Ann) (k:γ->Nat) (hlen:∀ g,(args g).length<=fn.ntmps) (hflat:∀ g,bg9 (row g))
  (h:∀ g,pre g->vc P specs eqs fn.ntmps 0 false (A g) body (retN P fn (k g) (.osl 0 0) (row g)) ⟨ar0 0 (args g),[]⟩):aa9 P (bN4 f dec args pre row):=by
 refine ⟨hent,fun l H HF nm y he _ hrun=>?_,fun l H nm y hrun hp w0 X0 E w hrep hfree vals ha=>?_⟩
 ·simp only [bN4] at hrun ⊢;split at hrun
  case h_2=>cases hrun
  rename_i l' hl';rw [aK7 he hl'];exact hrun
 simp only [bN4] at hrun;split at hrun
 case h_2=>cases hrun
 rename_i l' hl';split at hrun
 case h_2=>cases hrun
 rename_i g hdec;cases hrun;obtain ⟨hle,⟨hpre⟩⟩:=hp;obtain ⟨hll,hle⟩:=ao6 hle;obtain ⟨p1,p2⟩:=az1 hrep hl';have hr:∀ i,i<l'.length->R w (fun _=>False) E0 (l'.getD i .any) (vals.getD i undef):=fun i hi=>p2 i _ (by omega) (ha.2 i (by omega))
 have hsz:=ha.1;have hxo:Xo (Fr.of fun _=>False) E0 []=fun _=>False:=by
  funext b;apply propext;exact ⟨fun hb=>hb.elim id (fun ⟨k,e,he,_⟩=>(nomatch he)),fun hb=>hb.elim⟩
 have hT:=al8 fn.ntmps vals (args g) w (fun _=>False) E0 (by omega) (hlen g) (fun i hi=>bB5 (fun _ hb=>hb) (hle i hi) (hr i (by omega)));refine am7 (w0:=w) (X0:=Fr.of fun _=>False) (G:=a15 P fn (k g) (.osl 0 0) (row g)) hf hb (aU4 (w0:=w) (X0:=Fr.of fun _=>False) hspecs heqs hm body (.inl rfl) (fun _=>rfl) (fun k hk=>absurd rfl hk) _ _ _ _ (h g hpre) (fun e s a w' hk hs=>?walk) _ w ?start) (fun s a w' hk _ hs=>?fin)
 case walk=>
  cases e with
  | normal=>exact ⟨s,hk,hs⟩
  | ret=>exact ⟨s,hk,hs⟩
  | exit id=>exact hk.elim
 case fin=>
   obtain ⟨E1,hrep1,htr⟩:=hs;unfold a15 at hk;split at hk
   case h_2=>exact hk.elim
   rename_i p l hres;obtain ⟨hp,hk⟩:=hk;obtain ⟨v,hv1,hv2⟩:=aj2 rfl hrep1 htr hres hp;split at hk
   case h_2=>exact hk.elim
   rename_i hal;have hal':(aa4 s.H [k g]).all ap7=true:=by simp only [aa4,xH,List.map_nil,lad,hal,List.all_nil,Bool.and_self]
   obtain ⟨p1,p2⟩:=hrep1.pick (ks:=[k g]) rfl hal';obtain ⟨p3,p4⟩:=p1.le (m:=0) hk.2 (fun k hk=>absurd rfl hk) (by simp [NmLe,uA (lE _)]);have hsv:=ah2 p4 (fun k ver v us he ver' hr=>av0 (p1.ok k _ he) hr) (ao0 hk.1 0) (bd8 p2 (hrep1.aU3 hal') hv2);have p5:=p3.hide (X:=Xo X0 E H) (fun b hb=>hrep.xlt b hb) (hflat g);refine ⟨v,hv1,v,rfl,Goes.bT7 hrep hfree p5 ?_⟩;cases hsv with
   | osl he hv=>exact .osl he hv
   | oslOld he hl hv=>exact .oslOld he hl hv
 case start=>
  refine ⟨E0,⟨Bel.refl _ _,fun b hb=>hb.elim,fun k e he=>(nomatch he),fun k e he=>(nomatch he),fun k e he=>(nomatch he),fun k e b he=>(nomatch he),fun k k' e e' b he=>(nomatch he)⟩,hT.1,ax6.nil _ _ _,fun t ht=>?_⟩;rw [hxo];exact hT.2 t ht
end Sx
section
open Go Go.Proofs
theorem Tw.func4:Tw.prog.funcs[4]?=Option.some Go.Proofs.Try.f4:=by first | (intros; kernel_rfl) | exact Try.func4
theorem Tw.func8:Tw.prog.funcs[8]?=Option.some Go.Proofs.Try.f8:=by first | (intros; kernel_rfl) | exact Try.func8
theorem Tw.func13:Tw.prog.funcs[13]?=Option.some Go.Proofs.Try.f13:=by first | (intros; kernel_rfl) | exact Try.func13
theorem Tw.func14:Tw.prog.funcs[14]?=Option.some Go.Proofs.Try.f14:=by first | (intros; kernel_rfl) | exact Try.func14
theorem Tw.func15:Tw.prog.funcs[15]?=Option.some Go.Proofs.Try.f15:=by first | (intros; kernel_rfl) | exact Try.func15
theorem Tw.func16:Tw.prog.funcs[16]?=Option.some Go.Proofs.Try.f16:=by first | (intros; kernel_rfl) | exact Try.func16
theorem Tw.func17:Tw.prog.funcs[17]?=Option.some Go.Proofs.Try.f17:=by first | (intros; kernel_rfl) | exact Try.func17
theorem Tw.func32:Tw.prog.funcs[32]?=Option.some Go.Proofs.Try.f32:=by first | (intros; kernel_rfl) | exact Try.func32
theorem Tw.func33:Tw.prog.funcs[33]?=Option.some Go.Proofs.Try.f33:=by first | (intros; kernel_rfl) | exact Try.func33
theorem Tw.func34:Tw.prog.funcs[34]?=Option.some Go.Proofs.Try.f34:=by first | (intros; kernel_rfl) | exact Try.func34
theorem Tw.func48:Tw.prog.funcs[48]?=Option.some Go.Proofs.Try.f48:=by first | (intros; kernel_rfl) | exact Try.func48
theorem Tw.func50:Tw.prog.funcs[50]?=Option.some Go.Proofs.Try.f50:=by first | (intros; kernel_rfl) | exact Try.func50
theorem Tw.func51:Tw.prog.funcs[51]?=Option.some Go.Proofs.Try.f51:=by first | (intros; kernel_rfl) | exact Try.func51
theorem Tw.func52:Tw.prog.funcs[52]?=Option.some Go.Proofs.Try.f52:=by first | (intros; kernel_rfl) | exact Try.func52
theorem Tw.func70:Tw.prog.funcs[70]?=Option.some Go.Proofs.Try.f70:=by first | (intros; kernel_rfl) | exact Try.func70
theorem Tw.func72:Tw.prog.funcs[72]?=Option.some Go.Proofs.Try.f72:=by first | (intros; kernel_rfl) | exact Try.func72
theorem Tw.func91:Tw.prog.funcs[91]?=Option.some Go.Proofs.Try.f91:=by first | (intros; kernel_rfl) | exact Try.func91
end
namespace Trp
open Go.RowKit Sx Num Aff Con Rga Wid
set_option maxRecDepth 100000
structure WiG where
 n:Nat
 f:Nat->Int
 r:Nat
def byS (n:Nat) (f:Nat->Int):SV:= .sl n 1 (fun j _=> .int .u8 (f j))
def byR (n:Nat) (f:Nat->Int):SO:= .row 0 n 1 (fun j _=> .int .u8 (f j)) 5
structure WiG.Ok (g:WiG):Prop where
 n:g.n<=1073741824
 r:g.r<=1073741824
 f:∀ j,j<g.n->0<=g.f j
def quR (Q:Qu):SO:= .row 0 Q.m 1 (fun j _=> .int .i64 (Q.q j)) 3
def wiO (g:WiG) (i:Nat):SO:=byR g.n (fun j=>bif decide (j<i) then wid g.f g.n g.r j else 0)
structure W1 where
 i:Nat
 nx:Nat
 Q:Qu
structure W2 where
 nx:Nat
 Q:Qu
def wiT (g:WiG) (i nx:Nat):List (Nat×SV):=[(0,byS g.n g.f),(1,.int .i64 g.r),(5,.osl 0 0),(6,.osl 1 0),(7,.int .i64 nx),(13,.int .i64 g.n),(14,.int .i64 i)]
def wiT8 (g:WiG) (i nx:Nat):List (Nat×SV):=[(0,byS g.n g.f),(1,.int .i64 g.r),(5,.osl 0 0),(6,.osl 1 0),(7,.int .i64 nx),(8,.int .i64 i),(13,.int .i64 g.n),(14,.int .i64 i)]
def wi1 (g:WiG):Inv:=⟨W1,fun s=>s.i<=g.n/\s.nx<=g.n/\s.nx<=s.i+g.r/\Wp g.f s.Q (s.i-g.r) s.nx False,fun s=>⟨wiT g s.i s.nx,[wiO g s.i,quR s.Q]⟩,fun s=>g.n-s.i⟩
def wi2 (g:WiG) (s:W1):Inv:=⟨W2,fun t=>s.i<g.n/\t.nx<=g.n/\t.nx<=s.i+g.r+1/\Wp g.f t.Q (s.i-g.r) t.nx False,fun t=>⟨wiT8 g s.i t.nx,[wiO g s.i,quR t.Q]⟩,fun t=>g.n-t.nx⟩
def wi3 (g:WiG) (s:W1) (t:W2):Inv:=⟨Qu,fun Q=>s.i<g.n/\t.nx<g.n/\t.nx<=s.i+g.r/\Wp g.f Q (s.i-g.r) t.nx True,fun Q=>⟨wiT8 g s.i t.nx,[wiO g s.i,quR Q]⟩,fun Q=>Q.m⟩
def wi4 (g:WiG) (s:W1):Inv:=⟨W2,fun t=>s.i<g.n/\t.nx=min g.n (s.i+g.r+1)/\Wp g.f t.Q (s.i-g.r) t.nx False,fun t=>⟨wiT8 g s.i t.nx,[wiO g s.i,quR t.Q]⟩,fun t=>t.Q.m⟩
def b87:FSpec:=bN4 91 (γ:=WiG) (fun | [.sl n _ f,.int _ r]=>some ⟨n,fun j=>Sx.intOf (f j 0),r.toNat⟩ | _=>none) (fun g=>[byS g.n g.f,.int .i64 g.r]) WiG.Ok
 (fun g=>byR g.n (wid g.f g.n g.r))
theorem two {p q X B C:Prop}(h1:p->X) (h2:p->q->B) (h3:¬ (p/\q)->C):(p->X/\(q->B)/\(¬ q->C))/\(¬ p->C):=⟨fun hp=>⟨h1 hp,h2 hp,fun hq=>h3 fun h=>hq h.2⟩,fun hp=>h3 fun h=>hp h.1⟩
theorem cb9:aa9 Tw.prog b87:=by
 refine a47 (specs:=[]) (ac7 trivial) (eqs:=[]) (fun _ _ h=>(lx h).elim) Aff.mixed Tw.func91 rfl (by kernel_rfl) (fun _ _=>by kernel_rfl) (fun g=>(⟨[(5,.nest (wi1 g) (fun s=>[(7,.nest (wi2 g s) (fun t=>[(9,.inv (wi3 g s t))])),(12,.inv (wi4 g s))]))],[(4,[.own 6 3 1]),(1000010,[.shrink 6]),(1000013,[.shrink 6])]⟩:Ann)) (fun g=>0) (fun g=>li (by kernel_rfl)) (fun _ _ _ _ _=>trivial) ?_;rintro g hg;refine af7 (B:=let T2:=fun p:Prop=>True/\True/\p;let T3:=fun p:Prop=>True/\True/\True/\p;let T4:=fun p:Prop=>True/\True/\True/\True/\p;let U:=Int.ofNat;let J:=Int.toNat;let K:=Br;let A:=Sx.Ask;let z22:=(0:Nat);let z21:=(1:Nat);let z19:=(↑g.r:Int);let z15:=(IntKind.u8=IntKind.u8);let z14:=(1:Int);let z13:=(↑g.n:Int);let z10:=(-9223372036854775808:Int);let z9:=(9223372036854775807:Int);let z8:=(0:Int);let z2:=(A (g.n=g.n)/\∀ i:Nat,i<g.n->True/\A z15/\A (g.f i=g.f i));let z1:=(IntKind.i64=IntKind.i64);let q1:=fun p:Int=>A z1/\A (p=p);let z5:=(q1 z13);let z4:=(q1 z19);T3 (A (z8<=z13/\z13<=z13/\(↑z21:Int)*z13<=(140737488355328:Int)/\z13<=z9)/\T4 (T2 ((∃ g_1:W1,A ((wi1 g).pre g_1)/\(z2/\z4/\T2 ((A z1/\A (z8=(↑g_1.nx:Int)))/\z5/\(A z1/\A (z8=(↑g_1.i:Int)))/\True))/\(A (z13.toNat=g.n)/\∀ i:Nat,i<g.n->True/\A z15/\A (z8=bif decide (i<g_1.i) then Wid.wid g.f g.n g.r i else z8))/\(A (z22=g_1.Q.m)/\∀ i:Nat,i<g_1.Q.m->True/\False)/\True)/\∀ g_1:W1,let z25:=(wi2 g g_1);let z24:=(wi4 g g_1);let z7:=(↑g_1.i:Int);let z3:=(q1 z7);let z0:=(A (g.n=g.n)/\∀ i:Nat,i<g.n->True/\A z15/\A ((bif decide (i<g_1.i) then Wid.wid g.f g.n g.r i else z8)=bif decide (i<g_1.i) then Wid.wid g.f g.n g.r i else z8)); (wi1 g).pre g_1->True/\K (decide (z7<z13)) (T2 ((∃ g_2:W2,A (z25.pre g_2)/\(z2/\z4/\T2 ((A z1/\A ((↑g_1.nx:Int)=(↑g_2.nx:Int)))/\z3/\z5/\z3/\True))/\z0/\(A (g_1.Q.m=g_2.Q.m)/\∀ i:Nat,i<g_2.Q.m->True/\A z1/\A ((↑(g_1.Q.q i):Int)=(↑(g_2.Q.q i):Int)))/\True)/\∀ g_2:W2,let z26:=(wi3 g g_1 g_2);let z11:=(↑g_2.nx:Int);let z20:=(z2/\z4/\T2 ((q1 z11)/\z3/\z5/\z3/\True));let z6:=(∃ g_3:W2,A (z24.pre g_3)/\(z2/\z4/\T2 ((A z1/\A (z11=(↑g_3.nx:Int)))/\z3/\z5/\z3/\True))/\z0/\(A (g_2.Q.m=g_3.Q.m)/\∀ i:Nat,i<g_3.Q.m->True/\A z1/\A ((↑(g_2.Q.q i):Int)=(↑(g_3.Q.q i):Int)))/\True); z25.pre g_2->T4 (True/\K (decide (z11<z13)) (T3 (A (z10<=z7+z19/\z7+z19<=z9)/\T2 (K (decide (z11<=z7+z19)) ((∃ g_3:Qu,A (z26.pre g_3)/\z20/\z0/\(A (g_2.Q.m=g_3.m)/\∀ i:Nat,i<g_3.m->True/\A z1/\A ((↑(g_2.Q.q i):Int)=(↑(g_3.q i):Int)))/\True)/\∀ g_3:Qu,let z16:=(g_3.m+z21<=(9223372036854775807:Nat)/\(g_3.m+z21)*(8:Nat)<=(140737488355328:Nat));let z12:=(↑g_3.m:Int);let z23:=(↑(g_3.q (z12-z14).toNat):Int); z26.pre g_3->T4 (K (decide (z8<z12)) (T4 (A (z10<=z12-z14/\z12-z14<=z9)/\A (z8<=z12-z14/\z12-z14<z12)/\A ((z12-z14).toNat<g_3.m)/\A (z8<=z23/\z23<z13)/\T3 (A (z8<=z11/\z11<z13)/\T3 (K (decide (g.f z23.toNat<=g.f z11.toNat)) (T3 (A (z10<=z12-z14/\z12-z14<=z9)/\A (z8<=U z22/\U z22<=z12-z14/\z12-z14<=U g_3.m/\U g_3.m<=z12)/\True/\∃ (g':Qu),A (z26.pre g')/\(z20/\z0/\(A ((z12-z14-U z22).toNat=g'.m)/\∀ i:Nat,i<g'.m->True/\A z1/\A ((↑(g_3.q i):Int)=(↑(g'.q i):Int)))/\True)/\A (z26.meas g'<z26.meas g_3))) (T3 (A z16/\T2 (A (z10<=z11+z14/\z11+z14<=z9)/\True/\∃ (g':W2),A (z25.pre g')/\((z2/\z4/\T2 ((A z1/\A (z11+z14=(↑g'.nx:Int)))/\z3/\z5/\z3/\True))/\z0/\(A (g_3.m+z21=g'.Q.m)/\∀ i:Nat,i<g'.Q.m->True/\A z1/\A ((bif decide (i<g_3.m) then (↑(g_3.q i):Int) else z11)=(↑(g'.Q.q i):Int)))/\True)/\A (z25.meas g'<z25.meas g_2)))))))) (T4 (A z16/\T2 (A (z10<=z11+z14/\z11+z14<=z9)/\True/\∃ (g':W2),A (z25.pre g')/\((z2/\z4/\T2 ((A z1/\A (z11+z14=(↑g'.nx:Int)))/\z3/\z5/\z3/\True))/\z0/\(A (g_3.m+z21=g'.Q.m)/\∀ i:Nat,i<g'.Q.m->True/\A z1/\A ((bif decide (i<g_3.m) then (↑(g_3.q i):Int) else z11)=(↑(g'.Q.q i):Int)))/\True)/\A (z25.meas g'<z25.meas g_2)))))) (z6/\∀ g_3:W2,let z17:=(↑(g_3.Q.q (J z8)):Int); z24.pre g_3->True/\A (z8<=z8/\z8<(↑g_3.Q.m:Int))/\A (J z8<g_3.Q.m)/\T2 (A (z10<=z7-z19/\z7-z19<=z9)/\True/\K (decide (z17<z7-z19)) (True/\A (z8<=U z21/\U z21<=U g_3.Q.m/\U g_3.Q.m<=U g_3.Q.m/\U g_3.Q.m<=(↑g_3.Q.m:Int))/\True/\∃ (g':W2),A (z24.pre g')/\((z2/\z4/\T2 ((A z1/\A ((↑g_3.nx:Int)=(↑g'.nx:Int)))/\z3/\z5/\z3/\True))/\z0/\(A ((U g_3.Q.m-U z21).toNat=g'.Q.m)/\∀ i:Nat,i<g'.Q.m->True/\A z1/\A ((↑(g_3.Q.q (z22+z21+i)):Int)=(↑(g'.Q.q i):Int)))/\True)/\A (z24.meas g'<z24.meas g_3)) (T4 (A (z8<=z8/\z8<(↑g_3.Q.m:Int))/\A (J z8<g_3.Q.m)/\A (z8<=z17/\z17<z13)/\True/\A (z8<=z7/\z7<z13)/\A (z7.toNat<g.n)/\A (z10<=z7+z14/\z7+z14<=z9)/\True/\∃ (g':W1),A ((wi1 g).pre g')/\((z2/\z4/\T2 ((A z1/\A ((↑g_3.nx:Int)=(↑g'.nx:Int)))/\z5/\(A z1/\A (z7+z14=(↑g'.i:Int)))/\True))/\(A (g.n=g.n)/\∀ i:Nat,i<g.n->True/\A z15/\A ((bif decide (i=z7.toNat/\z22<=z22/\z22<z22+z21) then g.f z17.toNat else bif decide (i<g_1.i) then Wid.wid g.f g.n g.r i else z8)=bif decide (i<g'.i) then Wid.wid g.f g.n g.r i else z8))/\(A (g_3.Q.m=g'.Q.m)/\∀ i:Nat,i<g'.Q.m->True/\A z1/\A ((↑(g_3.Q.q i):Int)=(↑(g'.Q.q i):Int)))/\True)/\A ((wi1 g).meas g'<(wi1 g).meas g_1)))))))) (True/\z6/\∀ g_3:W2,let z18:=(↑(g_3.Q.q (J z8)):Int); z24.pre g_3->True/\A (z8<=z8/\z8<(↑g_3.Q.m:Int))/\A (J z8<g_3.Q.m)/\T2 (A (z10<=z7-z19/\z7-z19<=z9)/\True/\K (decide (z18<z7-z19)) (True/\A (z8<=U z21/\U z21<=U g_3.Q.m/\U g_3.Q.m<=U g_3.Q.m/\U g_3.Q.m<=(↑g_3.Q.m:Int))/\True/\∃ (g':W2),A (z24.pre g')/\((z2/\z4/\T2 ((A z1/\A ((↑g_3.nx:Int)=(↑g'.nx:Int)))/\z3/\z5/\z3/\True))/\z0/\(A ((U g_3.Q.m-U z21).toNat=g'.Q.m)/\∀ i:Nat,i<g'.Q.m->True/\A z1/\A ((↑(g_3.Q.q (z22+z21+i)):Int)=(↑(g'.Q.q i):Int)))/\True)/\A (z24.meas g'<z24.meas g_3)) (T4 (A (z8<=z8/\z8<(↑g_3.Q.m:Int))/\A (J z8<g_3.Q.m)/\A (z8<=z18/\z18<z13)/\True/\A (z8<=z7/\z7<z13)/\A (z7.toNat<g.n)/\A (z10<=z7+z14/\z7+z14<=z9)/\True/\∃ (g':W1),A ((wi1 g).pre g')/\((z2/\z4/\T2 ((A z1/\A ((↑g_3.nx:Int)=(↑g'.nx:Int)))/\z5/\(A z1/\A (z7+z14=(↑g'.i:Int)))/\True))/\(A (g.n=g.n)/\∀ i:Nat,i<g.n->True/\A z15/\A ((bif decide (i=z7.toNat/\z22<=z22/\z22<z22+z21) then g.f z18.toNat else bif decide (i<g_1.i) then Wid.wid g.f g.n g.r i else z8)=bif decide (i<g'.i) then Wid.wid g.f g.n g.r i else z8))/\(A (g_3.Q.m=g'.Q.m)/\∀ i:Nat,i<g'.Q.m->True/\A z1/\A ((↑(g_3.Q.q i):Int)=(↑(g'.Q.q i):Int)))/\True)/\A ((wi1 g).meas g'<(wi1 g).meas g_1)))))))) (T3 ((True/\True)/\(A (g.n=g.n)/\∀ i:Nat,i<g.n->True/\A z15/\A ((bif decide (i<g_1.i) then Wid.wid g.f g.n g.r i else z8)=Wid.wid g.f g.n g.r i))/\True)))))) (by kernel_rfl) ?_;simp only [cln,ly,xb,xm];have hn:=hg.n;have hr:=hg.r;have hf:=hg.f;refine ⟨by omega,⟨⟨0,0,⟨0,fun _=>0⟩⟩,⟨lE _,lE _,lE _,by rw [Nat.zero_sub]; exact Wp.nil _ _⟩,⟨rfl,rfl⟩,fun i _=>rfl,rfl,fun i hi=>absurd hi (lw _)⟩,fun s hs=>?_⟩;obtain ⟨hi,hnx,hnr,hq⟩:=hs;refine ⟨fun hlt=>?_,fun hge=>fun i hi'=>?_⟩
 ·have hin:s.i<g.n:=by omega
  refine ⟨⟨⟨s.nx,s.Q⟩,⟨hin,hnx,xR hnr,hq⟩,rfl,rfl,fun _ _=>rfl⟩,fun t ht=>?_⟩
  ·obtain ⟨hi',hnx,hnr,hq⟩:=ht;have two5:∀ {p q X1 X2 X3 X4 X5 B C:Prop},(p->X1/\X2/\X3/\X4/\X5)->(p->q->B)->(¬ (p/\q)->C)->(p->X1/\X2/\X3/\X4/\X5/\(q->B)/\(¬ q->C))/\(¬ p->C):=fun h1 h2 h3=>⟨fun hp=>⟨(h1 hp).1,(h1 hp).2.1,(h1 hp).2.2.1,(h1 hp).2.2.2.1,(h1 hp).2.2.2.2,h2 hp,fun hq=>h3 fun h=>hq h.2⟩,fun hp=>h3 fun h=>hp h.1⟩
   refine two (fun h1=>by omega) (fun h1 h2=>⟨⟨t.Q,⟨hin,by omega,by omega,hq.open⟩,rfl,fun _ _=>rfl⟩,fun Q hQ=>?_⟩) (fun hex=>?_)
   ·obtain ⟨_,hnx',hnr',hp⟩:=hQ;have hle:=hp.le;have e1:((Q.m:Int)-1).toNat=Q.m-1:=by omega
    rw [e1];have hlast:0<Q.m->Q.q (Q.m-1)<t.nx:=fun h=>hp.lt _ (by omega)
    refine two5 (fun h1=>?_) (fun h1 h2=>?_) (fun hex=>?_)
    ·have:=hlast (by omega)
     omega
    ·refine ⟨by omega,by omega,Q.pop,⟨hin,hnx',hnr',hp.pop (by omega) h2⟩,⟨by show _=Q.m-1; omega,fun _ _=>rfl⟩,by show Q.m-1<Q.m; omega⟩
    ·refine ⟨by omega,by omega,⟨t.nx+1,Q.push t.nx⟩,⟨hin,hnx',Nat.succ_le_succ hnr',hp.push fun h=>?_⟩,⟨rfl,rfl,fun i _=>?_⟩,by show g.n-(t.nx+1)<g.n-t.nx; omega⟩
     ·have:¬ g.f (Q.q (Q.m-1))<=g.f t.nx:=fun hc=>hex ⟨by omega,hc⟩
      omega
     ·show _=(((bif decide (i<Q.m) then Q.q i else t.nx):Nat):Int);cases decide (i<Q.m)<;>rfl
   ·have enx:t.nx=min g.n (s.i+g.r+1):=by omega
    refine ⟨⟨⟨t.nx,t.Q⟩,⟨hin,enx,hq⟩,rfl,rfl,fun _ _=>rfl⟩,fun u hu=>?_⟩;obtain ⟨_,enx,hq⟩:=hu;have hpos:=hq.some (i:=s.i) (by omega) (by omega);have hle:=hq.le;have hhd:=hq.lt 0 hpos;have e0:Int.toNat 0=0:=rfl;rw [e0];refine ⟨by omega,hpos,by omega,fun h1=>?_,fun h1=>?_⟩
    ·exact ⟨by omega,⟨u.nx,u.Q.front⟩,⟨hin,enx,hq.front (by omega)⟩,⟨rfl,by show _=u.Q.m-1; omega,fun i _=>by rw [Nat.add_comm 1 i]; rfl⟩,by show u.Q.m-1<u.Q.m; omega⟩
    ·have hw:=hq.head hin enx (by omega) hf;refine ⟨by omega,hpos,by omega,by omega,hin,by omega,⟨s.i+1,u.nx,u.Q⟩,⟨hin,by show u.nx<=_; omega,by show u.nx<=s.i+1+_; omega,hq.lo (by show _<=s.i+1-g.r; omega)⟩,⟨⟨rfl,rfl⟩,fun i hi'=>?_,rfl,fun _ _=>rfl⟩,by show g.n-(s.i+1)<g.n-s.i; omega⟩;show _=bif decide (i<s.i+1) then _ else _
     rw [hw];by_cases h:i=s.i
     ·subst h;rw [lk ⟨rfl,lf _,uj⟩,lk (xF _)];rfl
     ·rw [lm (fun hc=>h hc.1),show decide (i<s.i+1)=decide (i<s.i) from xG.2 (by omega)];rfl
 ·rw [lk (show i<s.i by omega)];rfl
end Trp
namespace Tsp
open Go.RowKit Sx Num Aff Con Rga Gat Gar Wid Trp
set_option maxRecDepth 100000
structure SpG where
 w:Nat
 h:Nat
 c:Nat->Vec
 ink:Nat
 r:Nat
def ak9 (g:SpG) (y:Nat):Nat->Int:=wid (fun x=>g.c (y*g.w+x) g.ink) g.w g.r
def bf6 (g:SpG) (x:Nat):Nat->Int:=wid (fun y=>ak9 g y x) g.h g.r
def spr (g:SpG) (j:Nat):Int:=bf6 g (j % g.w) (j / g.w)
structure SpG.Ok (g:SpG):Prop where
 w:1<=g.w/\g.w<=4096
 h:1<=g.h/\g.h<=4096
 ink:g.ink<8
 r:g.r<=1073741824
 c:∀ i,i<g.w*g.h->0<=g.c i g.ink
def clR (w h:Nat) (c:Nat->Vec):SO:= .row 0 (w*h) 8 (fun i j=> .int .u8 (c i j)) 33
def byR (n:Nat) (f:Nat->Int):SO:=Trp.byR n f
structure SpS where
 y:Nat
 R:Nat->Int
def spH (g:SpG) (o R C:Nat->Int):List SO:=[clR g.w g.h g.c,byR (g.w*g.h) o,byR g.w R,byR g.h C]
def spT (g:SpG):List (Nat×SV):=[(0,.osl 0 0),(1,.int .i64 g.w),(2,.int .i64 g.h),(3,.int .i64 g.ink),(4,.int .i64 g.r),(11,.osl 1 0),(12,.osl 2 0),(13,.osl 3 0)]
def spT2 (g:SpG):List (Nat×SV):=[(0,.osl 0 0),(1,.int .i64 g.w),(2,.int .i64 g.h),(3,.int .i64 g.ink),(4,.int .i64 g.r),(11,.osl 1 0),(13,.osl 3 0)]
def zer:Nat->Int:=fun _=>0
def o1 (g:SpG) (y:Nat) (j:Nat):Int:=bif decide (j / g.w<y) then ak9 g (j / g.w) (j % g.w) else 0
def o2 (g:SpG) (x y:Nat) (j:Nat):Int:=bif decide (j % g.w<x\/j % g.w=x/\j / g.w<y) then bf6 g (j % g.w) (j / g.w) else ak9 g (j / g.w) (j % g.w)
def sp1 (g:SpG):Inv:=⟨SpS,fun s=>s.y<=g.h,fun s=>⟨spT g++[(27,.int .i64 g.h),(28,.int .i64 s.y)],spH g (o1 g s.y) s.R zer⟩,fun s=>g.h-s.y⟩
def sp2 (g:SpG) (s:SpS):Inv:=⟨Nat,fun x=>s.y<g.h/\x<=g.w,fun x=>⟨spT g++[(27,.int .i64 g.h),(28,.int .i64 s.y),(14,.int .i64 s.y),(32,.int .i64 g.w),(33,.int .i64 x)],
 spH g (o1 g s.y) (fun j=>bif decide (j<x) then g.c (s.y*g.w+j) g.ink else s.R j) zer⟩,fun x=>g.w-x⟩
def sp3 (g:SpG):Inv:=⟨SpS,fun s=>s.y<=g.w,fun s=>⟨spT2 g++[(60,.int .i64 g.w),(61,.int .i64 s.y)],[clR g.w g.h g.c,byR (g.w*g.h) (o2 g s.y 0),.dead,byR g.h s.R]⟩,fun s=>g.w-s.y⟩
def sp4 (g:SpG) (s:SpS):Inv:=⟨Nat,fun y=>s.y<g.w/\y<=g.h,fun y=>⟨spT2 g++[(60,.int .i64 g.w),(61,.int .i64 s.y),(16,.int .i64 s.y),(65,.int .i64 g.h),(66,.int .i64 y)],
 [clR g.w g.h g.c,byR (g.w*g.h) (o2 g s.y 0),.dead,byR g.h (fun j=>bif decide (j<y) then ak9 g j s.y else s.R j)]⟩,fun y=>g.h-y⟩
def sp5 (g:SpG) (s:SpS):Inv:=⟨Nat,fun y=>s.y<g.w/\y<=g.h,fun y=>⟨spT2 g++[(60,.int .i64 g.w),(61,.int .i64 s.y),(16,.int .i64 s.y),(83,.osl 4 0),(84,.int .i64 g.h),(85,.int .i64 y)],
 [clR g.w g.h g.c,byR (g.w*g.h) (o2 g s.y y),.dead,byR g.h (fun j=>ak9 g j s.y),byR g.h (bf6 g s.y)]⟩,fun y=>g.h-y⟩
theorem aA9 {w y x:Nat}(hx:x<w):(y*w+x) / w=y:=by rw [uk,Nat.mul_add_div (by omega),Nat.div_eq_of_lt hx,lV]
theorem aG1 {w y x:Nat}(hx:x<w):(y*w+x) % w=x:=by rw [uk,Nat.mul_add_mod,Nat.mod_eq_of_lt hx]
theorem bu8 {w:Nat}(hw:1<=w) (i:Nat):∃ a b,b<w/\i=a*w+b:=⟨i / w,i % w,xP _ hw,by rw [uk]; exact (Nat.div_add_mod i w).symm⟩
theorem bO9 {w a y:Nat}(h:a<y):a*w+w<=y*w:=by
 have:=lj w (show a+1<=y from h)
 rwa [lL,uC] at this
theorem bG6 {w a b y:Nat}(hb:b<w):(y*w<=a*w+b/\a*w+b<y*w+w)<->a=y:=by
 rcases xB a y with h | h | h
 ·have:=bO9 (w:=w) h; exact ⟨fun hc=>by omega,fun hc=>by omega⟩
 ·subst h; exact ⟨fun _=>rfl,fun _=>by omega⟩
 ·have:=bO9 (w:=w) h; exact ⟨fun hc=>by omega,fun hc=>by omega⟩
theorem b53 {w a b y x:Nat}(hb:b<w) (hx:x<w):a*w+b=y*w+x<->a=y/\b=x:=by
 constructor
 ·intro h;obtain rfl:a=y:=(bG6 hb).1 (by omega)
  exact ⟨rfl,by omega⟩
 ·rintro ⟨rfl,rfl⟩; rfl
theorem bP0 {w h a b:Nat}(hb:b<w) (ha:a<h):a*w+b<w*h:=by
 have:=bO9 (w:=w) ha
 rw [uk w h];omega
theorem bG7 {w h a b:Nat}(h1:a*w+b<w*h):a<h:=by
 rcases xX a h with h2 | h2
 ·exact h2
 ·have:=lj w h2
  rw [uk w h] at h1;omega
theorem bW0 {p:Prop}{inst:Decidable p}{α:Type}{a b c:α}(h1:p->a=c) (h2:¬ p->b=c):(bif @decide p inst then a else b)=c:=by
 by_cases h:p
 ·rw [lk h]; exact h1 h
 ·rw [lm h]; exact h2 h
def b89:FSpec:=af4 70 [.arg 0] (γ:=SpG) (fun l os=>match l,os with
  | [_,.int _ w,.int _ h,.int _ i,.int _ r],[.row _ _ _ f _]=>some ⟨w.toNat,h.toNat,fun i j=>Sx.intOf (f i j),i.toNat,r.toNat⟩
  | _,_=>none)
 (fun g=>[.osl 0 0,.int .i64 g.w,.int .i64 g.h,.int .i64 g.ink,.int .i64 g.r]) (fun g=>[clR g.w g.h g.c]) SpG.Ok (fun g=>byS (g.w*g.h) (spr g)) (fun g=>[clR g.w g.h g.c])
theorem cc1:aa9 Tw.prog b89:=by
 refine ae4 (specs:=[b87]) (ac7 (⟨cb9,trivial⟩)) (eqs:=[]) (fun _ _ h=>(lx h).elim) Aff.mixed Tw.func70 rfl (by kernel_rfl) (fun _ _=>by kernel_rfl) (fun g=>(⟨[(4,.nest (sp1 g) (fun s=>[(7,.inv (sp2 g s))])),(14,.nest (sp3 g) (fun s=>[(17,.inv (sp4 g s)),(22,.inv (sp5 g s))]))],[]⟩:Ann)) false (fun g=>li (by kernel_rfl)) ?_;rintro g hg;refine af7 (B:=let T2:=fun p:Prop=>True/\True/\p;let T3:=fun p:Prop=>True/\True/\True/\p;let T5:=fun p:Prop=>True/\True/\True/\True/\True/\p;let J:=Int.ofNat;let K:=Br;let A:=Sx.Ask;let z35:=(g.w*g.h);let z34:=(140737488355328:Int);let z31:=(1:Nat);let z30:=(↑g.ink:Int);let z29:=(g.h=g.h);let z27:=(1:Int);let z26:=(↑g.r:Int);let z23:=(0:Int);let z21:=(↑g.h:Int);let z16:=(0:Nat);let z15:=(↑z35:Int);let z12:=(g.w*g.h=g.w*g.h);let z10:=(-9223372036854775808:Int);let z9:=(↑g.w:Int);let z8:=(9223372036854775807:Int);let z4:=(IntKind.u8=IntKind.u8);let q4:=fun p:Int=>A z4/\A (p=p);let z14:=(A z29/\∀ i:Nat,i<g.h->True/\q4 (zer i));let z1:=(IntKind.i64=IntKind.i64);let q1:=fun p:Int=>A z1/\A (p=p);let z33:=(A z1/\A (z26=(↑z26.toNat:Int)));let z6:=(q1 z26);let z5:=(q1 z30);let z3:=(q1 z21);let z2:=(q1 z9);let z0:=(A z12/\∀ i:Nat,i<g.w*g.h->(chp True (fun j:Nat=>q4 (g.c i j)) 7)/\q4 (g.c i (7:Nat)));T3 (A (z23<=z15/\z15<=z15/\(↑z31:Int)*z15<=z34/\z15<=z8)/\T2 (A (z23<=z9/\z9<=z9/\(↑z31:Int)*z9<=z34/\z9<=z8)/\True/\A (z23<=z21/\z21<=z21/\(↑z31:Int)*z21<=z34/\z21<=z8)/\T3 (True/\(∃ g_1:SpS,A ((sp1 g).pre g_1)/\True/\(True/\z2/\z3/\z5/\z6/\T3 (z3/\(A z1/\A (z23=(↑g_1.y:Int)))/\True))/\z0/\(A (z15.toNat=g.w*g.h)/\∀ i:Nat,i<g.w*g.h->True/\A z4/\A (z23=o1 g g_1.y i))/\(A (z9.toNat=g.w)/\∀ i:Nat,i<g.w->True/\A z4/\A (z23=g_1.R i))/\(A (z21.toNat=g.h)/\∀ i:Nat,i<g.h->True/\A z4/\A (z23=zer i))/\True)/\∀ g_1:SpS,let z32:=(g_1.y*g.w);let z22:=(A z12/\∀ i:Nat,i<g.w*g.h->True/\q4 (o1 g g_1.y i));let z11:=(↑g_1.y:Int);let z24:=(q1 z11); (sp1 g).pre g_1->True/\K (decide (z11<z21)) (T5 ((∃ g_2:Nat,A ((sp2 g g_1).pre g_2)/\True/\(True/\z2/\z3/\z5/\z6/\T3 (z3/\z24/\z24/\z2/\(A z1/\A (z23=(↑g_2:Int)))/\True))/\z0/\z22/\(A (g.w=g.w)/\∀ i:Nat,i<g.w->True/\A z4/\A (g_1.R i=bif decide (i<g_2) then g.c (g_1.y*g.w+i) g.ink else g_1.R i))/\z14/\True)/\∀ g_2:Nat,let z25:=(fun (j:Nat)=>bif decide (j<g_2) then g.c (g_1.y*g.w+j) g.ink else g_1.R j);let z19:=(↑g_2:Int); (sp2 g g_1).pre g_2->True/\K (decide (z19<z9)) (T5 (T2 (A (z10<=z11*z9/\z11*z9<=z8)/\True/\A (z10<=z11*z9+z19/\z11*z9+z19<=z8)/\True/\A (z23<=z11*z9+z19/\z11*z9+z19<z15)/\A (z23<=z30/\z30<(↑(8:Nat):Int))/\K (decide (z16+z30.toNat*z31+z31<=(8:Nat))) (A ((z11*z9+z19).toNat<g.w*g.h)) False/\A (z23<=z19/\z19<z9)/\A (z19.toNat<g.w)/\A (z10<=z19+z27/\z19+z27<=z8)/\True/\∃ (g':Nat),A ((sp2 g g_1).pre g')/\True/\((True/\z2/\z3/\z5/\z6/\T3 (z3/\z24/\z24/\z2/\(A z1/\A (z19+z27=(↑g':Int)))/\True))/\z0/\z22/\(A (g.w=g.w)/\∀ i:Nat,i<g.w->True/\A z4/\A ((bif decide (i=z19.toNat/\z16<=z16/\z16<z16+z31) then g.c (z11*z9+z19).toNat (z16+z30.toNat*z31) else bif decide (i<g_2) then g.c (g_1.y*g.w+i) g.ink else g_1.R i)=bif decide (i<g') then g.c (g_1.y*g.w+i) g.ink else g_1.R i))/\z14/\True)/\A ((sp2 g g_1).meas g'<(sp2 g g_1).meas g_2)))) (T3 (A (z10<=z11*z9/\z11*z9<=z8)/\A (z23<=J z32/\J z32<=J z35/\J z35<=J z35/\J z35<=z15)/\T2 ((((A (g.w=g.w)/\∀ i:Nat,i<g.w->True/\A z4/\A ((bif decide (i<g_2) then g.c (g_1.y*g.w+i) g.ink else g_1.R i)=bif decide (i<g_2) then g.c (g_1.y*g.w+i) g.ink else g_1.R i))/\z33/\True)/\A (WiG.mk g.w z25 z26.toNat).Ok)/\True/\A (z10<=z11+z27/\z11+z27<=z8)/\True/\∃ (g':SpS),A ((sp1 g).pre g')/\True/\((True/\z2/\z3/\z5/\z6/\T3 (z3/\(A z1/\A (z11+z27=(↑g'.y:Int)))/\True))/\z0/\(A z12/\∀ i:Nat,i<g.w*g.h->True/\A z4/\A ((bif decide ((J z32).toNat<=i/\i<(J z32).toNat+g.w.min (J z35-J z32).toNat) then Wid.wid z25 g.w z26.toNat (i-(J z32).toNat) else o1 g g_1.y i)=o1 g g'.y i))/\(A (g.w=g.w)/\∀ i:Nat,i<g.w->True/\A z4/\A ((bif decide (i<g_2) then g.c (g_1.y*g.w+i) g.ink else g_1.R i)=g'.R i))/\z14/\True)/\A ((sp1 g).meas g'<(sp1 g).meas g_1)))))) (T2 ((∃ g_2:SpS,A ((sp3 g).pre g_2)/\True/\(True/\z2/\z3/\z5/\z6/\T2 (z2/\(A z1/\A (z23=(↑g_2.y:Int)))/\True))/\z0/\(A z12/\∀ i:Nat,i<g.w*g.h->True/\A z4/\A (o1 g g_1.y i=o2 g g_2.y z16 i))/\True/\(A z29/\∀ i:Nat,i<g.h->True/\A z4/\A (zer i=g_2.R i))/\True)/\∀ g_2:SpS,let z20:=(A z12/\∀ i:Nat,i<g.w*g.h->True/\q4 (o2 g g_2.y z16 i));let z13:=(↑g_2.y:Int);let z7:=(q1 z13); (sp3 g).pre g_2->True/\K (decide (z13<z9)) (T5 ((∃ g_3:Nat,A ((sp4 g g_2).pre g_3)/\True/\(True/\z2/\z3/\z5/\z6/\T2 (z2/\z7/\z7/\z3/\(A z1/\A (z23=(↑g_3:Int)))/\True))/\z0/\z20/\True/\(A z29/\∀ i:Nat,i<g.h->True/\A z4/\A (g_2.R i=bif decide (i<g_3) then ak9 g i g_2.y else g_2.R i))/\True)/\∀ g_3:Nat,let z28:=(fun (j:Nat)=>bif decide (j<g_3) then ak9 g j g_2.y else g_2.R j);let z17:=(↑g_3:Int); (sp4 g g_2).pre g_3->True/\K (decide (z17<z21)) (T5 (T2 (A (z10<=z17*z9/\z17*z9<=z8)/\True/\A (z10<=z17*z9+z13/\z17*z9+z13<=z8)/\A (z23<=z17*z9+z13/\z17*z9+z13<z15)/\A ((z17*z9+z13).toNat<g.w*g.h)/\A (z23<=z17/\z17<z21)/\A (z17.toNat<g.h)/\A (z10<=z17+z27/\z17+z27<=z8)/\True/\∃ (g':Nat),A ((sp4 g g_2).pre g')/\True/\((True/\z2/\z3/\z5/\z6/\T2 (z2/\z7/\z7/\z3/\(A z1/\A (z17+z27=(↑g':Int)))/\True))/\z0/\z20/\True/\(A z29/\∀ i:Nat,i<g.h->True/\A z4/\A ((bif decide (i=z17.toNat/\z16<=z16/\z16<z16+z31) then o2 g g_2.y z16 (z17*z9+z13).toNat else bif decide (i<g_3) then ak9 g i g_2.y else g_2.R i)=bif decide (i<g') then ak9 g i g_2.y else g_2.R i))/\True)/\A ((sp4 g g_2).meas g'<(sp4 g g_2).meas g_3)))) (T2 ((((A z29/\∀ i:Nat,i<g.h->True/\A z4/\A ((bif decide (i<g_3) then ak9 g i g_2.y else g_2.R i)=bif decide (i<g_3) then ak9 g i g_2.y else g_2.R i))/\z33/\True)/\A (WiG.mk g.h z28 z26.toNat).Ok)/\T2 ((∃ g_4:Nat,A ((sp5 g g_2).pre g_4)/\True/\(True/\z2/\z3/\z5/\z6/\T2 (z2/\z7/\z7/\True/\z3/\(A z1/\A (z23=(↑g_4:Int)))/\True))/\z0/\(A z12/\∀ i:Nat,i<g.w*g.h->True/\A z4/\A (o2 g g_2.y z16 i=o2 g g_2.y g_4 i))/\True/\(A z29/\∀ i:Nat,i<g.h->True/\A z4/\A ((bif decide (i<g_3) then ak9 g i g_2.y else g_2.R i)=ak9 g i g_2.y))/\(A z29/\∀ i:Nat,i<g.h->True/\A z4/\A (Wid.wid z28 g.h z26.toNat i=bf6 g g_2.y i))/\True)/\∀ g_4:Nat,let z18:=(↑g_4:Int); (sp5 g g_2).pre g_4->True/\K (decide (z18<z21)) (True/\A (z23<=z18/\z18<z21)/\A (z18.toNat<g.h)/\T5 (A (z10<=z18*z9/\z18*z9<=z8)/\True/\A (z10<=z18*z9+z13/\z18*z9+z13<=z8)/\True/\A (z23<=z18*z9+z13/\z18*z9+z13<z15)/\A ((z18*z9+z13).toNat<g.w*g.h)/\A (z10<=z18+z27/\z18+z27<=z8)/\True/\∃ (g':Nat),A ((sp5 g g_2).pre g')/\True/\((True/\z2/\z3/\z5/\z6/\T2 (z2/\z7/\z7/\True/\z3/\(A z1/\A (z18+z27=(↑g':Int)))/\True))/\z0/\(A z12/\∀ i:Nat,i<g.w*g.h->True/\A z4/\A ((bif decide (i=(z18*z9+z13).toNat/\z16<=z16/\z16<z16+z31) then bf6 g g_2.y z18.toNat else o2 g g_2.y g_4 i)=o2 g g_2.y g' i))/\True/\(A z29/\∀ i:Nat,i<g.h->True/\q4 (ak9 g i g_2.y))/\(A z29/\∀ i:Nat,i<g.h->True/\q4 (bf6 g g_2.y i))/\True)/\A ((sp5 g g_2).meas g'<(sp5 g g_2).meas g_4))) (A (z10<=z13+z27/\z13+z27<=z8)/\True/\∃ (g':SpS),A ((sp3 g).pre g')/\True/\((True/\z2/\z3/\z5/\z6/\T2 (z2/\(A z1/\A (z13+z27=(↑g'.y:Int)))/\True))/\z0/\(A z12/\∀ i:Nat,i<g.w*g.h->True/\A z4/\A (o2 g g_2.y g_4 i=o2 g g'.y z16 i))/\True/\(A z29/\∀ i:Nat,i<g.h->True/\A z4/\A (ak9 g i g_2.y=g'.R i))/\True)/\A ((sp3 g).meas g'<(sp3 g).meas g_2))))))) (T3 (True/\((A z12/\∀ i:Nat,i<g.w*g.h->True/\A z4/\A (o2 g g_2.y z16 i=spr g i))/\True)/\z0/\True)))))))) (by kernel_rfl) ?_;simp only [chp];simp only [cln,ly,xb,xm];have hw:=hg.w;have hh:=hg.h;have hi:=hg.ink;have hWH:g.w*g.h<=4096*4096:=uX hw.2 hh.2;have c0:∀ a:Nat,(a:Int)*(g.w:Int)=((a*g.w:Nat):Int):=fun a=>(Int.natCast_mul a g.w).symm
 have c1:∀ a b:Nat,((a*g.w:Nat):Int)+(b:Int)=((a*g.w+b:Nat):Int):=fun a b=>(Int.natCast_add _ _).symm
 have hr:=hg.r;simp only [c0,c1,ly];refine ⟨by omega,by omega,by omega,⟨⟨0,zer⟩,lE _,rfl,fun i _=>?_,fun _ _=>rfl,fun _ _=>rfl⟩,fun s hs=>⟨fun hlt=>⟨⟨0,⟨by omega,lE _⟩,rfl,fun _ _=>rfl⟩,fun x hx=>⟨fun hx1=>?_,fun hx1=>?_⟩⟩,fun hge=>⟨⟨⟨0,zer⟩,lE _,rfl,fun i hi=>?_,fun _ _=>rfl⟩,fun s3 hs3=>⟨fun hlt=>⟨⟨0,⟨by omega,lE _⟩,rfl,fun _ _=>rfl⟩,fun y hy=>⟨fun hy1=>?_,fun hy1=>?_⟩⟩,fun hge=>fun i hi=>?_⟩⟩⟩⟩
 ·show 0=bif decide (i / g.w<0) then _ else _
  rw [lm (lw _)];rfl
 ·obtain ⟨hy,hx⟩:=hx;have hx:x<g.w:=by omega
  have hin:=bP0 hx hy;refine ⟨by omega,by omega,by omega,by omega,⟨fun _=>hin,fun h=>h (by omega)⟩,by omega,hx,by omega,x+1,⟨hy,hx⟩,⟨rfl,fun i hi=>?_⟩,by show g.w-(x+1)<g.w-x; omega⟩;by_cases h:i=x
  ·subst h;rw [lk ⟨rfl,lf _,uj⟩,lk (xF _)];rfl
  ·rw [lm (fun hc=>h hc.1),show decide (i<x+1)=decide (i<x) from xG.2 (by omega)];rfl
 ·obtain ⟨hy,hx⟩:=hx;obtain rfl:x=g.w:=by omega
  have hrow:=bO9 (w:=g.w) hy;rw [uk g.h g.w] at hrow;have ef:∀ j,j<g.w->(bif decide (j<g.w) then g.c (s.y*g.w+j) g.ink else s.R j)=g.c (s.y*g.w+j) g.ink:=fun j hj=>by rw [lk hj]; rfl
  refine ⟨by omega,by omega,⟨by show g.w<=_; omega,hr,fun j hj=>?_⟩,by omega,⟨s.y+1,fun j=>bif decide (j<g.w) then g.c (s.y*g.w+j) g.ink else s.R j⟩,hy,⟨rfl,fun i hi=>?_,fun _ _=>rfl⟩,by show g.h-(s.y+1)<g.h-s.y; omega⟩
  ·have hj:j<g.w:=hj;show 0<=bif decide (j<g.w) then _ else _
   rw [ef j hj];exact hg.c _ (bP0 hj hy)
  ·obtain ⟨a,b,hb,rfl⟩:=bu8 hw.1 i;have em:g.w.min (((g.w*g.h:Nat):Int)-((s.y*g.w:Nat):Int)).toNat=g.w:=ui (by omega);refine bW0 (fun h=>?_) (fun h=>?_)
   ·rw [em] at h;obtain rfl:=(bG6 hb).1 h
    show _=bif decide ((s.y*g.w+b) / g.w<s.y+1) then ak9 g ((s.y*g.w+b) / g.w) ((s.y*g.w+b) % g.w) else 0
    rw [aA9 hb,aG1 hb,lk (xF _),show s.y*g.w+b-s.y*g.w=b by omega,a14 ef];rfl
   ·rw [em] at h;have h:a≠s.y:=fun hc=>h ((bG6 hb).2 hc)
    unfold o1;rw [aA9 hb,show decide (a<s.y+1)=decide (a<s.y) from xG.2 (by omega)]
 ·have hsy:s.y<=g.h:=hs;obtain ⟨a,b,hb,rfl⟩:=bu8 hw.1 i;have:=bG7 hi
  unfold o1 o2;rw [aA9 hb,aG1 hb,lk (show a<s.y by omega),lm (show ¬ (b<0\/b=0/\a<0) by omega)];rfl
 ·obtain ⟨hx,hy⟩:=hy;have hy:y<g.h:=by omega
  have hin:=bP0 hx hy;refine ⟨by omega,by omega,by omega,hin,by omega,hy,by omega,y+1,⟨hx,hy⟩,⟨rfl,fun i hi=>?_⟩,by show g.h-(y+1)<g.h-y; omega⟩;by_cases h:i=y
  ·subst h;rw [lk ⟨rfl,lf _,uj⟩,lk (xF _)];unfold o2;rw [aA9 hx,aG1 hx,lm (show ¬ (s3.y<s3.y\/s3.y=s3.y/\i<0) by omega)];rfl
  ·rw [lm (fun hc=>h hc.1),show decide (i<y+1)=decide (i<y) from xG.2 (by omega)];rfl
 ·obtain ⟨hx,hy⟩:=hy;obtain rfl:y=g.h:=by omega
  have ef:∀ j,j<g.h->(bif decide (j<g.h) then ak9 g j s3.y else s3.R j)=ak9 g j s3.y:=fun j hj=>by rw [lk hj]; rfl
  refine ⟨⟨by show g.h<=_; omega,hr,fun j hj=>?_⟩,⟨0,⟨hx,lE _⟩,rfl,fun _ _=>rfl,ef,fun i _=>by rw [a14 ef]; rfl⟩,fun y hy=>⟨fun hy1=>?_,fun hy1=>?_⟩⟩
  ·have hj:j<g.h:=hj;show 0<=bif decide (j<g.h) then _ else _
   rw [ef j hj];exact bj3 _ _ _ _
  ·have hy:y<g.h:=by omega
   have hin:=bP0 hx hy;refine ⟨by omega,hy,by omega,by omega,by omega,hin,by omega,y+1,⟨hx,hy⟩,⟨rfl,fun i hi=>?_⟩,by show g.h-(y+1)<g.h-y; omega⟩;obtain ⟨a,b,hb,rfl⟩:=bu8 hw.1 i;unfold o2;rw [aA9 hb,aG1 hb];by_cases h:a=y/\b=s3.y
   ·obtain ⟨rfl,rfl⟩:=h;rw [lk ⟨rfl,lf _,uj⟩,lk (show s3.y<s3.y\/s3.y=s3.y/\a<a+1 by omega)];rfl
   ·rw [lm (fun hc=>h ((b53 hb hx).1 hc.1)),show decide (b<s3.y\/b=s3.y/\a<y+1)=decide (b<s3.y\/b=s3.y/\a<y) from xG.2 (by omega)];rfl
  ·have hyh:y<=g.h:=hy.2;refine ⟨by omega,⟨s3.y+1,fun j=>ak9 g j s3.y⟩,hx,⟨rfl,fun i hi=>?_,fun _ _=>rfl⟩,by show g.w-(s3.y+1)<g.w-s3.y; omega⟩;obtain ⟨a,b,hb,rfl⟩:=bu8 hw.1 i;have:=bG7 hi
   unfold o2;rw [aA9 hb,aG1 hb,show decide (b<s3.y\/b=s3.y/\a<y)=decide (b<s3.y+1\/b=s3.y+1/\a<0) from xG.2 (by omega)]
 ·have hsy:s3.y<=g.w:=hs3;obtain ⟨a,b,hb,rfl⟩:=bu8 hw.1 i;unfold o2 spr;rw [aA9 hb,aG1 hb,lk (show b<s3.y\/b=s3.y/\a<0 by omega)];rfl
end Tsp
namespace Tpn
open _root_.Go.Proofs.Ytbkgncikjhibiaa.Hid
open Go.RowKit Sx Num Aff Con Rga Gat Gar Wid Trp Tsp
set_option maxRecDepth 100000
structure PlG where
 w:Nat
 h:Nat
 c:Nat->Vec
 m:Nat
 o:Nat->Nat
 r:Nat
def PlG.sp (g:PlG) (k:Nat):SpG:=⟨g.w,g.h,g.c,g.o k,g.r⟩
structure PlG.Ok (g:PlG):Prop where
 m:g.m<=8
 w:1<=g.w/\g.w<=4096
 h:1<=g.h/\g.h<=4096
 o:∀ k,k<g.m->g.o k<8
 r:g.r<=1073741824
 c:∀ i j,i<g.w*g.h->j<8->0<=g.c i j
theorem PlG.Ok.sp {g:PlG}(h:g.Ok) {k:Nat}(hk:k<g.m):(g.sp k).Ok:=⟨h.w,h.h,h.o k hk,h.r,fun i hi=>h.c i _ hi (h.o k hk)⟩
def orS (m:Nat) (o:Nat->Nat):SV:= .sl m 1 (fun k _=> .int .i64 (o k))
def plS (g:PlG) (k i:Nat):SV:=byS (bif decide (i<k) then g.w*g.h else 0) (spr (g.sp i))
def plR (g:PlG) (k:Nat):SO:= .row 0 g.m 1 (fun i _=>plS g k i) 92
def wiS (g:PlG):SV:= .sl g.m 1 (fun i _=>byS (g.w*g.h) (spr (g.sp i)))
def pl1 (g:PlG):Inv:=⟨Nat,fun k=>k<=g.m,fun k=>⟨[(0,.osl 0 0),(1,.int .i64 g.w),(2,.int .i64 g.h),(3,orS g.m g.o),(4,.int .i64 g.r),(18,.int .i64 g.m),(19,.osl 6 0),(29,.int .i64 k)],
 [clR g.w g.h g.c,.dead,.dead,.dead,.dead,.dead,plR g k]⟩,fun k=>g.m-k⟩
theorem _root_.Go.Proofs.Ytbkgncikjhibiaa.Tw.func49:Tw.prog.funcs[49]?=some { Try.f49 with body:=some as4 }:=by kernel_rfl
def spPl:FSpec:=af4 49 [.arg 0] (γ:=PlG) (fun l os=>match l,os with
  | [_,.int _ w,.int _ h,.sl m _ o,.int _ r,_],[.row _ _ _ f _]=>some ⟨w.toNat,h.toNat,fun i j=>Sx.intOf (f i j),m,fun k=>(Sx.intOf (o k 0)).toNat,r.toNat⟩
  | _,_=>none)
 (fun g=>[.osl 0 0,.int .i64 g.w,.int .i64 g.h,orS g.m g.o,.int .i64 g.r,.int .i64 1]) (fun g=>[clR g.w g.h g.c]) PlG.Ok wiS (fun g=>[clR g.w g.h g.c])
theorem ok_pl:aa9 Tw.prog spPl:=by
 refine ae4 (specs:=[b89]) (ac7 (⟨cc1,trivial⟩)) (eqs:=[]) (fun _ _ h=>(lx h).elim) Aff.mixed Tw.func49 rfl (by kernel_rfl) (fun _ _=>by kernel_rfl) (fun g=>(⟨[(10,.inv (pl1 g))],[]⟩:Ann)) false (fun g=>li (by kernel_rfl)) ?_;rintro g hg;refine af7 (B:=let T5:=fun p:Prop=>True/\True/\True/\True/\True/\p;let A:=Sx.Ask;let z10:=(↑g.r:Int);let z9:=(↑g.h:Int);let z8:=(↑g.w:Int);let z7:=(0:Nat);let z5:=(↑g.m:Int);let z2:=(IntKind.i64=IntKind.i64);let q2:=fun p:Int=>A z2/\A (p=p);let z4:=(A (g.m=g.m)/\∀ i:Nat,i<g.m->True/\q2 ((↑(g.o i):Int)));let z1:=(IntKind.u8=IntKind.u8);let q1:=fun p:Int=>A z1/\A (p=p);let z0:=(A (g.w*g.h=g.w*g.h)/\∀ i:Nat,i<g.w*g.h->(chp True (fun j:Nat=>q1 (g.c i j)) 7)/\q1 (g.c i (7:Nat)));T5 (True/\True/\Br (decide (z5<=(8:Int))) (T5 (True/\A ((0:Int)<=z5/\z5<=z5/\(↑(24:Nat):Int)*z5<=(140737488355328:Int)/\z5<=(9223372036854775807:Int))/\T5 ((∃ g_1:Nat,A ((pl1 g).pre g_1)/\True/\(True/\(q2 z8)/\(q2 z9)/\z4/\(q2 z10)/\(q2 z5)/\True/\(A z2/\A ((0:Int)=(↑g_1:Int)))/\True)/\z0/\T5 ((A (z5.toNat=g.m)/\∀ i:Nat,i<g.m->True/\A ((bif decide (i<g_1) then g.w*g.h else z7)=z7))/\True))/\∀ g_1:Nat,let z3:=(↑g_1:Int);let z12:=(↑(g.o z3.toNat):Int);let z6:=(SpG.mk z8.toNat z9.toNat g.c z12.toNat z10.toNat); (pl1 g).pre g_1->True/\Br (decide (z3<z5)) (A ((0:Int)<=z3/\z3<z5)/\True/\((True/\(True/\(A z2/\A (z8=(↑z8.toNat:Int)))/\(A z2/\A (z9=(↑z9.toNat:Int)))/\(A z2/\A (z12=(↑z12.toNat:Int)))/\(A z2/\A (z10=(↑z10.toNat:Int)))/\True)/\(A (g.w*g.h=z8.toNat*z9.toNat)/\∀ i:Nat,i<z8.toNat*z9.toNat->(chp True (fun j:Nat=>q1 (g.c i j)) 7)/\q1 (g.c i (7:Nat)))/\True)/\A z6.Ok)/\A ((0:Int)<=z3/\z3<z5)/\A (z3.toNat<g.m)/\A ((-9223372036854775808:Int)<=z3+(1:Int)/\z3+(1:Int)<=(9223372036854775807:Int))/\True/\∃ (g':Nat),A ((pl1 g).pre g')/\True/\((True/\(q2 z8)/\(q2 z9)/\z4/\(q2 z10)/\(q2 z5)/\True/\(A z2/\A (z3+(1:Int)=(↑g':Int)))/\True)/\(A (z8.toNat*z9.toNat=g.w*g.h)/\∀ i:Nat,i<g.w*g.h->(chp True (fun j:Nat=>q1 (g.c i j)) 7)/\q1 (g.c i (7:Nat)))/\T5 ((A (g.m=g.m)/\∀ i:Nat,let z11:=(i=z3.toNat/\z7<=z7/\z7<z7+(1:Nat)); i<g.m->True/\A ((bif decide z11 then z8.toNat*z9.toNat else bif decide (i<g_1) then g.w*g.h else z7)=bif decide (i<g') then g.w*g.h else z7)/\∀ i_1:Nat,(i_1<bif decide (i<g') then g.w*g.h else z7)->True/\A z1/\A ((bif decide z11 then spr z6 i_1 else spr (g.sp i) i_1)=spr (g.sp i) i_1))/\True))/\A ((pl1 g).meas g'<(pl1 g).meas g_1)) (True/\True/\True/\((A (g.m=g.m)/\∀ i:Nat,i<g.m->True/\A ((bif decide (i<g_1) then g.w*g.h else z7)=g.w*g.h)/\∀ i_1:Nat,i_1<g.w*g.h->True/\q1 (spr (g.sp i) i_1))/\True)/\z0/\True)))) False)) (by kernel_rfl) ?_;simp only [chp];simp only [cln,ly,xb,xm];have hm:=hg.m;refine ⟨fun _=>⟨by omega,⟨0,lE _,rfl,fun i _=>?_⟩,fun k hk=>⟨fun hlt=>?_,fun hge i hi=>?_⟩⟩,fun h=>h (by omega)⟩
 ·rw [lm (lw _)]; rfl
 ·have hkm:k<g.m:=by omega
  refine ⟨by omega,hg.sp hkm,by omega,hkm,by omega,k+1,hkm,⟨rfl,fun i hi=>?_⟩,by show g.m-(k+1)<g.m-k; omega⟩;by_cases h:i=k
  ·subst h;rw [lk ⟨rfl,lf _,uj⟩,lk (xF _)];exact ⟨rfl,fun _ _=>rfl⟩
  ·rw [lm (fun hc=>h hc.1),show decide (i<k+1)=decide (i<k) from xG.2 (by omega)];exact ⟨rfl,fun _ _=>rfl⟩
 ·rw [lk (show i<k by omega)]; rfl
end Tpn
namespace Tco
open Go.RowKit Sx Num Aff Con Rga Rgl Rgm Rgn Rgc Gat Gar Ows Apl Apt Tpn
set_option maxRecDepth 100000
structure CoG where
 P:Pcs
 m:Nat
 o:Nat->Nat
structure CoG.Ok (g:CoG):Prop where
 n:g.P.n<=4096
 m:g.m<=8
 o:∀ k,k<g.m->g.o k<8
 d:∀ i j,i<j->j<g.m->g.o i≠g.o j
 c:∀ k j,k<g.P.n->j<8->g.P.ink k j≠0->∃ i,i<g.m/\g.o i=j
def kn (o:Nat->Nat):Nat->Nat->Bool
 | 0,_=>false
 | k+1,j=>kn o k j||decide (o k=j)
theorem bE4 {o:Nat->Nat}{j:Nat}:∀ {k},kn o k j=true<->∃ i,i<k/\o i=j
 | 0=>⟨fun h=>(by cases h),fun ⟨_,h,_⟩=>absurd h (lw _)⟩
 | k+1=>by
  unfold kn;rw [xe,bE4,lM];constructor
  ·rintro (⟨i,h1,h2⟩ | h)
   ·exact ⟨i,by omega,h2⟩
   ·exact ⟨k,by omega,h⟩
  ·rintro ⟨i,h1,h2⟩;by_cases h:i=k
   ·exact .inr (h▸h2)
   ·exact .inl ⟨i,by omega,h2⟩
def knO (g:CoG) (k:Nat):SO:= .cells 8 (fun j=> .bool (kn g.o k j)) 116
def co1 (g:CoG):Inv:=⟨Nat,fun k=>k<=g.m,fun k=>⟨[(0,pcS g.P),(5,.own 0 0),(15,orS g.m g.o),(16,.int .i64 g.m),(17,.int .i64 k)],[knO g k]⟩,fun k=>g.m-k⟩
def coT (g:CoG) (k:Nat) (s:SV):St:=⟨[(0,pcS g.P),(5,.own 0 0),(7,s),(15,orS g.m g.o),(16,.int .i64 g.m),(17,.int .i64 k)],[knO g k]⟩
def coI (g:CoG) (k:Nat):Inv:=⟨Unit,fun _=>k<g.m/\g.o k<8,fun _=>coT g k (.int .i64 (g.o k)),fun _=>0⟩
def coJ (g:CoG) (k j:Nat):Inv:=⟨Unit,fun _=>k<g.m/\g.o k=j,fun _=>coT g k (.int .i64 j),fun _=>0⟩
def coJs (g:CoG) (k:Nat):List Inv:=[coJ g k 0,coJ g k 1,coJ g k 2,coJ g k 3,coJ g k 4,coJ g k 5,coJ g k 6,coJ g k 7]
theorem b40 (g:CoG) (k:Nat):bp1 55 0 (coI g k) (coJs g k):=by
 rintro _ ⟨h1,h2⟩ w0 X0 a w _ h;have h:StR w0 X0 55 (coT g k (.int .i64 (g.o k))) a w:=h;have key:∀ j,g.o k=j->∃ h,(coJ g k j).pre h/\StR w0 X0 55 ((coJ g k j).st h) a w:=fun j hj=>⟨(),⟨h1,hj⟩,by subst hj; exact h⟩
 have h8:g.o k=0\/g.o k=1\/g.o k=2\/g.o k=3\/g.o k=4\/g.o k=5\/g.o k=6\/g.o k=7:=by omega
 rcases h8 with h | h | h | h | h | h | h | h<;>exact ⟨_,by simp [coJs],key _ h⟩
def coK (g:CoG):Inv:=⟨Nat,fun k=>k<=g.P.n,fun k=>⟨[(5,.own 0 0),(33,pcS g.P),(34,.int .i64 g.P.n),(35,.int .i64 k)],[knO g g.m]⟩,fun k=>g.P.n-k⟩
def coS (g:CoG) (k:Nat) (j:Nat):St:=⟨[(5,.own 0 0),(33,pcS g.P),(34,.int .i64 g.P.n),(35,.int .i64 k),(40,.agg 8 (fun j=> .int .u8 (g.P.ink k j))),(41,.int .i64 j)],[knO g g.m]⟩
def coC (g:CoG) (k:Nat):Inv:=⟨Nat,fun j=>k<g.P.n/\j<=8,fun j=>coS g k j,fun j=>8-j⟩
def spCo:FSpec:=ac8 48 (γ:=CoG) (fun | [s,.sl m _ o]=>some ⟨pcD s,m,fun k=>(Sx.intOf (o k 0)).toNat⟩ | _=>none) (fun g=>[pcS g.P,orS g.m g.o]) CoG.Ok (fun _=> .int .i64 0)
theorem ok_co:aa9 Tw.prog spCo:=by
 refine ab0 (specs:=[]) (ac7 trivial) (eqs:=[]) (fun _ _ h=>(lx h).elim) Aff.mixed Tw.func48 rfl (by kernel_rfl) (fun _ _=>by kernel_rfl) (fun g=>(⟨[(5,.nest (co1 g) (fun k=>[(5000009,.hand (coI g k) (coJs g k))])),(14,.nest (coK g) (fun k=>[(17,.inv (coC g k))]))],[]⟩:Ann)) (fun g=>li (by kernel_rfl)) ?_;rintro g hg;refine af7 (B:=let K:=Br;let A:=Sx.Ask;let z39:=(↑g.m:Int);let z29:=(9223372036854775807:Int);let z28:=(-9223372036854775808:Int);let z24:=(1:Int);let z20:=(0:Int);let z18:=(7:Nat);let z17:=(6:Nat);let z16:=(5:Nat);let z15:=(4:Nat);let z14:=(3:Nat);let z13:=(2:Nat);let z11:=(1:Nat);let z10:=(↑(8:Nat):Int);let z37:=(z20<=(↑z18:Int)/\(↑z18:Int)<z10);let z36:=(z20<=(↑z17:Int)/\(↑z17:Int)<z10);let z35:=(z20<=(↑z16:Int)/\(↑z16:Int)<z10);let z34:=(z20<=(↑z15:Int)/\(↑z15:Int)<z10);let z33:=(z20<=(↑z14:Int)/\(↑z14:Int)<z10);let z32:=(z20<=(↑z13:Int)/\(↑z13:Int)<z10);let z31:=(z20<=(↑z11:Int)/\(↑z11:Int)<z10);let z9:=(0:Nat);let z38:=(z20<=(↑z9:Int)/\(↑z9:Int)<z10);let z25:=(z9=z9);let z6:=(IntKind.u8=IntKind.u8);let q6:=fun p:Int=>A z6/\A (p=p);let z2:=(IntKind.i64=IntKind.i64);let q2:=fun p:Int=>A z2/\A (p=p);let z12:=(q2 ((↑g.P.n:Int)));let z8:=(True/\True/\A z2/\A ((7:Int)=z20));let z7:=(q2 z39);let z3:=(A (g.m=g.m)/\∀ i:Nat,i<g.m->True/\q2 ((↑(g.o i):Int)));let z1:=((((((((True/\A (kn g.o g.m z9=kn g.o g.m z9))/\A (kn g.o g.m z11=kn g.o g.m z11))/\A (kn g.o g.m z13=kn g.o g.m z13))/\A (kn g.o g.m z14=kn g.o g.m z14))/\A (kn g.o g.m z15=kn g.o g.m z15))/\A (kn g.o g.m z16=kn g.o g.m z16))/\A (kn g.o g.m z17=kn g.o g.m z17))/\A (kn g.o g.m z18=kn g.o g.m z18));let z0:=(A (g.P.n=g.P.n)/\∀ i:Nat,i<g.P.n->(chp (True/\A (g.P.m i=g.P.m i)/\∀ i_1:Nat,let z30:=(g.P.p i i_1); i_1<g.P.m i->((True/\q2 z30.y)/\q2 z30.x0)/\q2 z30.x1) (fun j:Nat=>q6 (g.P.ink i j)) 7)/\q6 (g.P.ink i z18));True/\True/\True/\True/\K (decide ((8:Int)<z39)) (True/\True/\A z2/\A ((2:Int)=z20)) (True/\True/\True/\True/\(∃ g_1:Nat,A ((co1 g).pre g_1)/\(z0/\A z25/\z3/\z7/\(A z2/\A (z20=(↑g_1:Int)))/\True)/\(chp True (fun j:Nat=>A (false=kn g.o g_1 j)) 8)/\True)/\∀ g_1:Nat,let z21:=(↑g_1:Int);let z4:=(z28<=z21+z24/\z21+z24<=z29); (co1 g).pre g_1->True/\K (decide (z21<z39)) (A (z20<=z21/\z21<z39)/\True/\True/\True/\True/\True/\True/\True/\True/\K (decide ((8:Int)<=(↑(g.o z21.toNat):Int))) (True/\True/\A z2/\A ((3:Int)=z20)) (bp1 (nat_lit 55) (nat_lit 0) (coI g g_1) (coJs g g_1)/\(∃ g_2:Unit,A ((coI g g_1).pre g_2)/\(z0/\A z25/\(A z2/\A ((↑(g.o z21.toNat):Int)=(↑(g.o g_1):Int)))/\z3/\z7/\(q2 z21)/\True)/\((((((((True/\A (kn g.o g_1 z9=kn g.o g_1 z9))/\A (kn g.o g_1 z11=kn g.o g_1 z11))/\A (kn g.o g_1 z13=kn g.o g_1 z13))/\A (kn g.o g_1 z14=kn g.o g_1 z14))/\A (kn g.o g_1 z15=kn g.o g_1 z15))/\A (kn g.o g_1 z16=kn g.o g_1 z16))/\A (kn g.o g_1 z17=kn g.o g_1 z17))/\A (kn g.o g_1 z18=kn g.o g_1 z18))/\True)/\(∀ h:Unit,(coJ g g_1 z9).pre h->True/\A z38/\True/\K (kn g.o g_1 (z9+(↑z9:Int).toNat*z11)) z8 (True/\A z38/\True/\A z4/\True/\∃ (g':Nat),A ((co1 g).pre g')/\((z0/\A z25/\z3/\z7/\(A z2/\A (z21+z24=(↑g':Int)))/\True)/\((((((((True/\A (true=kn g.o g' z9))/\A (kn g.o g_1 z11=kn g.o g' z11))/\A (kn g.o g_1 z13=kn g.o g' z13))/\A (kn g.o g_1 z14=kn g.o g' z14))/\A (kn g.o g_1 z15=kn g.o g' z15))/\A (kn g.o g_1 z16=kn g.o g' z16))/\A (kn g.o g_1 z17=kn g.o g' z17))/\A (kn g.o g_1 z18=kn g.o g' z18))/\True)/\A ((co1 g).meas g'<(co1 g).meas g_1)))/\(∀ h:Unit,(coJ g g_1 z11).pre h->True/\A z31/\True/\K (kn g.o g_1 (z9+(↑z11:Int).toNat*z11)) z8 (True/\A z31/\True/\A z4/\True/\∃ (g':Nat),A ((co1 g).pre g')/\((z0/\A z25/\z3/\z7/\(A z2/\A (z21+z24=(↑g':Int)))/\True)/\((((((((True/\A (kn g.o g_1 z9=kn g.o g' z9))/\A (true=kn g.o g' z11))/\A (kn g.o g_1 z13=kn g.o g' z13))/\A (kn g.o g_1 z14=kn g.o g' z14))/\A (kn g.o g_1 z15=kn g.o g' z15))/\A (kn g.o g_1 z16=kn g.o g' z16))/\A (kn g.o g_1 z17=kn g.o g' z17))/\A (kn g.o g_1 z18=kn g.o g' z18))/\True)/\A ((co1 g).meas g'<(co1 g).meas g_1)))/\(∀ h:Unit,(coJ g g_1 z13).pre h->True/\A z32/\True/\K (kn g.o g_1 (z9+(↑z13:Int).toNat*z11)) z8 (True/\A z32/\True/\A z4/\True/\∃ (g':Nat),A ((co1 g).pre g')/\((z0/\A z25/\z3/\z7/\(A z2/\A (z21+z24=(↑g':Int)))/\True)/\((((((((True/\A (kn g.o g_1 z9=kn g.o g' z9))/\A (kn g.o g_1 z11=kn g.o g' z11))/\A (true=kn g.o g' z13))/\A (kn g.o g_1 z14=kn g.o g' z14))/\A (kn g.o g_1 z15=kn g.o g' z15))/\A (kn g.o g_1 z16=kn g.o g' z16))/\A (kn g.o g_1 z17=kn g.o g' z17))/\A (kn g.o g_1 z18=kn g.o g' z18))/\True)/\A ((co1 g).meas g'<(co1 g).meas g_1)))/\(∀ h:Unit,(coJ g g_1 z14).pre h->True/\A z33/\True/\K (kn g.o g_1 (z9+(↑z14:Int).toNat*z11)) z8 (True/\A z33/\True/\A z4/\True/\∃ (g':Nat),A ((co1 g).pre g')/\((z0/\A z25/\z3/\z7/\(A z2/\A (z21+z24=(↑g':Int)))/\True)/\((((((((True/\A (kn g.o g_1 z9=kn g.o g' z9))/\A (kn g.o g_1 z11=kn g.o g' z11))/\A (kn g.o g_1 z13=kn g.o g' z13))/\A (true=kn g.o g' z14))/\A (kn g.o g_1 z15=kn g.o g' z15))/\A (kn g.o g_1 z16=kn g.o g' z16))/\A (kn g.o g_1 z17=kn g.o g' z17))/\A (kn g.o g_1 z18=kn g.o g' z18))/\True)/\A ((co1 g).meas g'<(co1 g).meas g_1)))/\(∀ h:Unit,(coJ g g_1 z15).pre h->True/\A z34/\True/\K (kn g.o g_1 (z9+(↑z15:Int).toNat*z11)) z8 (True/\A z34/\True/\A z4/\True/\∃ (g':Nat),A ((co1 g).pre g')/\((z0/\A z25/\z3/\z7/\(A z2/\A (z21+z24=(↑g':Int)))/\True)/\((((((((True/\A (kn g.o g_1 z9=kn g.o g' z9))/\A (kn g.o g_1 z11=kn g.o g' z11))/\A (kn g.o g_1 z13=kn g.o g' z13))/\A (kn g.o g_1 z14=kn g.o g' z14))/\A (true=kn g.o g' z15))/\A (kn g.o g_1 z16=kn g.o g' z16))/\A (kn g.o g_1 z17=kn g.o g' z17))/\A (kn g.o g_1 z18=kn g.o g' z18))/\True)/\A ((co1 g).meas g'<(co1 g).meas g_1)))/\(∀ h:Unit,(coJ g g_1 z16).pre h->True/\A z35/\True/\K (kn g.o g_1 (z9+(↑z16:Int).toNat*z11)) z8 (True/\A z35/\True/\A z4/\True/\∃ (g':Nat),A ((co1 g).pre g')/\((z0/\A z25/\z3/\z7/\(A z2/\A (z21+z24=(↑g':Int)))/\True)/\((((((((True/\A (kn g.o g_1 z9=kn g.o g' z9))/\A (kn g.o g_1 z11=kn g.o g' z11))/\A (kn g.o g_1 z13=kn g.o g' z13))/\A (kn g.o g_1 z14=kn g.o g' z14))/\A (kn g.o g_1 z15=kn g.o g' z15))/\A (true=kn g.o g' z16))/\A (kn g.o g_1 z17=kn g.o g' z17))/\A (kn g.o g_1 z18=kn g.o g' z18))/\True)/\A ((co1 g).meas g'<(co1 g).meas g_1)))/\(∀ h:Unit,(coJ g g_1 z17).pre h->True/\A z36/\True/\K (kn g.o g_1 (z9+(↑z17:Int).toNat*z11)) z8 (True/\A z36/\True/\A z4/\True/\∃ (g':Nat),A ((co1 g).pre g')/\((z0/\A z25/\z3/\z7/\(A z2/\A (z21+z24=(↑g':Int)))/\True)/\((((((((True/\A (kn g.o g_1 z9=kn g.o g' z9))/\A (kn g.o g_1 z11=kn g.o g' z11))/\A (kn g.o g_1 z13=kn g.o g' z13))/\A (kn g.o g_1 z14=kn g.o g' z14))/\A (kn g.o g_1 z15=kn g.o g' z15))/\A (kn g.o g_1 z16=kn g.o g' z16))/\A (true=kn g.o g' z17))/\A (kn g.o g_1 z18=kn g.o g' z18))/\True)/\A ((co1 g).meas g'<(co1 g).meas g_1)))/\(∀ h:Unit,(coJ g g_1 z18).pre h->True/\A z37/\True/\K (kn g.o g_1 (z9+(↑z18:Int).toNat*z11)) z8 (True/\A z37/\True/\A z4/\True/\∃ (g':Nat),A ((co1 g).pre g')/\((z0/\A z25/\z3/\z7/\(A z2/\A (z21+z24=(↑g':Int)))/\True)/\((((((((True/\A (kn g.o g_1 z9=kn g.o g' z9))/\A (kn g.o g_1 z11=kn g.o g' z11))/\A (kn g.o g_1 z13=kn g.o g' z13))/\A (kn g.o g_1 z14=kn g.o g' z14))/\A (kn g.o g_1 z15=kn g.o g' z15))/\A (kn g.o g_1 z16=kn g.o g' z16))/\A (kn g.o g_1 z17=kn g.o g' z17))/\A (true=kn g.o g' z18))/\True)/\A ((co1 g).meas g'<(co1 g).meas g_1)))/\True)) (True/\True/\True/\(∃ g_2:Nat,A ((coK g).pre g_2)/\(A z25/\z0/\z12/\(A z2/\A (z20=(↑g_2:Int)))/\True)/\((((((((True/\A (kn g.o g_1 z9=kn g.o g.m z9))/\A (kn g.o g_1 z11=kn g.o g.m z11))/\A (kn g.o g_1 z13=kn g.o g.m z13))/\A (kn g.o g_1 z14=kn g.o g.m z14))/\A (kn g.o g_1 z15=kn g.o g.m z15))/\A (kn g.o g_1 z16=kn g.o g.m z16))/\A (kn g.o g_1 z17=kn g.o g.m z17))/\A (kn g.o g_1 z18=kn g.o g.m z18))/\True)/\∀ g_2:Nat,let z27:=(coC g g_2);let z19:=(↑g_2:Int);let z26:=(q2 z19);let z5:=(chp True (fun j:Nat=>q6 (g.P.ink g_2 j)) 8); (coK g).pre g_2->True/\K (decide (z19<(↑g.P.n:Int))) (A (z20<=z19/\z19<(↑g.P.n:Int))/\True/\True/\True/\True/\True/\True/\(∃ g_3:Nat,A (z27.pre g_3)/\(A z25/\z0/\z12/\z26/\((((((((True/\A z6/\A (g.P.ink z19.toNat z9=g.P.ink g_2 z9))/\A z6/\A (g.P.ink z19.toNat z11=g.P.ink g_2 z11))/\A z6/\A (g.P.ink z19.toNat z13=g.P.ink g_2 z13))/\A z6/\A (g.P.ink z19.toNat z14=g.P.ink g_2 z14))/\A z6/\A (g.P.ink z19.toNat z15=g.P.ink g_2 z15))/\A z6/\A (g.P.ink z19.toNat z16=g.P.ink g_2 z16))/\A z6/\A (g.P.ink z19.toNat z17=g.P.ink g_2 z17))/\A z6/\A (g.P.ink z19.toNat z18=g.P.ink g_2 z18))/\(A z2/\A (z20=(↑g_3:Int)))/\True)/\z1/\True)/\∀ g_3:Nat,let z23:=(↑g_3:Int);let z22:=(z28<=z23+z24/\z23+z24<=z29); z27.pre g_3->True/\K (decide (z23<(8:Int))) (True/\A (z20<=z23/\z23<z10)/\True/\True/\True/\True/\True/\K (decide (g.P.ink g_2 z23.toNat≠z20)) (True/\A (z20<=z23/\z23<z10)/\K (decide (z9+z23.toNat*z11+z11<=(8:Nat))) True False/\True/\True/\K (!kn g.o g.m (z9+z23.toNat*z11)) (True/\True/\A z2/\A ((8:Int)=z20)) (A z22/\True/\∃ (g':Nat),A (z27.pre g')/\((A z25/\z0/\z12/\z26/\z5/\(A z2/\A (z23+z24=(↑g':Int)))/\True)/\z1/\True)/\A (z27.meas g'<z27.meas g_3))) (True/\A z22/\True/\∃ (g':Nat),A (z27.pre g')/\((A z25/\z0/\z12/\z26/\z5/\(A z2/\A (z23+z24=(↑g':Int)))/\True)/\z1/\True)/\A (z27.meas g'<z27.meas g_3))) (A (z28<=z19+z24/\z19+z24<=z29)/\True/\∃ (g':Nat),A ((coK g).pre g')/\((A z25/\z0/\z12/\(A z2/\A (z19+z24=(↑g':Int)))/\True)/\z1/\True)/\A ((coK g).meas g'<(coK g).meas g_2))) (True/\True/\q2 z20)))) (by kernel_rfl) ?_;simp only [chp];simp only [cln,ly,xb];have hm:=hg.m;have hn:=hg.n;refine ⟨fun h=>by omega,fun _=>⟨⟨0,lE _,rfl,⟨⟨⟨⟨⟨⟨⟨rfl,rfl⟩,rfl⟩,rfl⟩,rfl⟩,rfl⟩,rfl⟩,rfl⟩⟩,fun k hk=>⟨fun hlt=>?_,fun hge=>?_⟩⟩⟩
 ·have hkm:k<g.m:=by omega
  have ho:=hg.o k hkm;have nk:∀ j,g.o k=j->¬ kn g.o k j=true:=fun j hj h=>by
   obtain ⟨i,h1,h2⟩:=bE4.1 h;exact hg.d i k h1 hkm (h2.trans hj.symm)
  have hms:(co1 g).meas (k+1)<(co1 g).meas k:=by show g.m-(k+1)<g.m-k; omega
  refine ⟨by omega,fun h=>by omega,fun _=>⟨b40 g k,⟨(),hkm,ho⟩,?_,?_,?_,?_,?_,?_,?_,?_⟩⟩;all_goals
   intro _ hj;have hj':=hj.2;refine ⟨by omega,fun h=>absurd h (nk _ hj'),fun _=>⟨by omega,by omega,k+1,hkm,⟨rfl,?_⟩,hms⟩⟩;simp [kn,hj']
 ·have hk:k<=g.m:=hk;obtain rfl:k=g.m:=by omega
  refine ⟨⟨0,lE _,rfl,⟨⟨⟨⟨⟨⟨⟨rfl,rfl⟩,rfl⟩,rfl⟩,rfl⟩,rfl⟩,rfl⟩,rfl⟩⟩,fun a ha hlt=>⟨by omega,⟨0,⟨by omega,lE _⟩,rfl⟩,fun j hj=>⟨fun hj8=>?_,fun hj8=>?_⟩⟩⟩
  ·obtain ⟨ha',hj'⟩:=hj;have hms:(coC g a).meas (j+1)<(coC g a).meas j:=by show 8-(j+1)<8-j; omega
   have hj1:j+1<=8:=by omega
   have go:(-9223372036854775808<=(j:Int)+1/\(j:Int)+1<=9223372036854775807)/\∃ g':Nat,(coC g a).pre g'/\(j:Int)+1=(g':Int)/\(coC g a).meas g'<(coC g a).meas j:=⟨by omega,j+1,⟨ha',hj1⟩,rfl,hms⟩
   refine ⟨by omega,fun hc=>⟨by omega,fun h=>h hj1,fun h=>?_,fun _=>go⟩,fun _=>go⟩;have:=bE4.2 (hg.c a j ha' hj1 hc)
   rw [this] at h;cases h
  ·exact ⟨by omega,a+1,by show a+1<=g.P.n; omega,rfl,by show g.P.n-(a+1)<g.P.n-a; omega⟩
structure CkG where
 w:Nat
 h:Nat
 c:CoG
 r:Nat
structure CkG.Ok (g:CkG):Prop where
 P:ChG.Ok ⟨g.w,g.h,g.c.P⟩
 c:g.c.Ok
 r:g.r<=64
def spCk:FSpec:=ac8 32 (γ:=CkG) (fun | [.int _ w,.int _ h,s,.sl m _ o,.int _ r]=>some ⟨w.toNat,h.toNat,⟨pcD s,m,fun k=>(Sx.intOf (o k 0)).toNat⟩,r.toNat⟩ | _=>none) (fun g=>[.int .i64 g.w,.int .i64 g.h,pcS g.c.P,orS g.c.m g.c.o,.int .i64 g.r]) CkG.Ok (fun _=> .int .i64 0)
theorem ok_ck:aa9 Tw.prog spCk:=by
 refine ab0 (specs:=[aW4,spCo]) (ac7 (⟨a84,ok_co,trivial⟩)) (eqs:=[]) (fun _ _ h=>(lx h).elim) Aff.mixed Tw.func32 rfl (by kernel_rfl) (fun _ _=>by kernel_rfl) (fun g=>A0) (fun g=>li (by kernel_rfl)) ?_;rintro g hg;refine af7 (B:=let A:=Sx.Ask;let z2:=(IntKind.u8=IntKind.u8);let q2:=fun p:Int=>A z2/\A (p=p);let z1:=(IntKind.i64=IntKind.i64);let q1:=fun p:Int=>A z1/\A (p=p);let z0:=(A (g.c.P.n=g.c.P.n)/\∀ i:Nat,i<g.c.P.n->(chp (True/\A (g.c.P.m i=g.c.P.m i)/\∀ i_1:Nat,let z3:=(g.c.P.p i i_1); i_1<g.c.P.m i->((True/\q1 z3.y)/\q1 z3.x0)/\q1 z3.x1) (fun j:Nat=>q2 (g.c.P.ink i j)) 7)/\q2 (g.c.P.ink i (7:Nat)));True/\True/\True/\True/\(((A z1/\A ((↑g.w:Int)=(↑(↑g.w:Int).toNat:Int)))/\(A z1/\A ((↑g.h:Int)=(↑(↑g.h:Int).toNat:Int)))/\z0/\True)/\A (ChG.mk (↑g.w:Int).toNat (↑g.h:Int).toNat g.c.P).Ok)/\True/\True/\True/\True/\True/\((z0/\(A (g.c.m=g.c.m)/\∀ i:Nat,i<g.c.m->True/\q1 ((↑(g.c.o i):Int)))/\True)/\A g.c.Ok)/\True/\True/\True/\True/\True/\True/\True/\True/\True/\Br (decide ((64:Int)<(↑g.r:Int))) (True/\True/\A z1/\A ((3:Int)=(0:Int))) (True/\True/\q1 ((0:Int)))) (by kernel_rfl) ?_;simp only [chp];simp only [cln,ly,xb];have hr:=hg.r;exact ⟨hg.P,hg.c,fun h=>by omega⟩
end Tco
end Go.Proofs.Ytbkgncikjhibiaa
